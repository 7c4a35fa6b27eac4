/- Part 4 of the texts of a claim: LnkVa LnkVb -/
import Derived.Test.YtngegjboenfmeaaPb1
import Derived.Test.YtngegjboenfmeaaPb2
import Derived.Test.YtngegjboenfmeaaPb3
namespace Go.Proofs.Ytngegjboenfmeaa
open Go Go.RowKit Go.Shelf
set_option linter.unusedVariables false
set_option maxRecDepth 100000
set_option linter.unusedSimpArgs false
attribute [local go_sem] Oper.semAt_some

set_option maxHeartbeats 51200000 in
theorem takeNo {w0 w : World} {Qs : List SP} {X : SP} {g now : Nat} {s : LS} {f : Fr} {bx : Value} {A : Option Addr} {c : Nat} (h : Sep w0 w (Ce g 72 (s.cells bx) :: BoxT bx s.box :: X :: Qs)) (hX : Reads X A f.body) (hs : s.Num) (hbl : f.body.length ≤ maxLen) (hack : f.ack < 18446744073709551616) (hseq : f.seq < 18446744073709551616) (hnow : now < 18446744073709551616) (hlk : s.looks f = false) :
  Calls Try.prog 15 #[.pointer (some ⟨g, 0, none⟩), .int .u64 (now : Int), .agg (f.cells A c)] w (Ans w0 g (X :: Qs) (s.takeF now f) (s.takeE now f) (s.take now f)) := by
 obtain ⟨BA, bc, rfl, hcc, hcm, hbx⟩ := sep_boxForm (i := 1) h rfl hs.small; have HOK := Lib.hid hs; obtain ⟨sS, HSS⟩ : ∃ x, Hid (s = x) := ⟨_, Lib.hid rfl⟩; obtain ⟨fF, HFF⟩ : ∃ x, Hid (f = x) := ⟨_, Lib.hid rfl⟩; have HOS : Hid (sS.Num) := Lib.hid (by rw [← HSS.out]; exact HOK.out)
 suffices hgoal : Calls Try.prog 15 #[.pointer (some ⟨g, 0, none⟩), .int .u64 (now : Int), .agg (f.cells A c)] w (Ans w0 g (X :: Qs) (sS.takeF now fF) (sS.takeE now fF) (sS.take now fF)) by
  rw [HSS.out, HFF.out]; rw [HFF.out] at hgoal; exact hgoal
 obtain ⟨base, box, got, sn, si, peer, conn, inc, known, up, heard, sent⟩ := s; obtain ⟨kk, ffr, fto, finc, fconn, pinc, pconn, ack, seq, body⟩ := f; have hsn : sn ≠ 0 := hs.sn; have HSN := Lib.hid hsn; have HBL : Hid (body.length ≤ maxLen) := Lib.hid hbl; have hack : ack < 18446744073709551616 := hack; have hseq : seq < 18446744073709551616 := hseq; have HX : Hid (Reads X A body) := Lib.hid hX; obtain ⟨p1, Hp1⟩ : ∃ q, Hid ((!(mayB kk ffr fto finc fconn pinc pconn ack seq body.length && decide (ffr = peer) && decide (fto = sn))) = q) := ⟨_, Lib.hid rfl⟩; obtain ⟨p2, Hp2⟩ : ∃ q, Hid ((decide (finc < inc) || (decide (finc = inc) && decide (fconn < known))) = q) := ⟨_, Lib.hid rfl⟩
 obtain ⟨p3, Hp3⟩ : ∃ q, Hid ((decide (finc ≠ inc) || decide (fconn ≠ known)) = q) := ⟨_, Lib.hid rfl⟩
 have HLOOK : Hid (sS.looks fF = (!p1 && !p2)) := Lib.hid (by rw [← HSS.out, ← HFF.out, ← Hp1.out, ← Hp2.out]; simp [LS.looks]); have HOTH : Hid (sS.other fF = p3) := Lib.hid (by rw [← HSS.out, ← HFF.out]; exact Hp3.out); show Calls Try.prog 15 #[.pointer (some ⟨g, 0, none⟩), .int .u64 (now : Int), .agg #[.int .i64 kk, .int .i64 ffr, .int .i64 fto, .int .u64 (finc : Int), .int .u64 (fconn : Int), .int .u64 (pinc : Int), .int .u64 (pconn : Int), .int .u64 (ack : Int), .int .u64 (seq : Int), .slice A body.length c]] w _; have HS0 := Lib.hid (show Sep w0 (((((w.alloc (.cells #[.pointer (some ⟨g, 0, none⟩)] 26)).alloc (.cells #[.int .u64 (now : Int)] 28)).alloc (.cells #[.int .i64 kk, .int .i64 ffr, .int .i64 fto, .int .u64 (finc : Int), .int .u64 (fconn : Int), .int .u64 (pinc : Int), .int .u64 (pconn : Int), .int .u64 (ack : Int), .int .u64 (seq : Int), .slice A body.length c] 51)).alloc (.cells #[.slice none 0 0, .slice none 0 0] 43)).alloc (.cells #[.slice none 0 0, .slice none 0 0] 43)) (TKaF w now g X Qs kk ffr fto finc fconn pinc pconn ack seq A body.length c (Rw 51 10 (.slice none 0 0) 0 []) (Bods []) (Rw 49 4 (.slice none 0 0) 0 []) (Bods []) (#[.slice none 0 0, .slice none 0 0]) (#[.int .u64 (base : Int), .slice BA box.length bc, .int .u64 (got : Int), .int .i64 sn, .int .u64 (si : Int), .int .i64 peer, .int .u64 (conn : Int), .int .u64 (inc : Int), .int .u64 (known : Int), .bool up, .int .u64 (heard : Int), .int .u64 (sent : Int)]) (BoxT (.slice BA box.length bc) box)) by
  have := sep_ceF (sep_ceF (sep_ceF (sep_ceF (sep_ceF h #[.pointer (some ⟨g, 0, none⟩)] 26) #[.int .u64 (now : Int)] 28) #[.int .i64 kk, .int .i64 ffr, .int .i64 fto, .int .u64 (finc : Int), .int .u64 (fconn : Int), .int .u64 (pinc : Int), .int .u64 (pconn : Int), .int .u64 (ack : Int), .int .u64 (seq : Int), .slice A body.length c] 51) #[.slice none 0 0, .slice none 0 0] 43) #[.slice none 0 0, .slice none 0 0] 43
  simp only [World.size_alloc] at this; have := sep_bodsNil (sep_rwNil (sep_bodsNil (sep_rwNil this 51 10).lastFront) 49 4).lastFront; exact (((((((((((this).tF 7 rfl).tF 7 rfl).tF 10 rfl).tF 10 rfl).tF 10 rfl).tF 10 rfl).tF 10 rfl).tF 7 rfl).tF 8 rfl).tF 9 rfl).tF 10 rfl)
 clear h hs hsn hbx hbl hX; refine calls_marks 6 Try.func15 rfl ?_; have HLOOK2 : Hid (sS.looks fF = false) := Lib.hid (by rw [← HSS.out, ← HFF.out]; exact hlk); clear hlk; simp only [Try.ntmps15, List.size_toArray, List.length_cons, List.length_nil, Nat.reduceAdd, Nat.reduceSub, Array.replicate_succ, Array.replicate_zero, List.push_toArray, List.append_toArray, List.nil_append, List.cons_append]
 go_upto_region 2 with fail
 go_cut [42] from 16 to 42 (fun t wx => t = .bool p1 ∧ Sep w0 wx (TKaF w now g X Qs kk ffr fto finc fconn pinc pconn ack seq A body.length c (Rw 51 10 (.slice none 0 0) 0 []) (Bods []) (Rw 49 4 (.slice none 0 0) 0 []) (Bods []) (#[.slice none 0 0, .slice none 0 0]) (#[.int .u64 (base : Int), .slice BA box.length bc, .int .u64 (got : Int), .int .i64 sn, .int .u64 (si : Int), .int .i64 peer, .int .u64 (conn : Int), .int .u64 (inc : Int), .int .u64 (known : Int), .bool up, .int .u64 (heard : Int), .int .u64 (sent : Int)]) (BoxT (.slice BA box.length bc) box)))
 case first =>
  by_cases hm : mayB kk ffr fto finc fconn pinc pconn ack seq body.length = true
  ·have HM := Lib.hid hm; clear hm
   by_cases hf : ffr = peer
   ·have e1 : (ffr != peer) = false := by simp [hf]
    have Hf := Lib.hid hf; clear hf
    by_cases ht : fto = sn
    ·have e2 : (fto != sn) = false := by simp [ht]
     have Ht := Lib.hid ht; clear ht
     go_wp2_with fail
     refine wRF (fun dn xv W => Sep w0 W (TKaF w now g X Qs kk ffr fto finc fconn pinc pconn ack seq A body.length c (Rw 51 10 (.slice none 0 0) 0 []) (Bods []) (Rw 49 4 (.slice none 0 0) 0 []) (Bods []) (#[.slice none 0 0, .slice none 0 0]) (#[.int .u64 (base : Int), .slice BA box.length bc, .int .u64 (got : Int), .int .i64 sn, .int .u64 (si : Int), .int .i64 peer, .int .u64 (conn : Int), .int .u64 (inc : Int), .int .u64 (known : Int), .bool up, .int .u64 (heard : Int), .int .u64 (sent : Int)]) (BoxT (.slice BA box.length bc) box))) (fun _ _ => True) [fun v _ => v = .pointer (some ⟨g, 0, none⟩), fun v _ => v = .bool true, fun v _ => v = .bool false, fun v _ => v = .bool false, fun v _ => v = .agg #[.int .i64 kk, .int .i64 ffr, .int .i64 fto, .int .u64 (finc : Int), .int .u64 (fconn : Int), .int .u64 (pinc : Int), .int .u64 (pconn : Int), .int .u64 (ack : Int), .int .u64 (seq : Int), .slice A body.length c], fun v _ => v = .bool true, fun v _ => v = .bool false, fun v _ => v = .bool false, fun v _ => v = .bool false, fun v _ => v = .pointer (some ⟨w.heap.size + 1 + 1, 1, none⟩), fun v _ => v = .int .i64 ffr, fun v _ => v = .pointer (some ⟨g, 0, none⟩), fun v _ => v = .pointer (some ⟨g, 0, none⟩), fun v _ => v = .pointer (some ⟨g, 5, none⟩), fun v _ => v = .int .i64 peer, fun v _ => v = .bool false, fun v _ => v = .bool false, fun v _ => v = .bool false, fun v _ => v = .pointer (some ⟨w.heap.size + 1 + 1, 2, none⟩), fun v _ => v = .int .i64 fto, fun v _ => v = .pointer (some ⟨g, 0, none⟩), fun v _ => v = .pointer (some ⟨g, 0, none⟩), fun v _ => v = .pointer (some ⟨g, 3, none⟩), fun v _ => v = .pointer (some ⟨g, 3, none⟩), fun v _ => v = .int .i64 sn, fun v _ => v = .bool false, fun v _ => v = .bool false] (by kernel_rfl) (by kernel_rfl) (by kernel_rfl) (by kernel_rfl) (fun xv => by simpa using HS0.out.drew)
      (by repeat (first | exact trivial | refine ⟨fun _ _ _ _ h => h, ?_⟩)) ?_ ?_
     ·refine EC 1 rfl (fun g h W F a b c d e H K f => ?_) ?_
      ·have f3 : F.tmps.getD 3 undef = .pointer (some ⟨w.heap.size, 0, none⟩) := (a 3).trans (by kernel_rfl); have k6_0 := cA (i := 6) e rfl 0 rfl; clear H c b d a; refine oP rfl ?_; go_simp; exact f.out _ _ rfl trivial e
      refine EC 2 rfl (fun j k W F a b c d f H K h => ?_) ?_
      ·have f16 := gE (a 16) (by kernel_rfl) (H 0) (by kernel_rfl); clear H c b d a; refine oP rfl ?_; go_simp; refine (made_yes W g sn HSN.out (cA (i := 7) f rfl 3 rfl)).mono ?_; rintro e W' ⟨rfl, hb⟩; exact h.out _ W' rfl trivial (by simpa [upB, upd] using f.grow hb)
      refine EC 3 rfl (fun g h W F a b c d e H K f => ?_) ?_
      ·have f17 := gE (a 17) (by kernel_rfl) (H 1) (by kernel_rfl); clear H c b d a; refine oP rfl ?_; go_simp; exact f.out _ _ rfl trivial e
      refine EC 4 rfl (fun g h W F a b c d e H K f => ?_) ?_
      ·have f18 := gE (a 18) (by kernel_rfl) (H 2) (by kernel_rfl); clear H c b d a; refine oP rfl ?_; go_simp; exact f.out _ _ rfl trivial e
      refine EC 5 rfl (fun g h W F a b c d e H K f => ?_) ?_
      ·have f5 : F.tmps.getD 5 undef = .pointer (some ⟨w.heap.size + 1 + 1, 0, none⟩) := (a 5).trans (by kernel_rfl); have f19 := gE (a 19) (by kernel_rfl) (H 3) (by kernel_rfl); have k9_0 := cA (i := 9) e rfl 0 rfl; have k9_1 := cA (i := 9) e rfl 1 rfl; have k9_2 := cA (i := 9) e rfl 2 rfl; have k9_3 := cA (i := 9) e rfl 3 rfl; have k9_4 := cA (i := 9) e rfl 4 rfl; have k9_5 := cA (i := 9) e rfl 5 rfl; have k9_6 := cA (i := 9) e rfl 6 rfl; have k9_7 := cA (i := 9) e rfl 7 rfl; have k9_8 := cA (i := 9) e rfl 8 rfl; have k9_9 := cA (i := 9) e rfl 9 rfl; clear H c b d a; refine oG rfl (by kernel_rfl) f19 ?_; go_simp; exact f.out _ _ rfl trivial e
      refine EC 6 rfl (fun i j W F a b d f g H K h => ?_) ?_
      ·have f20 := gE (a 20) (by kernel_rfl) (H 4) (by kernel_rfl); have f19 := gE (a 19) (by kernel_rfl) (H 3) (by kernel_rfl); clear H d b f a; refine oG rfl (by kernel_rfl) f19 ?_; go_simp; refine (mayFk (w := W) (c := c) (A := A) HM.out HBL.out).mono ?_; rintro e W' ⟨rfl, hb⟩; exact h.out _ W' rfl trivial (by simpa [upB, upd] using g.grow hb)
      refine EC 7 rfl (fun g h W F a b c d e H K f => ?_) ?_
      ·have f21 := gE (a 21) (by kernel_rfl) (H 5) (by kernel_rfl); have f19 := gE (a 19) (by kernel_rfl) (H 3) (by kernel_rfl); clear H c b d a; refine oG rfl (by kernel_rfl) f19 ?_; go_simp; exact f.out _ _ rfl trivial e
      refine EC 8 rfl (fun g h W F a b c d e H K f => ?_) ?_
      ·have f19 := gE (a 19) (by kernel_rfl) (H 3) (by kernel_rfl); have f22 := gE (a 22) (by kernel_rfl) (H 6) (by kernel_rfl); clear H c b d a; refine oP rfl ?_; go_simp; exact f.out _ _ rfl trivial e
      refine EC 9 rfl (fun g h W F a b c d e H K f => ?_) ?_
      ·have f23 := gE (a 23) (by kernel_rfl) (H 7) (by kernel_rfl); clear H c b d a; refine oP rfl ?_; go_simp; exact f.out _ _ rfl trivial e
      refine EC 10 rfl (fun g h W F a b c d e H K f => ?_) ?_
      ·have f5 : F.tmps.getD 5 undef = .pointer (some ⟨w.heap.size + 1 + 1, 0, none⟩) := (a 5).trans (by kernel_rfl); have f24 := gE (a 24) (by kernel_rfl) (H 8) (by kernel_rfl); clear H c b d a; refine oG rfl (by kernel_rfl) f24 ?_; go_simp; exact f.out _ _ rfl trivial e
      refine EC 11 rfl (fun g h W F a b c d e H K f => ?_) ?_
      ·have f25 := gE (a 25) (by kernel_rfl) (H 9) (by kernel_rfl); have f24 := gE (a 24) (by kernel_rfl) (H 8) (by kernel_rfl); have k9_1 := cA (i := 9) e rfl 1 rfl; clear H c b d a; refine oG rfl (by kernel_rfl) f24 ?_; go_simp; exact f.out _ _ rfl trivial e
      refine EC 12 rfl (fun g h W F a b c d e H K f => ?_) ?_
      ·have f3 : F.tmps.getD 3 undef = .pointer (some ⟨w.heap.size, 0, none⟩) := (a 3).trans (by kernel_rfl); have f24 := gE (a 24) (by kernel_rfl) (H 8) (by kernel_rfl); have k6_0 := cA (i := 6) e rfl 0 rfl; clear H c b d a; refine oG rfl (by kernel_rfl) f24 ?_; go_simp; exact f.out _ _ rfl trivial e
      refine EC 13 rfl (fun g h W F a b c d e H K f => ?_) ?_
      ·have f27 := gE (a 27) (by kernel_rfl) (H 11) (by kernel_rfl); have f24 := gE (a 24) (by kernel_rfl) (H 8) (by kernel_rfl); clear H c b d a; refine oG rfl (by kernel_rfl) f24 ?_; go_simp; exact f.out _ _ rfl trivial e
      refine EC 14 rfl (fun g h W F a b c d e H K f => ?_) ?_
      ·have f28 := gE (a 28) (by kernel_rfl) (H 12) (by kernel_rfl); have f24 := gE (a 24) (by kernel_rfl) (H 8) (by kernel_rfl); clear H c b d a; refine oG rfl (by kernel_rfl) f24 ?_; go_simp; exact f.out _ _ rfl trivial e
      refine EC 15 rfl (fun g h W F a b c d e H K f => ?_) ?_
      ·have f29 := gE (a 29) (by kernel_rfl) (H 13) (by kernel_rfl); have f24 := gE (a 24) (by kernel_rfl) (H 8) (by kernel_rfl); have k7_5 := cA (i := 7) e rfl 5 rfl; clear H c b d a; refine oG rfl (by kernel_rfl) f24 ?_; go_simp; exact f.out _ _ rfl trivial e
      refine EC 16 rfl (fun g h W F a b c d e H K f => ?_) ?_
      ·have f26 := gE (a 26) (by kernel_rfl) (H 10) (by kernel_rfl); have f30 := gE (a 30) (by kernel_rfl) (H 14) (by kernel_rfl); have f24 := gE (a 24) (by kernel_rfl) (H 8) (by kernel_rfl); clear H c b d a; refine oG rfl (by kernel_rfl) f24 ?_; go_simp; exact f.out _ _ rfl trivial e
      refine EC 17 rfl (fun g h W F a b c d e H K f => ?_) ?_
      ·have f24 := gE (a 24) (by kernel_rfl) (H 8) (by kernel_rfl); have f31 := gE (a 31) (by kernel_rfl) (H 15) (by kernel_rfl); clear H c b d a; refine oP rfl ?_; go_simp; exact f.out _ _ rfl trivial e
      refine EC 18 rfl (fun g h W F a b c d e H K f => ?_) ?_
      ·have f32 := gE (a 32) (by kernel_rfl) (H 16) (by kernel_rfl); clear H c b d a; refine oP rfl ?_; go_simp; exact f.out _ _ rfl trivial e
      refine EC 19 rfl (fun g h W F a b c d e H K f => ?_) ?_
      ·have f5 : F.tmps.getD 5 undef = .pointer (some ⟨w.heap.size + 1 + 1, 0, none⟩) := (a 5).trans (by kernel_rfl); have f33 := gE (a 33) (by kernel_rfl) (H 17) (by kernel_rfl); clear H c b d a; refine oG rfl (by kernel_rfl) f33 ?_; go_simp; exact f.out _ _ rfl trivial e
      refine EC 20 rfl (fun g h W F a b c d e H K f => ?_) ?_
      ·have f34 := gE (a 34) (by kernel_rfl) (H 18) (by kernel_rfl); have f33 := gE (a 33) (by kernel_rfl) (H 17) (by kernel_rfl); have k9_2 := cA (i := 9) e rfl 2 rfl; clear H c b d a; refine oG rfl (by kernel_rfl) f33 ?_; go_simp; exact f.out _ _ rfl trivial e
      refine EC 21 rfl (fun g h W F a b c d e H K f => ?_) ?_
      ·have f3 : F.tmps.getD 3 undef = .pointer (some ⟨w.heap.size, 0, none⟩) := (a 3).trans (by kernel_rfl); have f33 := gE (a 33) (by kernel_rfl) (H 17) (by kernel_rfl); have k6_0 := cA (i := 6) e rfl 0 rfl; clear H c b d a; refine oG rfl (by kernel_rfl) f33 ?_; go_simp; exact f.out _ _ rfl trivial e
      refine EC 22 rfl (fun g h W F a b c d e H K f => ?_) ?_
      ·have f36 := gE (a 36) (by kernel_rfl) (H 20) (by kernel_rfl); have f33 := gE (a 33) (by kernel_rfl) (H 17) (by kernel_rfl); clear H c b d a; refine oG rfl (by kernel_rfl) f33 ?_; go_simp; exact f.out _ _ rfl trivial e
      refine EC 23 rfl (fun g h W F a b c d e H K f => ?_) ?_
      ·have f37 := gE (a 37) (by kernel_rfl) (H 21) (by kernel_rfl); have f33 := gE (a 33) (by kernel_rfl) (H 17) (by kernel_rfl); clear H c b d a; refine oG rfl (by kernel_rfl) f33 ?_; go_simp; exact f.out _ _ rfl trivial e
      refine EC 24 rfl (fun g h W F a b c d e H K f => ?_) ?_
      ·have f38 := gE (a 38) (by kernel_rfl) (H 22) (by kernel_rfl); have f33 := gE (a 33) (by kernel_rfl) (H 17) (by kernel_rfl); clear H c b d a; refine oG rfl (by kernel_rfl) f33 ?_; go_simp; exact f.out _ _ rfl trivial e
      refine EC 25 rfl (fun g h W F a b c d e H K f => ?_) ?_
      ·have f39 := gE (a 39) (by kernel_rfl) (H 23) (by kernel_rfl); have f33 := gE (a 33) (by kernel_rfl) (H 17) (by kernel_rfl); have k7_3 := cA (i := 7) e rfl 3 rfl; clear H c b d a; refine oG rfl (by kernel_rfl) f33 ?_; go_simp; exact f.out _ _ rfl trivial e
      refine EC 26 rfl (fun g h W F a b c d e H K f => ?_) ?_
      ·have f35 := gE (a 35) (by kernel_rfl) (H 19) (by kernel_rfl); have f40 := gE (a 40) (by kernel_rfl) (H 24) (by kernel_rfl); have f33 := gE (a 33) (by kernel_rfl) (H 17) (by kernel_rfl); clear H c b d a; refine oG rfl (by kernel_rfl) f33 ?_; go_simp; exact f.out _ _ rfl trivial e
      refine EC 27 rfl (fun g h W F a b c d e H K f => ?_) ?_
      ·have f33 := gE (a 33) (by kernel_rfl) (H 17) (by kernel_rfl); have f41 := gE (a 41) (by kernel_rfl) (H 25) (by kernel_rfl); clear H c b d a; refine oP rfl ?_; go_simp; exact f.out _ _ rfl trivial e
      exact EN
     ·intro dn xv W hI H; have q26 : xv 26 = .bool false := (H 26 (of_decide_eq_true (by kernel_rfl))).2; have hS : Sep w0 W (TKaF w now g X Qs kk ffr fto finc fconn pinc pconn ack seq A body.length c (Rw 51 10 (.slice none 0 0) 0 []) (Bods []) (Rw 49 4 (.slice none 0 0) 0 []) (Bods []) (#[.slice none 0 0, .slice none 0 0]) (#[.int .u64 (base : Int), .slice BA box.length bc, .int .u64 (got : Int), .int .i64 sn, .int .u64 (si : Int), .int .i64 peer, .int .u64 (conn : Int), .int .u64 (inc : Int), .int .u64 (known : Int), .bool up, .int .u64 (heard : Int), .int .u64 (sent : Int)]) (BoxT (.slice BA box.length bc) box)) := hI; clear H hI; simp only [putAll, Act.put, List.setIfInBounds_toArray, List.set_cons_zero, List.set_cons_succ, Nat.reduceAdd, q26]; clear q26
      go_wp2_with fail
      go_meet
      case rel => exact ⟨by rw [← Hp1.out, HM.out, decide_eq_true Hf.out, decide_eq_true Ht.out]; rfl, hS⟩
    ·have e2 : (fto != sn) = true := by simp [ht]
     have Ht := Lib.hid ht; clear ht
     go_wp2_with fail
     refine wRF (fun dn xv W => Sep w0 W (TKaF w now g X Qs kk ffr fto finc fconn pinc pconn ack seq A body.length c (Rw 51 10 (.slice none 0 0) 0 []) (Bods []) (Rw 49 4 (.slice none 0 0) 0 []) (Bods []) (#[.slice none 0 0, .slice none 0 0]) (#[.int .u64 (base : Int), .slice BA box.length bc, .int .u64 (got : Int), .int .i64 sn, .int .u64 (si : Int), .int .i64 peer, .int .u64 (conn : Int), .int .u64 (inc : Int), .int .u64 (known : Int), .bool up, .int .u64 (heard : Int), .int .u64 (sent : Int)]) (BoxT (.slice BA box.length bc) box))) (fun _ _ => True) [fun v _ => v = .pointer (some ⟨g, 0, none⟩), fun v _ => v = .bool true, fun v _ => v = .bool false, fun v _ => v = .bool false, fun v _ => v = .agg #[.int .i64 kk, .int .i64 ffr, .int .i64 fto, .int .u64 (finc : Int), .int .u64 (fconn : Int), .int .u64 (pinc : Int), .int .u64 (pconn : Int), .int .u64 (ack : Int), .int .u64 (seq : Int), .slice A body.length c], fun v _ => v = .bool true, fun v _ => v = .bool false, fun v _ => v = .bool false, fun v _ => v = .bool false, fun v _ => v = .pointer (some ⟨w.heap.size + 1 + 1, 1, none⟩), fun v _ => v = .int .i64 ffr, fun v _ => v = .pointer (some ⟨g, 0, none⟩), fun v _ => v = .pointer (some ⟨g, 0, none⟩), fun v _ => v = .pointer (some ⟨g, 5, none⟩), fun v _ => v = .int .i64 peer, fun v _ => v = .bool false, fun v _ => v = .bool false, fun v _ => v = .bool false, fun v _ => v = .pointer (some ⟨w.heap.size + 1 + 1, 2, none⟩), fun v _ => v = .int .i64 fto, fun v _ => v = .pointer (some ⟨g, 0, none⟩), fun v _ => v = .pointer (some ⟨g, 0, none⟩), fun v _ => v = .pointer (some ⟨g, 3, none⟩), fun v _ => v = .pointer (some ⟨g, 3, none⟩), fun v _ => v = .int .i64 sn, fun v _ => v = .bool true, fun v _ => v = .bool true] (by kernel_rfl) (by kernel_rfl) (by kernel_rfl) (by kernel_rfl) (fun xv => by simpa using HS0.out.drew)
      (by repeat (first | exact trivial | refine ⟨fun _ _ _ _ h => h, ?_⟩)) ?_ ?_
     ·refine EC 1 rfl (fun g h W F a b c d e H K f => ?_) ?_
      ·have f3 : F.tmps.getD 3 undef = .pointer (some ⟨w.heap.size, 0, none⟩) := (a 3).trans (by kernel_rfl); have k6_0 := cA (i := 6) e rfl 0 rfl; clear H c b d a; refine oP rfl ?_; go_simp; exact f.out _ _ rfl trivial e
      refine EC 2 rfl (fun j k W F a b c d f H K h => ?_) ?_
      ·have f16 := gE (a 16) (by kernel_rfl) (H 0) (by kernel_rfl); clear H c b d a; refine oP rfl ?_; go_simp; refine (made_yes W g sn HSN.out (cA (i := 7) f rfl 3 rfl)).mono ?_; rintro e W' ⟨rfl, hb⟩; exact h.out _ W' rfl trivial (by simpa [upB, upd] using f.grow hb)
      refine EC 3 rfl (fun g h W F a b c d e H K f => ?_) ?_
      ·have f17 := gE (a 17) (by kernel_rfl) (H 1) (by kernel_rfl); clear H c b d a; refine oP rfl ?_; go_simp; exact f.out _ _ rfl trivial e
      refine EC 4 rfl (fun g h W F a b c d e H K f => ?_) ?_
      ·have f18 := gE (a 18) (by kernel_rfl) (H 2) (by kernel_rfl); clear H c b d a; refine oP rfl ?_; go_simp; exact f.out _ _ rfl trivial e
      refine EC 5 rfl (fun g h W F a b c d e H K f => ?_) ?_
      ·have f5 : F.tmps.getD 5 undef = .pointer (some ⟨w.heap.size + 1 + 1, 0, none⟩) := (a 5).trans (by kernel_rfl); have f19 := gE (a 19) (by kernel_rfl) (H 3) (by kernel_rfl); have k9_0 := cA (i := 9) e rfl 0 rfl; have k9_1 := cA (i := 9) e rfl 1 rfl; have k9_2 := cA (i := 9) e rfl 2 rfl; have k9_3 := cA (i := 9) e rfl 3 rfl; have k9_4 := cA (i := 9) e rfl 4 rfl; have k9_5 := cA (i := 9) e rfl 5 rfl; have k9_6 := cA (i := 9) e rfl 6 rfl; have k9_7 := cA (i := 9) e rfl 7 rfl; have k9_8 := cA (i := 9) e rfl 8 rfl; have k9_9 := cA (i := 9) e rfl 9 rfl; clear H c b d a; refine oG rfl (by kernel_rfl) f19 ?_; go_simp; exact f.out _ _ rfl trivial e
      refine EC 6 rfl (fun i j W F a b d f g H K h => ?_) ?_
      ·have f20 := gE (a 20) (by kernel_rfl) (H 4) (by kernel_rfl); have f19 := gE (a 19) (by kernel_rfl) (H 3) (by kernel_rfl); clear H d b f a; refine oG rfl (by kernel_rfl) f19 ?_; go_simp; refine (mayFk (w := W) (c := c) (A := A) HM.out HBL.out).mono ?_; rintro e W' ⟨rfl, hb⟩; exact h.out _ W' rfl trivial (by simpa [upB, upd] using g.grow hb)
      refine EC 7 rfl (fun g h W F a b c d e H K f => ?_) ?_
      ·have f21 := gE (a 21) (by kernel_rfl) (H 5) (by kernel_rfl); have f19 := gE (a 19) (by kernel_rfl) (H 3) (by kernel_rfl); clear H c b d a; refine oG rfl (by kernel_rfl) f19 ?_; go_simp; exact f.out _ _ rfl trivial e
      refine EC 8 rfl (fun g h W F a b c d e H K f => ?_) ?_
      ·have f19 := gE (a 19) (by kernel_rfl) (H 3) (by kernel_rfl); have f22 := gE (a 22) (by kernel_rfl) (H 6) (by kernel_rfl); clear H c b d a; refine oP rfl ?_; go_simp; exact f.out _ _ rfl trivial e
      refine EC 9 rfl (fun g h W F a b c d e H K f => ?_) ?_
      ·have f23 := gE (a 23) (by kernel_rfl) (H 7) (by kernel_rfl); clear H c b d a; refine oP rfl ?_; go_simp; exact f.out _ _ rfl trivial e
      refine EC 10 rfl (fun g h W F a b c d e H K f => ?_) ?_
      ·have f5 : F.tmps.getD 5 undef = .pointer (some ⟨w.heap.size + 1 + 1, 0, none⟩) := (a 5).trans (by kernel_rfl); have f24 := gE (a 24) (by kernel_rfl) (H 8) (by kernel_rfl); clear H c b d a; refine oG rfl (by kernel_rfl) f24 ?_; go_simp; exact f.out _ _ rfl trivial e
      refine EC 11 rfl (fun g h W F a b c d e H K f => ?_) ?_
      ·have f25 := gE (a 25) (by kernel_rfl) (H 9) (by kernel_rfl); have f24 := gE (a 24) (by kernel_rfl) (H 8) (by kernel_rfl); have k9_1 := cA (i := 9) e rfl 1 rfl; clear H c b d a; refine oG rfl (by kernel_rfl) f24 ?_; go_simp; exact f.out _ _ rfl trivial e
      refine EC 12 rfl (fun g h W F a b c d e H K f => ?_) ?_
      ·have f3 : F.tmps.getD 3 undef = .pointer (some ⟨w.heap.size, 0, none⟩) := (a 3).trans (by kernel_rfl); have f24 := gE (a 24) (by kernel_rfl) (H 8) (by kernel_rfl); have k6_0 := cA (i := 6) e rfl 0 rfl; clear H c b d a; refine oG rfl (by kernel_rfl) f24 ?_; go_simp; exact f.out _ _ rfl trivial e
      refine EC 13 rfl (fun g h W F a b c d e H K f => ?_) ?_
      ·have f27 := gE (a 27) (by kernel_rfl) (H 11) (by kernel_rfl); have f24 := gE (a 24) (by kernel_rfl) (H 8) (by kernel_rfl); clear H c b d a; refine oG rfl (by kernel_rfl) f24 ?_; go_simp; exact f.out _ _ rfl trivial e
      refine EC 14 rfl (fun g h W F a b c d e H K f => ?_) ?_
      ·have f28 := gE (a 28) (by kernel_rfl) (H 12) (by kernel_rfl); have f24 := gE (a 24) (by kernel_rfl) (H 8) (by kernel_rfl); clear H c b d a; refine oG rfl (by kernel_rfl) f24 ?_; go_simp; exact f.out _ _ rfl trivial e
      refine EC 15 rfl (fun g h W F a b c d e H K f => ?_) ?_
      ·have f29 := gE (a 29) (by kernel_rfl) (H 13) (by kernel_rfl); have f24 := gE (a 24) (by kernel_rfl) (H 8) (by kernel_rfl); have k7_5 := cA (i := 7) e rfl 5 rfl; clear H c b d a; refine oG rfl (by kernel_rfl) f24 ?_; go_simp; exact f.out _ _ rfl trivial e
      refine EC 16 rfl (fun g h W F a b c d e H K f => ?_) ?_
      ·have f26 := gE (a 26) (by kernel_rfl) (H 10) (by kernel_rfl); have f30 := gE (a 30) (by kernel_rfl) (H 14) (by kernel_rfl); have f24 := gE (a 24) (by kernel_rfl) (H 8) (by kernel_rfl); clear H c b d a; refine oG rfl (by kernel_rfl) f24 ?_; go_simp; exact f.out _ _ rfl trivial e
      refine EC 17 rfl (fun g h W F a b c d e H K f => ?_) ?_
      ·have f24 := gE (a 24) (by kernel_rfl) (H 8) (by kernel_rfl); have f31 := gE (a 31) (by kernel_rfl) (H 15) (by kernel_rfl); clear H c b d a; refine oP rfl ?_; go_simp; exact f.out _ _ rfl trivial e
      refine EC 18 rfl (fun g h W F a b c d e H K f => ?_) ?_
      ·have f32 := gE (a 32) (by kernel_rfl) (H 16) (by kernel_rfl); clear H c b d a; refine oP rfl ?_; go_simp; exact f.out _ _ rfl trivial e
      refine EC 19 rfl (fun g h W F a b c d e H K f => ?_) ?_
      ·have f5 : F.tmps.getD 5 undef = .pointer (some ⟨w.heap.size + 1 + 1, 0, none⟩) := (a 5).trans (by kernel_rfl); have f33 := gE (a 33) (by kernel_rfl) (H 17) (by kernel_rfl); clear H c b d a; refine oG rfl (by kernel_rfl) f33 ?_; go_simp; exact f.out _ _ rfl trivial e
      refine EC 20 rfl (fun g h W F a b c d e H K f => ?_) ?_
      ·have f34 := gE (a 34) (by kernel_rfl) (H 18) (by kernel_rfl); have f33 := gE (a 33) (by kernel_rfl) (H 17) (by kernel_rfl); have k9_2 := cA (i := 9) e rfl 2 rfl; clear H c b d a; refine oG rfl (by kernel_rfl) f33 ?_; go_simp; exact f.out _ _ rfl trivial e
      refine EC 21 rfl (fun g h W F a b c d e H K f => ?_) ?_
      ·have f3 : F.tmps.getD 3 undef = .pointer (some ⟨w.heap.size, 0, none⟩) := (a 3).trans (by kernel_rfl); have f33 := gE (a 33) (by kernel_rfl) (H 17) (by kernel_rfl); have k6_0 := cA (i := 6) e rfl 0 rfl; clear H c b d a; refine oG rfl (by kernel_rfl) f33 ?_; go_simp; exact f.out _ _ rfl trivial e
      refine EC 22 rfl (fun g h W F a b c d e H K f => ?_) ?_
      ·have f36 := gE (a 36) (by kernel_rfl) (H 20) (by kernel_rfl); have f33 := gE (a 33) (by kernel_rfl) (H 17) (by kernel_rfl); clear H c b d a; refine oG rfl (by kernel_rfl) f33 ?_; go_simp; exact f.out _ _ rfl trivial e
      refine EC 23 rfl (fun g h W F a b c d e H K f => ?_) ?_
      ·have f37 := gE (a 37) (by kernel_rfl) (H 21) (by kernel_rfl); have f33 := gE (a 33) (by kernel_rfl) (H 17) (by kernel_rfl); clear H c b d a; refine oG rfl (by kernel_rfl) f33 ?_; go_simp; exact f.out _ _ rfl trivial e
      refine EC 24 rfl (fun g h W F a b c d e H K f => ?_) ?_
      ·have f38 := gE (a 38) (by kernel_rfl) (H 22) (by kernel_rfl); have f33 := gE (a 33) (by kernel_rfl) (H 17) (by kernel_rfl); clear H c b d a; refine oG rfl (by kernel_rfl) f33 ?_; go_simp; exact f.out _ _ rfl trivial e
      refine EC 25 rfl (fun g h W F a b c d e H K f => ?_) ?_
      ·have f39 := gE (a 39) (by kernel_rfl) (H 23) (by kernel_rfl); have f33 := gE (a 33) (by kernel_rfl) (H 17) (by kernel_rfl); have k7_3 := cA (i := 7) e rfl 3 rfl; clear H c b d a; refine oG rfl (by kernel_rfl) f33 ?_; go_simp; exact f.out _ _ rfl trivial e
      refine EC 26 rfl (fun g h W F a b c d e H K f => ?_) ?_
      ·have f35 := gE (a 35) (by kernel_rfl) (H 19) (by kernel_rfl); have f40 := gE (a 40) (by kernel_rfl) (H 24) (by kernel_rfl); have f33 := gE (a 33) (by kernel_rfl) (H 17) (by kernel_rfl); clear H c b d a; refine oG rfl (by kernel_rfl) f33 ?_; go_simp; exact f.out _ _ rfl trivial e
      refine EC 27 rfl (fun g h W F a b c d e H K f => ?_) ?_
      ·have f33 := gE (a 33) (by kernel_rfl) (H 17) (by kernel_rfl); have f41 := gE (a 41) (by kernel_rfl) (H 25) (by kernel_rfl); clear H c b d a; refine oP rfl ?_; go_simp; exact f.out _ _ rfl trivial e
      exact EN
     ·intro dn xv W hI H; have q26 : xv 26 = .bool true := (H 26 (of_decide_eq_true (by kernel_rfl))).2; have hS : Sep w0 W (TKaF w now g X Qs kk ffr fto finc fconn pinc pconn ack seq A body.length c (Rw 51 10 (.slice none 0 0) 0 []) (Bods []) (Rw 49 4 (.slice none 0 0) 0 []) (Bods []) (#[.slice none 0 0, .slice none 0 0]) (#[.int .u64 (base : Int), .slice BA box.length bc, .int .u64 (got : Int), .int .i64 sn, .int .u64 (si : Int), .int .i64 peer, .int .u64 (conn : Int), .int .u64 (inc : Int), .int .u64 (known : Int), .bool up, .int .u64 (heard : Int), .int .u64 (sent : Int)]) (BoxT (.slice BA box.length bc) box)) := hI; clear H hI; simp only [putAll, Act.put, List.setIfInBounds_toArray, List.set_cons_zero, List.set_cons_succ, Nat.reduceAdd, q26]; clear q26
      go_wp2_with fail
      go_meet
      case rel => exact ⟨by rw [← Hp1.out, HM.out, decide_eq_true Hf.out, decide_eq_false Ht.out]; rfl, hS⟩
   ·have e1 : (ffr != peer) = true := by simp [hf]
    have Hf := Lib.hid hf; clear hf
    go_wp2_with fail
    refine wRF (fun dn xv W => Sep w0 W (TKaF w now g X Qs kk ffr fto finc fconn pinc pconn ack seq A body.length c (Rw 51 10 (.slice none 0 0) 0 []) (Bods []) (Rw 49 4 (.slice none 0 0) 0 []) (Bods []) (#[.slice none 0 0, .slice none 0 0]) (#[.int .u64 (base : Int), .slice BA box.length bc, .int .u64 (got : Int), .int .i64 sn, .int .u64 (si : Int), .int .i64 peer, .int .u64 (conn : Int), .int .u64 (inc : Int), .int .u64 (known : Int), .bool up, .int .u64 (heard : Int), .int .u64 (sent : Int)]) (BoxT (.slice BA box.length bc) box))) (fun _ _ => True) [fun v _ => v = .pointer (some ⟨g, 0, none⟩), fun v _ => v = .bool true, fun v _ => v = .bool false, fun v _ => v = .bool false, fun v _ => v = .agg #[.int .i64 kk, .int .i64 ffr, .int .i64 fto, .int .u64 (finc : Int), .int .u64 (fconn : Int), .int .u64 (pinc : Int), .int .u64 (pconn : Int), .int .u64 (ack : Int), .int .u64 (seq : Int), .slice A body.length c], fun v _ => v = .bool true, fun v _ => v = .bool false, fun v _ => v = .bool false, fun v _ => v = .bool false, fun v _ => v = .pointer (some ⟨w.heap.size + 1 + 1, 1, none⟩), fun v _ => v = .int .i64 ffr, fun v _ => v = .pointer (some ⟨g, 0, none⟩), fun v _ => v = .pointer (some ⟨g, 0, none⟩), fun v _ => v = .pointer (some ⟨g, 5, none⟩), fun v _ => v = .int .i64 peer, fun v _ => v = .bool true, fun v _ => v = .bool true, fun v _ => v = .bool true, fun v _ => v = undef, fun v _ => v = undef, fun v _ => v = undef, fun v _ => v = undef, fun v _ => v = undef, fun v _ => v = undef, fun v _ => v = undef, fun v _ => v = undef, fun v _ => v = .bool true] (by kernel_rfl) (by kernel_rfl) (by kernel_rfl) (by kernel_rfl) (fun xv => by simpa using HS0.out.drew)
     (by repeat (first | exact trivial | refine ⟨fun _ _ _ _ h => h, ?_⟩)) ?_ ?_
    ·refine EC 1 rfl (fun g h W F a b c d e H K f => ?_) ?_
     ·have f3 : F.tmps.getD 3 undef = .pointer (some ⟨w.heap.size, 0, none⟩) := (a 3).trans (by kernel_rfl); have k6_0 := cA (i := 6) e rfl 0 rfl; clear H c b d a; refine oP rfl ?_; go_simp; exact f.out _ _ rfl trivial e
     refine EC 2 rfl (fun j k W F a b c d f H K h => ?_) ?_
     ·have f16 := gE (a 16) (by kernel_rfl) (H 0) (by kernel_rfl); clear H c b d a; refine oP rfl ?_; go_simp; refine (made_yes W g sn HSN.out (cA (i := 7) f rfl 3 rfl)).mono ?_; rintro e W' ⟨rfl, hb⟩; exact h.out _ W' rfl trivial (by simpa [upB, upd] using f.grow hb)
     refine EC 3 rfl (fun g h W F a b c d e H K f => ?_) ?_
     ·have f17 := gE (a 17) (by kernel_rfl) (H 1) (by kernel_rfl); clear H c b d a; refine oP rfl ?_; go_simp; exact f.out _ _ rfl trivial e
     refine EC 4 rfl (fun g h W F a b c d e H K f => ?_) ?_
     ·have f18 := gE (a 18) (by kernel_rfl) (H 2) (by kernel_rfl); clear H c b d a; refine oP rfl ?_; go_simp; exact f.out _ _ rfl trivial e
     refine EC 5 rfl (fun g h W F a b c d e H K f => ?_) ?_
     ·have f5 : F.tmps.getD 5 undef = .pointer (some ⟨w.heap.size + 1 + 1, 0, none⟩) := (a 5).trans (by kernel_rfl); have f19 := gE (a 19) (by kernel_rfl) (H 3) (by kernel_rfl); have k9_0 := cA (i := 9) e rfl 0 rfl; have k9_1 := cA (i := 9) e rfl 1 rfl; have k9_2 := cA (i := 9) e rfl 2 rfl; have k9_3 := cA (i := 9) e rfl 3 rfl; have k9_4 := cA (i := 9) e rfl 4 rfl; have k9_5 := cA (i := 9) e rfl 5 rfl; have k9_6 := cA (i := 9) e rfl 6 rfl; have k9_7 := cA (i := 9) e rfl 7 rfl; have k9_8 := cA (i := 9) e rfl 8 rfl; have k9_9 := cA (i := 9) e rfl 9 rfl; clear H c b d a; refine oG rfl (by kernel_rfl) f19 ?_; go_simp; exact f.out _ _ rfl trivial e
     refine EC 6 rfl (fun i j W F a b d f g H K h => ?_) ?_
     ·have f20 := gE (a 20) (by kernel_rfl) (H 4) (by kernel_rfl); have f19 := gE (a 19) (by kernel_rfl) (H 3) (by kernel_rfl); clear H d b f a; refine oG rfl (by kernel_rfl) f19 ?_; go_simp; refine (mayFk (w := W) (c := c) (A := A) HM.out HBL.out).mono ?_; rintro e W' ⟨rfl, hb⟩; exact h.out _ W' rfl trivial (by simpa [upB, upd] using g.grow hb)
     refine EC 7 rfl (fun g h W F a b c d e H K f => ?_) ?_
     ·have f21 := gE (a 21) (by kernel_rfl) (H 5) (by kernel_rfl); have f19 := gE (a 19) (by kernel_rfl) (H 3) (by kernel_rfl); clear H c b d a; refine oG rfl (by kernel_rfl) f19 ?_; go_simp; exact f.out _ _ rfl trivial e
     refine EC 8 rfl (fun g h W F a b c d e H K f => ?_) ?_
     ·have f19 := gE (a 19) (by kernel_rfl) (H 3) (by kernel_rfl); have f22 := gE (a 22) (by kernel_rfl) (H 6) (by kernel_rfl); clear H c b d a; refine oP rfl ?_; go_simp; exact f.out _ _ rfl trivial e
     refine EC 9 rfl (fun g h W F a b c d e H K f => ?_) ?_
     ·have f23 := gE (a 23) (by kernel_rfl) (H 7) (by kernel_rfl); clear H c b d a; refine oP rfl ?_; go_simp; exact f.out _ _ rfl trivial e
     refine EC 10 rfl (fun g h W F a b c d e H K f => ?_) ?_
     ·have f5 : F.tmps.getD 5 undef = .pointer (some ⟨w.heap.size + 1 + 1, 0, none⟩) := (a 5).trans (by kernel_rfl); have f24 := gE (a 24) (by kernel_rfl) (H 8) (by kernel_rfl); clear H c b d a; refine oG rfl (by kernel_rfl) f24 ?_; go_simp; exact f.out _ _ rfl trivial e
     refine EC 11 rfl (fun g h W F a b c d e H K f => ?_) ?_
     ·have f25 := gE (a 25) (by kernel_rfl) (H 9) (by kernel_rfl); have f24 := gE (a 24) (by kernel_rfl) (H 8) (by kernel_rfl); have k9_1 := cA (i := 9) e rfl 1 rfl; clear H c b d a; refine oG rfl (by kernel_rfl) f24 ?_; go_simp; exact f.out _ _ rfl trivial e
     refine EC 12 rfl (fun g h W F a b c d e H K f => ?_) ?_
     ·have f3 : F.tmps.getD 3 undef = .pointer (some ⟨w.heap.size, 0, none⟩) := (a 3).trans (by kernel_rfl); have f24 := gE (a 24) (by kernel_rfl) (H 8) (by kernel_rfl); have k6_0 := cA (i := 6) e rfl 0 rfl; clear H c b d a; refine oG rfl (by kernel_rfl) f24 ?_; go_simp; exact f.out _ _ rfl trivial e
     refine EC 13 rfl (fun g h W F a b c d e H K f => ?_) ?_
     ·have f27 := gE (a 27) (by kernel_rfl) (H 11) (by kernel_rfl); have f24 := gE (a 24) (by kernel_rfl) (H 8) (by kernel_rfl); clear H c b d a; refine oG rfl (by kernel_rfl) f24 ?_; go_simp; exact f.out _ _ rfl trivial e
     refine EC 14 rfl (fun g h W F a b c d e H K f => ?_) ?_
     ·have f28 := gE (a 28) (by kernel_rfl) (H 12) (by kernel_rfl); have f24 := gE (a 24) (by kernel_rfl) (H 8) (by kernel_rfl); clear H c b d a; refine oG rfl (by kernel_rfl) f24 ?_; go_simp; exact f.out _ _ rfl trivial e
     refine EC 15 rfl (fun g h W F a b c d e H K f => ?_) ?_
     ·have f29 := gE (a 29) (by kernel_rfl) (H 13) (by kernel_rfl); have f24 := gE (a 24) (by kernel_rfl) (H 8) (by kernel_rfl); have k7_5 := cA (i := 7) e rfl 5 rfl; clear H c b d a; refine oG rfl (by kernel_rfl) f24 ?_; go_simp; exact f.out _ _ rfl trivial e
     refine EC 16 rfl (fun g h W F a b c d e H K f => ?_) ?_
     ·have f26 := gE (a 26) (by kernel_rfl) (H 10) (by kernel_rfl); have f30 := gE (a 30) (by kernel_rfl) (H 14) (by kernel_rfl); have f24 := gE (a 24) (by kernel_rfl) (H 8) (by kernel_rfl); clear H c b d a; refine oG rfl (by kernel_rfl) f24 ?_; go_simp; exact f.out _ _ rfl trivial e
     refine EC 17 rfl (fun g h W F a b c d e H K f => ?_) ?_
     ·have f24 := gE (a 24) (by kernel_rfl) (H 8) (by kernel_rfl); have f31 := gE (a 31) (by kernel_rfl) (H 15) (by kernel_rfl); clear H c b d a; refine oP rfl ?_; go_simp; exact f.out _ _ rfl trivial e
     refine EC 18 rfl (fun g h W F a b c d e H K f => ?_) ?_
     ·have f32 := gE (a 32) (by kernel_rfl) (H 16) (by kernel_rfl); clear H c b d a; refine oP rfl ?_; go_simp; exact f.out _ _ rfl trivial e
     refine EC 19 rfl (fun g h W F a b c d e H K f => ?_) ?_
     ·have f33 := gE (a 33) (by kernel_rfl) (H 17) (by kernel_rfl); clear H c b d a; refine off_guard rfl (by kernel_rfl) f33 (by decide) ?_; exact f.out _ _ rfl trivial e
     refine EC 20 rfl (fun g h W F a b c d e H K f => ?_) ?_
     ·have f33 := gE (a 33) (by kernel_rfl) (H 17) (by kernel_rfl); have k9_2 := cA (i := 9) e rfl 2 rfl; clear H c b d a; refine off_guard rfl (by kernel_rfl) f33 (by decide) ?_; exact f.out _ _ rfl trivial e
     refine EC 21 rfl (fun g h W F a b c d e H K f => ?_) ?_
     ·have f33 := gE (a 33) (by kernel_rfl) (H 17) (by kernel_rfl); have k6_0 := cA (i := 6) e rfl 0 rfl; clear H c b d a; refine off_guard rfl (by kernel_rfl) f33 (by decide) ?_; exact f.out _ _ rfl trivial e
     refine EC 22 rfl (fun g h W F a b c d e H K f => ?_) ?_
     ·have f33 := gE (a 33) (by kernel_rfl) (H 17) (by kernel_rfl); clear H c b d a; refine off_guard rfl (by kernel_rfl) f33 (by decide) ?_; exact f.out _ _ rfl trivial e
     refine EC 23 rfl (fun g h W F a b c d e H K f => ?_) ?_
     ·have f33 := gE (a 33) (by kernel_rfl) (H 17) (by kernel_rfl); clear H c b d a; refine off_guard rfl (by kernel_rfl) f33 (by decide) ?_; exact f.out _ _ rfl trivial e
     refine EC 24 rfl (fun g h W F a b c d e H K f => ?_) ?_
     ·have f33 := gE (a 33) (by kernel_rfl) (H 17) (by kernel_rfl); clear H c b d a; refine off_guard rfl (by kernel_rfl) f33 (by decide) ?_; exact f.out _ _ rfl trivial e
     refine EC 25 rfl (fun g h W F a b c d e H K f => ?_) ?_
     ·have f33 := gE (a 33) (by kernel_rfl) (H 17) (by kernel_rfl); have k7_3 := cA (i := 7) e rfl 3 rfl; clear H c b d a; refine off_guard rfl (by kernel_rfl) f33 (by decide) ?_; exact f.out _ _ rfl trivial e
     refine EC 26 rfl (fun g h W F a b c d e H K f => ?_) ?_
     ·have f33 := gE (a 33) (by kernel_rfl) (H 17) (by kernel_rfl); clear H c b d a; refine off_guard rfl (by kernel_rfl) f33 (by decide) ?_; exact f.out _ _ rfl trivial e
     refine EC 27 rfl (fun g h W F a b c d e H K f => ?_) ?_
     ·have f33 := gE (a 33) (by kernel_rfl) (H 17) (by kernel_rfl); have f41 := gE (a 41) (by kernel_rfl) (H 25) (by kernel_rfl); clear H c b d a; refine oP rfl ?_; go_simp; exact f.out _ _ rfl trivial e
     exact EN
    ·intro dn xv W hI H; have q26 : xv 26 = .bool true := (H 26 (of_decide_eq_true (by kernel_rfl))).2; have hS : Sep w0 W (TKaF w now g X Qs kk ffr fto finc fconn pinc pconn ack seq A body.length c (Rw 51 10 (.slice none 0 0) 0 []) (Bods []) (Rw 49 4 (.slice none 0 0) 0 []) (Bods []) (#[.slice none 0 0, .slice none 0 0]) (#[.int .u64 (base : Int), .slice BA box.length bc, .int .u64 (got : Int), .int .i64 sn, .int .u64 (si : Int), .int .i64 peer, .int .u64 (conn : Int), .int .u64 (inc : Int), .int .u64 (known : Int), .bool up, .int .u64 (heard : Int), .int .u64 (sent : Int)]) (BoxT (.slice BA box.length bc) box)) := hI; clear H hI; simp only [putAll, Act.put, List.setIfInBounds_toArray, List.set_cons_zero, List.set_cons_succ, Nat.reduceAdd, q26]; clear q26
     go_wp2_with fail
     go_meet
     case rel => exact ⟨by rw [← Hp1.out, HM.out, decide_eq_false Hf.out]; rfl, hS⟩
  ·simp only [Bool.not_eq_true] at hm; have HM := Lib.hid hm; clear hm
   go_wp2_with fail
   refine wRF (fun dn xv W => Sep w0 W (TKaF w now g X Qs kk ffr fto finc fconn pinc pconn ack seq A body.length c (Rw 51 10 (.slice none 0 0) 0 []) (Bods []) (Rw 49 4 (.slice none 0 0) 0 []) (Bods []) (#[.slice none 0 0, .slice none 0 0]) (#[.int .u64 (base : Int), .slice BA box.length bc, .int .u64 (got : Int), .int .i64 sn, .int .u64 (si : Int), .int .i64 peer, .int .u64 (conn : Int), .int .u64 (inc : Int), .int .u64 (known : Int), .bool up, .int .u64 (heard : Int), .int .u64 (sent : Int)]) (BoxT (.slice BA box.length bc) box))) (fun _ _ => True) [fun v _ => v = .pointer (some ⟨g, 0, none⟩), fun v _ => v = .bool true, fun v _ => v = .bool false, fun v _ => v = .bool false, fun v _ => v = .agg #[.int .i64 kk, .int .i64 ffr, .int .i64 fto, .int .u64 (finc : Int), .int .u64 (fconn : Int), .int .u64 (pinc : Int), .int .u64 (pconn : Int), .int .u64 (ack : Int), .int .u64 (seq : Int), .slice A body.length c], fun v _ => v = .bool false, fun v _ => v = .bool true, fun v _ => v = .bool true, fun v _ => v = .bool true, fun v _ => v = undef, fun v _ => v = undef, fun v _ => v = undef, fun v _ => v = undef, fun v _ => v = undef, fun v _ => v = undef, fun v _ => v = undef, fun v _ => v = .bool true, fun v _ => v = .bool true, fun v _ => v = undef, fun v _ => v = undef, fun v _ => v = undef, fun v _ => v = undef, fun v _ => v = undef, fun v _ => v = undef, fun v _ => v = undef, fun v _ => v = undef, fun v _ => v = .bool true] (by kernel_rfl) (by kernel_rfl) (by kernel_rfl) (by kernel_rfl) (fun xv => by simpa using HS0.out.drew)
    (by repeat (first | exact trivial | refine ⟨fun _ _ _ _ h => h, ?_⟩)) ?_ ?_
   ·refine EC 1 rfl (fun g h W F a b c d e H K f => ?_) ?_
    ·have f3 : F.tmps.getD 3 undef = .pointer (some ⟨w.heap.size, 0, none⟩) := (a 3).trans (by kernel_rfl); have k6_0 := cA (i := 6) e rfl 0 rfl; clear H c b d a; refine oP rfl ?_; go_simp; exact f.out _ _ rfl trivial e
    refine EC 2 rfl (fun j k W F a b c d f H K h => ?_) ?_
    ·have f16 := gE (a 16) (by kernel_rfl) (H 0) (by kernel_rfl); clear H c b d a; refine oP rfl ?_; go_simp; refine (made_yes W g sn HSN.out (cA (i := 7) f rfl 3 rfl)).mono ?_; rintro e W' ⟨rfl, hb⟩; exact h.out _ W' rfl trivial (by simpa [upB, upd] using f.grow hb)
    refine EC 3 rfl (fun g h W F a b c d e H K f => ?_) ?_
    ·have f17 := gE (a 17) (by kernel_rfl) (H 1) (by kernel_rfl); clear H c b d a; refine oP rfl ?_; go_simp; exact f.out _ _ rfl trivial e
    refine EC 4 rfl (fun g h W F a b c d e H K f => ?_) ?_
    ·have f18 := gE (a 18) (by kernel_rfl) (H 2) (by kernel_rfl); clear H c b d a; refine oP rfl ?_; go_simp; exact f.out _ _ rfl trivial e
    refine EC 5 rfl (fun g h W F a b c d e H K f => ?_) ?_
    ·have f5 : F.tmps.getD 5 undef = .pointer (some ⟨w.heap.size + 1 + 1, 0, none⟩) := (a 5).trans (by kernel_rfl); have f19 := gE (a 19) (by kernel_rfl) (H 3) (by kernel_rfl); have k9_0 := cA (i := 9) e rfl 0 rfl; have k9_1 := cA (i := 9) e rfl 1 rfl; have k9_2 := cA (i := 9) e rfl 2 rfl; have k9_3 := cA (i := 9) e rfl 3 rfl; have k9_4 := cA (i := 9) e rfl 4 rfl; have k9_5 := cA (i := 9) e rfl 5 rfl; have k9_6 := cA (i := 9) e rfl 6 rfl; have k9_7 := cA (i := 9) e rfl 7 rfl; have k9_8 := cA (i := 9) e rfl 8 rfl; have k9_9 := cA (i := 9) e rfl 9 rfl; clear H c b d a; refine oG rfl (by kernel_rfl) f19 ?_; go_simp; exact f.out _ _ rfl trivial e
    refine EC 6 rfl (fun i j W F a b d f g H K h => ?_) ?_
    ·have f20 := gE (a 20) (by kernel_rfl) (H 4) (by kernel_rfl); have f19 := gE (a 19) (by kernel_rfl) (H 3) (by kernel_rfl); clear H d b f a; refine oG rfl (by kernel_rfl) f19 ?_; go_simp; refine (mayFk (w := W) (c := c) (A := A) HM.out HBL.out).mono ?_; rintro e W' ⟨rfl, hb⟩; exact h.out _ W' rfl trivial (by simpa [upB, upd] using g.grow hb)
    refine EC 7 rfl (fun g h W F a b c d e H K f => ?_) ?_
    ·have f21 := gE (a 21) (by kernel_rfl) (H 5) (by kernel_rfl); have f19 := gE (a 19) (by kernel_rfl) (H 3) (by kernel_rfl); clear H c b d a; refine oG rfl (by kernel_rfl) f19 ?_; go_simp; exact f.out _ _ rfl trivial e
    refine EC 8 rfl (fun g h W F a b c d e H K f => ?_) ?_
    ·have f19 := gE (a 19) (by kernel_rfl) (H 3) (by kernel_rfl); have f22 := gE (a 22) (by kernel_rfl) (H 6) (by kernel_rfl); clear H c b d a; refine oP rfl ?_; go_simp; exact f.out _ _ rfl trivial e
    refine EC 9 rfl (fun g h W F a b c d e H K f => ?_) ?_
    ·have f23 := gE (a 23) (by kernel_rfl) (H 7) (by kernel_rfl); clear H c b d a; refine oP rfl ?_; go_simp; exact f.out _ _ rfl trivial e
    refine EC 10 rfl (fun g h W F a b c d e H K f => ?_) ?_
    ·have f24 := gE (a 24) (by kernel_rfl) (H 8) (by kernel_rfl); clear H c b d a; refine off_guard rfl (by kernel_rfl) f24 (by decide) ?_; exact f.out _ _ rfl trivial e
    refine EC 11 rfl (fun g h W F a b c d e H K f => ?_) ?_
    ·have f24 := gE (a 24) (by kernel_rfl) (H 8) (by kernel_rfl); have k9_1 := cA (i := 9) e rfl 1 rfl; clear H c b d a; refine off_guard rfl (by kernel_rfl) f24 (by decide) ?_; exact f.out _ _ rfl trivial e
    refine EC 12 rfl (fun g h W F a b c d e H K f => ?_) ?_
    ·have f24 := gE (a 24) (by kernel_rfl) (H 8) (by kernel_rfl); have k6_0 := cA (i := 6) e rfl 0 rfl; clear H c b d a; refine off_guard rfl (by kernel_rfl) f24 (by decide) ?_; exact f.out _ _ rfl trivial e
    refine EC 13 rfl (fun g h W F a b c d e H K f => ?_) ?_
    ·have f24 := gE (a 24) (by kernel_rfl) (H 8) (by kernel_rfl); clear H c b d a; refine off_guard rfl (by kernel_rfl) f24 (by decide) ?_; exact f.out _ _ rfl trivial e
    refine EC 14 rfl (fun g h W F a b c d e H K f => ?_) ?_
    ·have f24 := gE (a 24) (by kernel_rfl) (H 8) (by kernel_rfl); clear H c b d a; refine off_guard rfl (by kernel_rfl) f24 (by decide) ?_; exact f.out _ _ rfl trivial e
    refine EC 15 rfl (fun g h W F a b c d e H K f => ?_) ?_
    ·have f24 := gE (a 24) (by kernel_rfl) (H 8) (by kernel_rfl); have k7_5 := cA (i := 7) e rfl 5 rfl; clear H c b d a; refine off_guard rfl (by kernel_rfl) f24 (by decide) ?_; exact f.out _ _ rfl trivial e
    refine EC 16 rfl (fun g h W F a b c d e H K f => ?_) ?_
    ·have f24 := gE (a 24) (by kernel_rfl) (H 8) (by kernel_rfl); clear H c b d a; refine off_guard rfl (by kernel_rfl) f24 (by decide) ?_; exact f.out _ _ rfl trivial e
    refine EC 17 rfl (fun g h W F a b c d e H K f => ?_) ?_
    ·have f24 := gE (a 24) (by kernel_rfl) (H 8) (by kernel_rfl); have f31 := gE (a 31) (by kernel_rfl) (H 15) (by kernel_rfl); clear H c b d a; refine oP rfl ?_; go_simp; exact f.out _ _ rfl trivial e
    refine EC 18 rfl (fun g h W F a b c d e H K f => ?_) ?_
    ·have f32 := gE (a 32) (by kernel_rfl) (H 16) (by kernel_rfl); clear H c b d a; refine oP rfl ?_; go_simp; exact f.out _ _ rfl trivial e
    refine EC 19 rfl (fun g h W F a b c d e H K f => ?_) ?_
    ·have f33 := gE (a 33) (by kernel_rfl) (H 17) (by kernel_rfl); clear H c b d a; refine off_guard rfl (by kernel_rfl) f33 (by decide) ?_; exact f.out _ _ rfl trivial e
    refine EC 20 rfl (fun g h W F a b c d e H K f => ?_) ?_
    ·have f33 := gE (a 33) (by kernel_rfl) (H 17) (by kernel_rfl); have k9_2 := cA (i := 9) e rfl 2 rfl; clear H c b d a; refine off_guard rfl (by kernel_rfl) f33 (by decide) ?_; exact f.out _ _ rfl trivial e
    refine EC 21 rfl (fun g h W F a b c d e H K f => ?_) ?_
    ·have f33 := gE (a 33) (by kernel_rfl) (H 17) (by kernel_rfl); have k6_0 := cA (i := 6) e rfl 0 rfl; clear H c b d a; refine off_guard rfl (by kernel_rfl) f33 (by decide) ?_; exact f.out _ _ rfl trivial e
    refine EC 22 rfl (fun g h W F a b c d e H K f => ?_) ?_
    ·have f33 := gE (a 33) (by kernel_rfl) (H 17) (by kernel_rfl); clear H c b d a; refine off_guard rfl (by kernel_rfl) f33 (by decide) ?_; exact f.out _ _ rfl trivial e
    refine EC 23 rfl (fun g h W F a b c d e H K f => ?_) ?_
    ·have f33 := gE (a 33) (by kernel_rfl) (H 17) (by kernel_rfl); clear H c b d a; refine off_guard rfl (by kernel_rfl) f33 (by decide) ?_; exact f.out _ _ rfl trivial e
    refine EC 24 rfl (fun g h W F a b c d e H K f => ?_) ?_
    ·have f33 := gE (a 33) (by kernel_rfl) (H 17) (by kernel_rfl); clear H c b d a; refine off_guard rfl (by kernel_rfl) f33 (by decide) ?_; exact f.out _ _ rfl trivial e
    refine EC 25 rfl (fun g h W F a b c d e H K f => ?_) ?_
    ·have f33 := gE (a 33) (by kernel_rfl) (H 17) (by kernel_rfl); have k7_3 := cA (i := 7) e rfl 3 rfl; clear H c b d a; refine off_guard rfl (by kernel_rfl) f33 (by decide) ?_; exact f.out _ _ rfl trivial e
    refine EC 26 rfl (fun g h W F a b c d e H K f => ?_) ?_
    ·have f33 := gE (a 33) (by kernel_rfl) (H 17) (by kernel_rfl); clear H c b d a; refine off_guard rfl (by kernel_rfl) f33 (by decide) ?_; exact f.out _ _ rfl trivial e
    refine EC 27 rfl (fun g h W F a b c d e H K f => ?_) ?_
    ·have f33 := gE (a 33) (by kernel_rfl) (H 17) (by kernel_rfl); have f41 := gE (a 41) (by kernel_rfl) (H 25) (by kernel_rfl); clear H c b d a; refine oP rfl ?_; go_simp; exact f.out _ _ rfl trivial e
    exact EN
   ·intro dn xv W hI H; have q26 : xv 26 = .bool true := (H 26 (of_decide_eq_true (by kernel_rfl))).2; have hS : Sep w0 W (TKaF w now g X Qs kk ffr fto finc fconn pinc pconn ack seq A body.length c (Rw 51 10 (.slice none 0 0) 0 []) (Bods []) (Rw 49 4 (.slice none 0 0) 0 []) (Bods []) (#[.slice none 0 0, .slice none 0 0]) (#[.int .u64 (base : Int), .slice BA box.length bc, .int .u64 (got : Int), .int .i64 sn, .int .u64 (si : Int), .int .i64 peer, .int .u64 (conn : Int), .int .u64 (inc : Int), .int .u64 (known : Int), .bool up, .int .u64 (heard : Int), .int .u64 (sent : Int)]) (BoxT (.slice BA box.length bc) box)) := hI; clear H hI; simp only [putAll, Act.put, List.setIfInBounds_toArray, List.set_cons_zero, List.set_cons_succ, Nat.reduceAdd, q26]; clear q26
    go_wp2_with fail
    go_meet
    case rel => exact ⟨by rw [← Hp1.out, HM.out]; rfl, hS⟩
 case rest =>
  obtain ⟨rfl, hS⟩ := hcut; clear HS0; have HS2 := Lib.hid hS; clear hS; cases p1 with
  | true =>
   have HLK : Hid (sS.looks fF = false) := Lib.hid (by rw [HLOOK.out]; rfl); have k0 := cA (i := 4) HS2.out rfl 0 rfl; have k1 := cA (i := 4) HS2.out rfl 1 rfl; have y0 := cFz (i := 5) HS2.out rfl 0; have y1 := cFz (i := 5) HS2.out rfl 1; have z0 := cA (i := 5) HS2.out rfl 0 rfl; have z1 := cA (i := 5) HS2.out rfl 1 rfl; have HSZ := Lib.hid (cS (i := 5) (cS (i := 5) HS2.out rfl 0 (.slice none 0 0)) rfl 1 (.slice none 0 0))
   go_wp2_with fail
   have k0 := cA (i := 5) HSZ.out rfl 0 rfl; have k1 := cA (i := 5) HSZ.out rfl 1 rfl; refine ⟨.agg #[.slice none 0 0, .slice none 0 0], by simp [results, Try.results15, go_sem, k0, k1], ?_⟩; refine ⟨_, _, .slice BA box.length bc, [], [], rfl, ?_, ?_, ?_⟩
   ·rw [LS.takeF, if_neg (by rw [HLK.out]; simp)]; rfl
   ·rw [LS.takeE, if_neg (by rw [HLK.out]; simp)]; rfl
   ·have hx := ((((HSZ.out.drop 4).drop 4).drop 4).drop 6).drop 6; rw [LS.take, if_neg (by rw [HLK.out]; simp), ← HSS.out]; exact hx
  | false =>
   have hm2 : mayB kk ffr fto finc fconn pinc pconn ack seq body.length = true ∧ ffr = peer ∧ fto = sn := by
    have h := Hp1.out; simp only [Bool.not_eq_false', Bool.and_eq_true, decide_eq_true_eq] at h; exact ⟨h.1.1, h.1.2, h.2⟩
   have hb448 : body.length ≤ 448 := mayB_len hm2.1; clear hm2
   go_upto_region 4 with fail
   go_cut [68] from 44 to 68 (fun t wx => t = .bool p2 ∧ Sep w0 wx (TKaF w now g X Qs kk ffr fto finc fconn pinc pconn ack seq A body.length c (Rw 51 10 (.slice none 0 0) 0 []) (Bods []) (Rw 49 4 (.slice none 0 0) 0 []) (Bods []) (#[.slice none 0 0, .slice none 0 0]) (#[.int .u64 (base : Int), .slice BA box.length bc, .int .u64 (got : Int), .int .i64 sn, .int .u64 (si : Int), .int .i64 peer, .int .u64 (conn : Int), .int .u64 (inc : Int), .int .u64 (known : Int), .bool up, .int .u64 (heard : Int), .int .u64 (sent : Int)]) (BoxT (.slice BA box.length bc) box)))
   case first =>
    by_cases h1 : finc < inc
    ·have e1 : decide (finc < inc) = true := decide_eq_true h1; have H1 := Lib.hid h1; clear h1
     go_wp2_with fail
     refine wRF (fun dn xv W => Sep w0 W (TKaF w now g X Qs kk ffr fto finc fconn pinc pconn ack seq A body.length c (Rw 51 10 (.slice none 0 0) 0 []) (Bods []) (Rw 49 4 (.slice none 0 0) 0 []) (Bods []) (#[.slice none 0 0, .slice none 0 0]) (#[.int .u64 (base : Int), .slice BA box.length bc, .int .u64 (got : Int), .int .i64 sn, .int .u64 (si : Int), .int .i64 peer, .int .u64 (conn : Int), .int .u64 (inc : Int), .int .u64 (known : Int), .bool up, .int .u64 (heard : Int), .int .u64 (sent : Int)]) (BoxT (.slice BA box.length bc) box))) (fun _ _ => True) [fun v _ => v = .pointer (some ⟨w.heap.size + 1 + 1, 3, none⟩), fun v _ => v = .int .u64 (finc : Int), fun v _ => v = .pointer (some ⟨g, 0, none⟩), fun v _ => v = .pointer (some ⟨g, 0, none⟩), fun v _ => v = .pointer (some ⟨g, 7, none⟩), fun v _ => v = .int .u64 (inc : Int), fun v _ => v = .bool true, fun v _ => v = .bool true, fun v _ => v = undef, fun v _ => v = undef, fun v _ => v = undef, fun v _ => v = undef, fun v _ => v = undef, fun v _ => v = undef, fun v _ => v = undef, fun v _ => v = undef, fun v _ => v = undef, fun v _ => v = undef, fun v _ => v = undef, fun v _ => v = undef, fun v _ => v = undef, fun v _ => v = undef, fun v _ => v = undef, fun v _ => v = undef, fun v _ => v = .bool true] (by kernel_rfl) (by kernel_rfl) (by kernel_rfl) (by kernel_rfl) (fun xv => by simpa using HS2.out.drew)
      (by repeat (first | exact trivial | refine ⟨fun _ _ _ _ h => h, ?_⟩)) ?_ ?_
     ·refine EC 1 rfl (fun g h W F a b c d e H K f => ?_) ?_
      ·have f5 : F.tmps.getD 5 undef = .pointer (some ⟨w.heap.size + 1 + 1, 0, none⟩) := (a 5).trans (by kernel_rfl); clear H c b d a; refine oP rfl ?_; go_simp; exact f.out _ _ rfl trivial e
      refine EC 2 rfl (fun g h W F a b c d e H K f => ?_) ?_
      ·have f44 := gE (a 44) (by kernel_rfl) (H 0) (by kernel_rfl); have k9_3 := cA (i := 9) e rfl 3 rfl; clear H c b d a; refine oP rfl ?_; go_simp; exact f.out _ _ rfl trivial e
      refine EC 3 rfl (fun g h W F a b c d e H K f => ?_) ?_
      ·have f3 : F.tmps.getD 3 undef = .pointer (some ⟨w.heap.size, 0, none⟩) := (a 3).trans (by kernel_rfl); have k6_0 := cA (i := 6) e rfl 0 rfl; clear H c b d a; refine oP rfl ?_; go_simp; exact f.out _ _ rfl trivial e
      refine EC 4 rfl (fun g h W F a b c d e H K f => ?_) ?_
      ·have f46 := gE (a 46) (by kernel_rfl) (H 2) (by kernel_rfl); clear H c b d a; refine oP rfl ?_; go_simp; exact f.out _ _ rfl trivial e
      refine EC 5 rfl (fun g h W F a b c d e H K f => ?_) ?_
      ·have f47 := gE (a 47) (by kernel_rfl) (H 3) (by kernel_rfl); clear H c b d a; refine oP rfl ?_; go_simp; exact f.out _ _ rfl trivial e
      refine EC 6 rfl (fun g h W F a b c d e H K f => ?_) ?_
      ·have f48 := gE (a 48) (by kernel_rfl) (H 4) (by kernel_rfl); have k7_7 := cA (i := 7) e rfl 7 rfl; clear H c b d a; refine oP rfl ?_; go_simp; exact f.out _ _ rfl trivial e
      refine EC 7 rfl (fun g h W F a b c d e H K f => ?_) ?_
      ·have f45 := gE (a 45) (by kernel_rfl) (H 1) (by kernel_rfl); have f49 := gE (a 49) (by kernel_rfl) (H 5) (by kernel_rfl); clear H c b d a; refine oP rfl ?_; go_simp; exact f.out _ _ rfl trivial e
      refine EC 8 rfl (fun g h W F a b c d e H K f => ?_) ?_
      ·have f50 := gE (a 50) (by kernel_rfl) (H 6) (by kernel_rfl); clear H c b d a; refine oP rfl ?_; go_simp; exact f.out _ _ rfl trivial e
      refine EC 9 rfl (fun g h W F a b c d e H K f => ?_) ?_
      ·have f51 := gE (a 51) (by kernel_rfl) (H 7) (by kernel_rfl); clear H c b d a; refine off_guard rfl (by kernel_rfl) f51 (by decide) ?_; exact f.out _ _ rfl trivial e
      refine EC 10 rfl (fun g h W F a b c d e H K f => ?_) ?_
      ·have f51 := gE (a 51) (by kernel_rfl) (H 7) (by kernel_rfl); have k9_3 := cA (i := 9) e rfl 3 rfl; clear H c b d a; refine off_guard rfl (by kernel_rfl) f51 (by decide) ?_; exact f.out _ _ rfl trivial e
      refine EC 11 rfl (fun g h W F a b c d e H K f => ?_) ?_
      ·have f51 := gE (a 51) (by kernel_rfl) (H 7) (by kernel_rfl); have k6_0 := cA (i := 6) e rfl 0 rfl; clear H c b d a; refine off_guard rfl (by kernel_rfl) f51 (by decide) ?_; exact f.out _ _ rfl trivial e
      refine EC 12 rfl (fun g h W F a b c d e H K f => ?_) ?_
      ·have f51 := gE (a 51) (by kernel_rfl) (H 7) (by kernel_rfl); clear H c b d a; refine off_guard rfl (by kernel_rfl) f51 (by decide) ?_; exact f.out _ _ rfl trivial e
      refine EC 13 rfl (fun g h W F a b c d e H K f => ?_) ?_
      ·have f51 := gE (a 51) (by kernel_rfl) (H 7) (by kernel_rfl); clear H c b d a; refine off_guard rfl (by kernel_rfl) f51 (by decide) ?_; exact f.out _ _ rfl trivial e
      refine EC 14 rfl (fun g h W F a b c d e H K f => ?_) ?_
      ·have f51 := gE (a 51) (by kernel_rfl) (H 7) (by kernel_rfl); have k7_7 := cA (i := 7) e rfl 7 rfl; clear H c b d a; refine off_guard rfl (by kernel_rfl) f51 (by decide) ?_; exact f.out _ _ rfl trivial e
      refine EC 15 rfl (fun g h W F a b c d e H K f => ?_) ?_
      ·have f51 := gE (a 51) (by kernel_rfl) (H 7) (by kernel_rfl); clear H c b d a; refine off_guard rfl (by kernel_rfl) f51 (by decide) ?_; exact f.out _ _ rfl trivial e
      refine EC 16 rfl (fun g h W F a b c d e H K f => ?_) ?_
      ·have f51 := gE (a 51) (by kernel_rfl) (H 7) (by kernel_rfl); clear H c b d a; refine off_guard rfl (by kernel_rfl) f51 (by decide) ?_; exact f.out _ _ rfl trivial e
      refine EC 17 rfl (fun g h W F a b c d e H K f => ?_) ?_
      ·have f59 := gE (a 59) (by kernel_rfl) (H 15) (by kernel_rfl); clear H c b d a; refine off_undef rfl (by kernel_rfl) f59 ?_; exact f.out _ _ rfl trivial e
      refine EC 18 rfl (fun g h W F a b c d e H K f => ?_) ?_
      ·have f59 := gE (a 59) (by kernel_rfl) (H 15) (by kernel_rfl); have k9_4 := cA (i := 9) e rfl 4 rfl; clear H c b d a; refine off_undef rfl (by kernel_rfl) f59 ?_; exact f.out _ _ rfl trivial e
      refine EC 19 rfl (fun g h W F a b c d e H K f => ?_) ?_
      ·have f59 := gE (a 59) (by kernel_rfl) (H 15) (by kernel_rfl); have k6_0 := cA (i := 6) e rfl 0 rfl; clear H c b d a; refine off_undef rfl (by kernel_rfl) f59 ?_; exact f.out _ _ rfl trivial e
      refine EC 20 rfl (fun g h W F a b c d e H K f => ?_) ?_
      ·have f59 := gE (a 59) (by kernel_rfl) (H 15) (by kernel_rfl); clear H c b d a; refine off_undef rfl (by kernel_rfl) f59 ?_; exact f.out _ _ rfl trivial e
      refine EC 21 rfl (fun g h W F a b c d e H K f => ?_) ?_
      ·have f59 := gE (a 59) (by kernel_rfl) (H 15) (by kernel_rfl); clear H c b d a; refine off_undef rfl (by kernel_rfl) f59 ?_; exact f.out _ _ rfl trivial e
      refine EC 22 rfl (fun g h W F a b c d e H K f => ?_) ?_
      ·have f59 := gE (a 59) (by kernel_rfl) (H 15) (by kernel_rfl); have k7_8 := cA (i := 7) e rfl 8 rfl; clear H c b d a; refine off_undef rfl (by kernel_rfl) f59 ?_; exact f.out _ _ rfl trivial e
      refine EC 23 rfl (fun g h W F a b c d e H K f => ?_) ?_
      ·have f59 := gE (a 59) (by kernel_rfl) (H 15) (by kernel_rfl); clear H c b d a; refine off_undef rfl (by kernel_rfl) f59 ?_; exact f.out _ _ rfl trivial e
      refine EC 24 rfl (fun g h W F a b c d e H K f => ?_) ?_
      ·have f51 := gE (a 51) (by kernel_rfl) (H 7) (by kernel_rfl); clear H c b d a; refine off_guard rfl (by kernel_rfl) f51 (by decide) ?_; exact f.out _ _ rfl trivial e
      refine EC 25 rfl (fun g h W F a b c d e H K f => ?_) ?_
      ·have f51 := gE (a 51) (by kernel_rfl) (H 7) (by kernel_rfl); have f67 := gE (a 67) (by kernel_rfl) (H 23) (by kernel_rfl); clear H c b d a; refine oP rfl ?_; go_simp; exact f.out _ _ rfl trivial e
      exact EN
     ·intro dn xv W hI H; have q24 : xv 24 = .bool true := (H 24 (of_decide_eq_true (by kernel_rfl))).2; have hS : Sep w0 W (TKaF w now g X Qs kk ffr fto finc fconn pinc pconn ack seq A body.length c (Rw 51 10 (.slice none 0 0) 0 []) (Bods []) (Rw 49 4 (.slice none 0 0) 0 []) (Bods []) (#[.slice none 0 0, .slice none 0 0]) (#[.int .u64 (base : Int), .slice BA box.length bc, .int .u64 (got : Int), .int .i64 sn, .int .u64 (si : Int), .int .i64 peer, .int .u64 (conn : Int), .int .u64 (inc : Int), .int .u64 (known : Int), .bool up, .int .u64 (heard : Int), .int .u64 (sent : Int)]) (BoxT (.slice BA box.length bc) box)) := hI; clear H hI; simp only [putAll, Act.put, List.setIfInBounds_toArray, List.set_cons_zero, List.set_cons_succ, Nat.reduceAdd, q24]; clear q24
      go_wp2_with fail
      go_meet
      case rel => exact ⟨by rw [← Hp2.out, decide_eq_true H1.out]; rfl, hS⟩
    ·have e1 : decide (finc < inc) = false := decide_eq_false h1; have H1 := Lib.hid h1
     by_cases h2 : finc = inc
     ·have e2 : ((finc : Int) == (inc : Int)) = true := by simp [h2]
      have H2 := Lib.hid h2; clear h1 h2
      by_cases h3 : fconn < known
      ·have e3 : decide (fconn < known) = true := decide_eq_true h3; have H3 := Lib.hid h3; clear h3
       go_wp2_with fail
       refine wRF (fun dn xv W => Sep w0 W (TKaF w now g X Qs kk ffr fto finc fconn pinc pconn ack seq A body.length c (Rw 51 10 (.slice none 0 0) 0 []) (Bods []) (Rw 49 4 (.slice none 0 0) 0 []) (Bods []) (#[.slice none 0 0, .slice none 0 0]) (#[.int .u64 (base : Int), .slice BA box.length bc, .int .u64 (got : Int), .int .i64 sn, .int .u64 (si : Int), .int .i64 peer, .int .u64 (conn : Int), .int .u64 (inc : Int), .int .u64 (known : Int), .bool up, .int .u64 (heard : Int), .int .u64 (sent : Int)]) (BoxT (.slice BA box.length bc) box))) (fun _ _ => True) [fun v _ => v = .pointer (some ⟨w.heap.size + 1 + 1, 3, none⟩), fun v _ => v = .int .u64 (finc : Int), fun v _ => v = .pointer (some ⟨g, 0, none⟩), fun v _ => v = .pointer (some ⟨g, 0, none⟩), fun v _ => v = .pointer (some ⟨g, 7, none⟩), fun v _ => v = .int .u64 (inc : Int), fun v _ => v = .bool false, fun v _ => v = .bool false, fun v _ => v = .pointer (some ⟨w.heap.size + 1 + 1, 3, none⟩), fun v _ => v = .int .u64 (finc : Int), fun v _ => v = .pointer (some ⟨g, 0, none⟩), fun v _ => v = .pointer (some ⟨g, 0, none⟩), fun v _ => v = .pointer (some ⟨g, 7, none⟩), fun v _ => v = .int .u64 (inc : Int), fun v _ => v = .bool true, fun v _ => v = .bool true, fun v _ => v = .pointer (some ⟨w.heap.size + 1 + 1, 4, none⟩), fun v _ => v = .int .u64 (fconn : Int), fun v _ => v = .pointer (some ⟨g, 0, none⟩), fun v _ => v = .pointer (some ⟨g, 0, none⟩), fun v _ => v = .pointer (some ⟨g, 8, none⟩), fun v _ => v = .int .u64 (known : Int), fun v _ => v = .bool true, fun v _ => v = .bool true, fun v _ => v = .bool true] (by kernel_rfl) (by kernel_rfl) (by kernel_rfl) (by kernel_rfl) (fun xv => by simpa using HS2.out.drew)
        (by repeat (first | exact trivial | refine ⟨fun _ _ _ _ h => h, ?_⟩)) ?_ ?_
       ·refine EC 1 rfl (fun g h W F a b c d e H K f => ?_) ?_
        ·have f5 : F.tmps.getD 5 undef = .pointer (some ⟨w.heap.size + 1 + 1, 0, none⟩) := (a 5).trans (by kernel_rfl); clear H c b d a; refine oP rfl ?_; go_simp; exact f.out _ _ rfl trivial e
        refine EC 2 rfl (fun g h W F a b c d e H K f => ?_) ?_
        ·have f44 := gE (a 44) (by kernel_rfl) (H 0) (by kernel_rfl); have k9_3 := cA (i := 9) e rfl 3 rfl; clear H c b d a; refine oP rfl ?_; go_simp; exact f.out _ _ rfl trivial e
        refine EC 3 rfl (fun g h W F a b c d e H K f => ?_) ?_
        ·have f3 : F.tmps.getD 3 undef = .pointer (some ⟨w.heap.size, 0, none⟩) := (a 3).trans (by kernel_rfl); have k6_0 := cA (i := 6) e rfl 0 rfl; clear H c b d a; refine oP rfl ?_; go_simp; exact f.out _ _ rfl trivial e
        refine EC 4 rfl (fun g h W F a b c d e H K f => ?_) ?_
        ·have f46 := gE (a 46) (by kernel_rfl) (H 2) (by kernel_rfl); clear H c b d a; refine oP rfl ?_; go_simp; exact f.out _ _ rfl trivial e
        refine EC 5 rfl (fun g h W F a b c d e H K f => ?_) ?_
        ·have f47 := gE (a 47) (by kernel_rfl) (H 3) (by kernel_rfl); clear H c b d a; refine oP rfl ?_; go_simp; exact f.out _ _ rfl trivial e
        refine EC 6 rfl (fun g h W F a b c d e H K f => ?_) ?_
        ·have f48 := gE (a 48) (by kernel_rfl) (H 4) (by kernel_rfl); have k7_7 := cA (i := 7) e rfl 7 rfl; clear H c b d a; refine oP rfl ?_; go_simp; exact f.out _ _ rfl trivial e
        refine EC 7 rfl (fun g h W F a b c d e H K f => ?_) ?_
        ·have f45 := gE (a 45) (by kernel_rfl) (H 1) (by kernel_rfl); have f49 := gE (a 49) (by kernel_rfl) (H 5) (by kernel_rfl); clear H c b d a; refine oP rfl ?_; go_simp; exact f.out _ _ rfl trivial e
        refine EC 8 rfl (fun g h W F a b c d e H K f => ?_) ?_
        ·have f50 := gE (a 50) (by kernel_rfl) (H 6) (by kernel_rfl); clear H c b d a; refine oP rfl ?_; go_simp; exact f.out _ _ rfl trivial e
        refine EC 9 rfl (fun g h W F a b c d e H K f => ?_) ?_
        ·have f5 : F.tmps.getD 5 undef = .pointer (some ⟨w.heap.size + 1 + 1, 0, none⟩) := (a 5).trans (by kernel_rfl); have f51 := gE (a 51) (by kernel_rfl) (H 7) (by kernel_rfl); clear H c b d a; refine oG rfl (by kernel_rfl) f51 ?_; go_simp; exact f.out _ _ rfl trivial e
        refine EC 10 rfl (fun g h W F a b c d e H K f => ?_) ?_
        ·have f52 := gE (a 52) (by kernel_rfl) (H 8) (by kernel_rfl); have f51 := gE (a 51) (by kernel_rfl) (H 7) (by kernel_rfl); have k9_3 := cA (i := 9) e rfl 3 rfl; clear H c b d a; refine oG rfl (by kernel_rfl) f51 ?_; go_simp; exact f.out _ _ rfl trivial e
        refine EC 11 rfl (fun g h W F a b c d e H K f => ?_) ?_
        ·have f3 : F.tmps.getD 3 undef = .pointer (some ⟨w.heap.size, 0, none⟩) := (a 3).trans (by kernel_rfl); have f51 := gE (a 51) (by kernel_rfl) (H 7) (by kernel_rfl); have k6_0 := cA (i := 6) e rfl 0 rfl; clear H c b d a; refine oG rfl (by kernel_rfl) f51 ?_; go_simp; exact f.out _ _ rfl trivial e
        refine EC 12 rfl (fun g h W F a b c d e H K f => ?_) ?_
        ·have f54 := gE (a 54) (by kernel_rfl) (H 10) (by kernel_rfl); have f51 := gE (a 51) (by kernel_rfl) (H 7) (by kernel_rfl); clear H c b d a; refine oG rfl (by kernel_rfl) f51 ?_; go_simp; exact f.out _ _ rfl trivial e
        refine EC 13 rfl (fun g h W F a b c d e H K f => ?_) ?_
        ·have f55 := gE (a 55) (by kernel_rfl) (H 11) (by kernel_rfl); have f51 := gE (a 51) (by kernel_rfl) (H 7) (by kernel_rfl); clear H c b d a; refine oG rfl (by kernel_rfl) f51 ?_; go_simp; exact f.out _ _ rfl trivial e
        refine EC 14 rfl (fun g h W F a b c d e H K f => ?_) ?_
        ·have f56 := gE (a 56) (by kernel_rfl) (H 12) (by kernel_rfl); have f51 := gE (a 51) (by kernel_rfl) (H 7) (by kernel_rfl); have k7_7 := cA (i := 7) e rfl 7 rfl; clear H c b d a; refine oG rfl (by kernel_rfl) f51 ?_; go_simp; exact f.out _ _ rfl trivial e
        refine EC 15 rfl (fun g h W F a b c d e H K f => ?_) ?_
        ·have f53 := gE (a 53) (by kernel_rfl) (H 9) (by kernel_rfl); have f57 := gE (a 57) (by kernel_rfl) (H 13) (by kernel_rfl); have f51 := gE (a 51) (by kernel_rfl) (H 7) (by kernel_rfl); clear H c b d a; refine oG rfl (by kernel_rfl) f51 ?_; go_simp; exact f.out _ _ rfl trivial e
        refine EC 16 rfl (fun g h W F a b c d e H K f => ?_) ?_
        ·have f58 := gE (a 58) (by kernel_rfl) (H 14) (by kernel_rfl); have f51 := gE (a 51) (by kernel_rfl) (H 7) (by kernel_rfl); clear H c b d a; refine oG rfl (by kernel_rfl) f51 ?_; go_simp; exact f.out _ _ rfl trivial e
        refine EC 17 rfl (fun g h W F a b c d e H K f => ?_) ?_
        ·have f5 : F.tmps.getD 5 undef = .pointer (some ⟨w.heap.size + 1 + 1, 0, none⟩) := (a 5).trans (by kernel_rfl); have f59 := gE (a 59) (by kernel_rfl) (H 15) (by kernel_rfl); clear H c b d a; refine oG rfl (by kernel_rfl) f59 ?_; go_simp; exact f.out _ _ rfl trivial e
        refine EC 18 rfl (fun g h W F a b c d e H K f => ?_) ?_
        ·have f60 := gE (a 60) (by kernel_rfl) (H 16) (by kernel_rfl); have f59 := gE (a 59) (by kernel_rfl) (H 15) (by kernel_rfl); have k9_4 := cA (i := 9) e rfl 4 rfl; clear H c b d a; refine oG rfl (by kernel_rfl) f59 ?_; go_simp; exact f.out _ _ rfl trivial e
        refine EC 19 rfl (fun g h W F a b c d e H K f => ?_) ?_
        ·have f3 : F.tmps.getD 3 undef = .pointer (some ⟨w.heap.size, 0, none⟩) := (a 3).trans (by kernel_rfl); have f59 := gE (a 59) (by kernel_rfl) (H 15) (by kernel_rfl); have k6_0 := cA (i := 6) e rfl 0 rfl; clear H c b d a; refine oG rfl (by kernel_rfl) f59 ?_; go_simp; exact f.out _ _ rfl trivial e
        refine EC 20 rfl (fun g h W F a b c d e H K f => ?_) ?_
        ·have f62 := gE (a 62) (by kernel_rfl) (H 18) (by kernel_rfl); have f59 := gE (a 59) (by kernel_rfl) (H 15) (by kernel_rfl); clear H c b d a; refine oG rfl (by kernel_rfl) f59 ?_; go_simp; exact f.out _ _ rfl trivial e
        refine EC 21 rfl (fun g h W F a b c d e H K f => ?_) ?_
        ·have f63 := gE (a 63) (by kernel_rfl) (H 19) (by kernel_rfl); have f59 := gE (a 59) (by kernel_rfl) (H 15) (by kernel_rfl); clear H c b d a; refine oG rfl (by kernel_rfl) f59 ?_; go_simp; exact f.out _ _ rfl trivial e
        refine EC 22 rfl (fun g h W F a b c d e H K f => ?_) ?_
        ·have f64 := gE (a 64) (by kernel_rfl) (H 20) (by kernel_rfl); have f59 := gE (a 59) (by kernel_rfl) (H 15) (by kernel_rfl); have k7_8 := cA (i := 7) e rfl 8 rfl; clear H c b d a; refine oG rfl (by kernel_rfl) f59 ?_; go_simp; exact f.out _ _ rfl trivial e
        refine EC 23 rfl (fun g h W F a b c d e H K f => ?_) ?_
        ·have f61 := gE (a 61) (by kernel_rfl) (H 17) (by kernel_rfl); have f65 := gE (a 65) (by kernel_rfl) (H 21) (by kernel_rfl); have f59 := gE (a 59) (by kernel_rfl) (H 15) (by kernel_rfl); clear H c b d a; refine oG rfl (by kernel_rfl) f59 ?_; go_simp; exact f.out _ _ rfl trivial e
        refine EC 24 rfl (fun g h W F a b c d e H K f => ?_) ?_
        ·have f59 := gE (a 59) (by kernel_rfl) (H 15) (by kernel_rfl); have f66 := gE (a 66) (by kernel_rfl) (H 22) (by kernel_rfl); have f51 := gE (a 51) (by kernel_rfl) (H 7) (by kernel_rfl); clear H c b d a; refine oG rfl (by kernel_rfl) f51 ?_; go_simp; exact f.out _ _ rfl trivial e
        refine EC 25 rfl (fun g h W F a b c d e H K f => ?_) ?_
        ·have f51 := gE (a 51) (by kernel_rfl) (H 7) (by kernel_rfl); have f67 := gE (a 67) (by kernel_rfl) (H 23) (by kernel_rfl); clear H c b d a; refine oP rfl ?_; go_simp; exact f.out _ _ rfl trivial e
        exact EN
       ·intro dn xv W hI H; have q24 : xv 24 = .bool true := (H 24 (of_decide_eq_true (by kernel_rfl))).2; have hS : Sep w0 W (TKaF w now g X Qs kk ffr fto finc fconn pinc pconn ack seq A body.length c (Rw 51 10 (.slice none 0 0) 0 []) (Bods []) (Rw 49 4 (.slice none 0 0) 0 []) (Bods []) (#[.slice none 0 0, .slice none 0 0]) (#[.int .u64 (base : Int), .slice BA box.length bc, .int .u64 (got : Int), .int .i64 sn, .int .u64 (si : Int), .int .i64 peer, .int .u64 (conn : Int), .int .u64 (inc : Int), .int .u64 (known : Int), .bool up, .int .u64 (heard : Int), .int .u64 (sent : Int)]) (BoxT (.slice BA box.length bc) box)) := hI; clear H hI; simp only [putAll, Act.put, List.setIfInBounds_toArray, List.set_cons_zero, List.set_cons_succ, Nat.reduceAdd, q24]; clear q24
        go_wp2_with fail
        go_meet
        case rel => exact ⟨by rw [← Hp2.out, decide_eq_true H3.out, decide_eq_true H2.out]; simp, hS⟩
      ·have e3 : decide (fconn < known) = false := decide_eq_false h3; have H3 := Lib.hid h3; clear h3
       go_wp2_with fail
       refine wRF (fun dn xv W => Sep w0 W (TKaF w now g X Qs kk ffr fto finc fconn pinc pconn ack seq A body.length c (Rw 51 10 (.slice none 0 0) 0 []) (Bods []) (Rw 49 4 (.slice none 0 0) 0 []) (Bods []) (#[.slice none 0 0, .slice none 0 0]) (#[.int .u64 (base : Int), .slice BA box.length bc, .int .u64 (got : Int), .int .i64 sn, .int .u64 (si : Int), .int .i64 peer, .int .u64 (conn : Int), .int .u64 (inc : Int), .int .u64 (known : Int), .bool up, .int .u64 (heard : Int), .int .u64 (sent : Int)]) (BoxT (.slice BA box.length bc) box))) (fun _ _ => True) [fun v _ => v = .pointer (some ⟨w.heap.size + 1 + 1, 3, none⟩), fun v _ => v = .int .u64 (finc : Int), fun v _ => v = .pointer (some ⟨g, 0, none⟩), fun v _ => v = .pointer (some ⟨g, 0, none⟩), fun v _ => v = .pointer (some ⟨g, 7, none⟩), fun v _ => v = .int .u64 (inc : Int), fun v _ => v = .bool false, fun v _ => v = .bool false, fun v _ => v = .pointer (some ⟨w.heap.size + 1 + 1, 3, none⟩), fun v _ => v = .int .u64 (finc : Int), fun v _ => v = .pointer (some ⟨g, 0, none⟩), fun v _ => v = .pointer (some ⟨g, 0, none⟩), fun v _ => v = .pointer (some ⟨g, 7, none⟩), fun v _ => v = .int .u64 (inc : Int), fun v _ => v = .bool true, fun v _ => v = .bool true, fun v _ => v = .pointer (some ⟨w.heap.size + 1 + 1, 4, none⟩), fun v _ => v = .int .u64 (fconn : Int), fun v _ => v = .pointer (some ⟨g, 0, none⟩), fun v _ => v = .pointer (some ⟨g, 0, none⟩), fun v _ => v = .pointer (some ⟨g, 8, none⟩), fun v _ => v = .int .u64 (known : Int), fun v _ => v = .bool false, fun v _ => v = .bool false, fun v _ => v = .bool false] (by kernel_rfl) (by kernel_rfl) (by kernel_rfl) (by kernel_rfl) (fun xv => by simpa using HS2.out.drew)
        (by repeat (first | exact trivial | refine ⟨fun _ _ _ _ h => h, ?_⟩)) ?_ ?_
       ·refine EC 1 rfl (fun g h W F a b c d e H K f => ?_) ?_
        ·have f5 : F.tmps.getD 5 undef = .pointer (some ⟨w.heap.size + 1 + 1, 0, none⟩) := (a 5).trans (by kernel_rfl); clear H c b d a; refine oP rfl ?_; go_simp; exact f.out _ _ rfl trivial e
        refine EC 2 rfl (fun g h W F a b c d e H K f => ?_) ?_
        ·have f44 := gE (a 44) (by kernel_rfl) (H 0) (by kernel_rfl); have k9_3 := cA (i := 9) e rfl 3 rfl; clear H c b d a; refine oP rfl ?_; go_simp; exact f.out _ _ rfl trivial e
        refine EC 3 rfl (fun g h W F a b c d e H K f => ?_) ?_
        ·have f3 : F.tmps.getD 3 undef = .pointer (some ⟨w.heap.size, 0, none⟩) := (a 3).trans (by kernel_rfl); have k6_0 := cA (i := 6) e rfl 0 rfl; clear H c b d a; refine oP rfl ?_; go_simp; exact f.out _ _ rfl trivial e
        refine EC 4 rfl (fun g h W F a b c d e H K f => ?_) ?_
        ·have f46 := gE (a 46) (by kernel_rfl) (H 2) (by kernel_rfl); clear H c b d a; refine oP rfl ?_; go_simp; exact f.out _ _ rfl trivial e
        refine EC 5 rfl (fun g h W F a b c d e H K f => ?_) ?_
        ·have f47 := gE (a 47) (by kernel_rfl) (H 3) (by kernel_rfl); clear H c b d a; refine oP rfl ?_; go_simp; exact f.out _ _ rfl trivial e
        refine EC 6 rfl (fun g h W F a b c d e H K f => ?_) ?_
        ·have f48 := gE (a 48) (by kernel_rfl) (H 4) (by kernel_rfl); have k7_7 := cA (i := 7) e rfl 7 rfl; clear H c b d a; refine oP rfl ?_; go_simp; exact f.out _ _ rfl trivial e
        refine EC 7 rfl (fun g h W F a b c d e H K f => ?_) ?_
        ·have f45 := gE (a 45) (by kernel_rfl) (H 1) (by kernel_rfl); have f49 := gE (a 49) (by kernel_rfl) (H 5) (by kernel_rfl); clear H c b d a; refine oP rfl ?_; go_simp; exact f.out _ _ rfl trivial e
        refine EC 8 rfl (fun g h W F a b c d e H K f => ?_) ?_
        ·have f50 := gE (a 50) (by kernel_rfl) (H 6) (by kernel_rfl); clear H c b d a; refine oP rfl ?_; go_simp; exact f.out _ _ rfl trivial e
        refine EC 9 rfl (fun g h W F a b c d e H K f => ?_) ?_
        ·have f5 : F.tmps.getD 5 undef = .pointer (some ⟨w.heap.size + 1 + 1, 0, none⟩) := (a 5).trans (by kernel_rfl); have f51 := gE (a 51) (by kernel_rfl) (H 7) (by kernel_rfl); clear H c b d a; refine oG rfl (by kernel_rfl) f51 ?_; go_simp; exact f.out _ _ rfl trivial e
        refine EC 10 rfl (fun g h W F a b c d e H K f => ?_) ?_
        ·have f52 := gE (a 52) (by kernel_rfl) (H 8) (by kernel_rfl); have f51 := gE (a 51) (by kernel_rfl) (H 7) (by kernel_rfl); have k9_3 := cA (i := 9) e rfl 3 rfl; clear H c b d a; refine oG rfl (by kernel_rfl) f51 ?_; go_simp; exact f.out _ _ rfl trivial e
        refine EC 11 rfl (fun g h W F a b c d e H K f => ?_) ?_
        ·have f3 : F.tmps.getD 3 undef = .pointer (some ⟨w.heap.size, 0, none⟩) := (a 3).trans (by kernel_rfl); have f51 := gE (a 51) (by kernel_rfl) (H 7) (by kernel_rfl); have k6_0 := cA (i := 6) e rfl 0 rfl; clear H c b d a; refine oG rfl (by kernel_rfl) f51 ?_; go_simp; exact f.out _ _ rfl trivial e
        refine EC 12 rfl (fun g h W F a b c d e H K f => ?_) ?_
        ·have f54 := gE (a 54) (by kernel_rfl) (H 10) (by kernel_rfl); have f51 := gE (a 51) (by kernel_rfl) (H 7) (by kernel_rfl); clear H c b d a; refine oG rfl (by kernel_rfl) f51 ?_; go_simp; exact f.out _ _ rfl trivial e
        refine EC 13 rfl (fun g h W F a b c d e H K f => ?_) ?_
        ·have f55 := gE (a 55) (by kernel_rfl) (H 11) (by kernel_rfl); have f51 := gE (a 51) (by kernel_rfl) (H 7) (by kernel_rfl); clear H c b d a; refine oG rfl (by kernel_rfl) f51 ?_; go_simp; exact f.out _ _ rfl trivial e
        refine EC 14 rfl (fun g h W F a b c d e H K f => ?_) ?_
        ·have f56 := gE (a 56) (by kernel_rfl) (H 12) (by kernel_rfl); have f51 := gE (a 51) (by kernel_rfl) (H 7) (by kernel_rfl); have k7_7 := cA (i := 7) e rfl 7 rfl; clear H c b d a; refine oG rfl (by kernel_rfl) f51 ?_; go_simp; exact f.out _ _ rfl trivial e
        refine EC 15 rfl (fun g h W F a b c d e H K f => ?_) ?_
        ·have f53 := gE (a 53) (by kernel_rfl) (H 9) (by kernel_rfl); have f57 := gE (a 57) (by kernel_rfl) (H 13) (by kernel_rfl); have f51 := gE (a 51) (by kernel_rfl) (H 7) (by kernel_rfl); clear H c b d a; refine oG rfl (by kernel_rfl) f51 ?_; go_simp; exact f.out _ _ rfl trivial e
        refine EC 16 rfl (fun g h W F a b c d e H K f => ?_) ?_
        ·have f58 := gE (a 58) (by kernel_rfl) (H 14) (by kernel_rfl); have f51 := gE (a 51) (by kernel_rfl) (H 7) (by kernel_rfl); clear H c b d a; refine oG rfl (by kernel_rfl) f51 ?_; go_simp; exact f.out _ _ rfl trivial e
        refine EC 17 rfl (fun g h W F a b c d e H K f => ?_) ?_
        ·have f5 : F.tmps.getD 5 undef = .pointer (some ⟨w.heap.size + 1 + 1, 0, none⟩) := (a 5).trans (by kernel_rfl); have f59 := gE (a 59) (by kernel_rfl) (H 15) (by kernel_rfl); clear H c b d a; refine oG rfl (by kernel_rfl) f59 ?_; go_simp; exact f.out _ _ rfl trivial e
        refine EC 18 rfl (fun g h W F a b c d e H K f => ?_) ?_
        ·have f60 := gE (a 60) (by kernel_rfl) (H 16) (by kernel_rfl); have f59 := gE (a 59) (by kernel_rfl) (H 15) (by kernel_rfl); have k9_4 := cA (i := 9) e rfl 4 rfl; clear H c b d a; refine oG rfl (by kernel_rfl) f59 ?_; go_simp; exact f.out _ _ rfl trivial e
        refine EC 19 rfl (fun g h W F a b c d e H K f => ?_) ?_
        ·have f3 : F.tmps.getD 3 undef = .pointer (some ⟨w.heap.size, 0, none⟩) := (a 3).trans (by kernel_rfl); have f59 := gE (a 59) (by kernel_rfl) (H 15) (by kernel_rfl); have k6_0 := cA (i := 6) e rfl 0 rfl; clear H c b d a; refine oG rfl (by kernel_rfl) f59 ?_; go_simp; exact f.out _ _ rfl trivial e
        refine EC 20 rfl (fun g h W F a b c d e H K f => ?_) ?_
        ·have f62 := gE (a 62) (by kernel_rfl) (H 18) (by kernel_rfl); have f59 := gE (a 59) (by kernel_rfl) (H 15) (by kernel_rfl); clear H c b d a; refine oG rfl (by kernel_rfl) f59 ?_; go_simp; exact f.out _ _ rfl trivial e
        refine EC 21 rfl (fun g h W F a b c d e H K f => ?_) ?_
        ·have f63 := gE (a 63) (by kernel_rfl) (H 19) (by kernel_rfl); have f59 := gE (a 59) (by kernel_rfl) (H 15) (by kernel_rfl); clear H c b d a; refine oG rfl (by kernel_rfl) f59 ?_; go_simp; exact f.out _ _ rfl trivial e
        refine EC 22 rfl (fun g h W F a b c d e H K f => ?_) ?_
        ·have f64 := gE (a 64) (by kernel_rfl) (H 20) (by kernel_rfl); have f59 := gE (a 59) (by kernel_rfl) (H 15) (by kernel_rfl); have k7_8 := cA (i := 7) e rfl 8 rfl; clear H c b d a; refine oG rfl (by kernel_rfl) f59 ?_; go_simp; exact f.out _ _ rfl trivial e
        refine EC 23 rfl (fun g h W F a b c d e H K f => ?_) ?_
        ·have f61 := gE (a 61) (by kernel_rfl) (H 17) (by kernel_rfl); have f65 := gE (a 65) (by kernel_rfl) (H 21) (by kernel_rfl); have f59 := gE (a 59) (by kernel_rfl) (H 15) (by kernel_rfl); clear H c b d a; refine oG rfl (by kernel_rfl) f59 ?_; go_simp; exact f.out _ _ rfl trivial e
        refine EC 24 rfl (fun g h W F a b c d e H K f => ?_) ?_
        ·have f59 := gE (a 59) (by kernel_rfl) (H 15) (by kernel_rfl); have f66 := gE (a 66) (by kernel_rfl) (H 22) (by kernel_rfl); have f51 := gE (a 51) (by kernel_rfl) (H 7) (by kernel_rfl); clear H c b d a; refine oG rfl (by kernel_rfl) f51 ?_; go_simp; exact f.out _ _ rfl trivial e
        refine EC 25 rfl (fun g h W F a b c d e H K f => ?_) ?_
        ·have f51 := gE (a 51) (by kernel_rfl) (H 7) (by kernel_rfl); have f67 := gE (a 67) (by kernel_rfl) (H 23) (by kernel_rfl); clear H c b d a; refine oP rfl ?_; go_simp; exact f.out _ _ rfl trivial e
        exact EN
       ·intro dn xv W hI H; have q24 : xv 24 = .bool false := (H 24 (of_decide_eq_true (by kernel_rfl))).2; have hS : Sep w0 W (TKaF w now g X Qs kk ffr fto finc fconn pinc pconn ack seq A body.length c (Rw 51 10 (.slice none 0 0) 0 []) (Bods []) (Rw 49 4 (.slice none 0 0) 0 []) (Bods []) (#[.slice none 0 0, .slice none 0 0]) (#[.int .u64 (base : Int), .slice BA box.length bc, .int .u64 (got : Int), .int .i64 sn, .int .u64 (si : Int), .int .i64 peer, .int .u64 (conn : Int), .int .u64 (inc : Int), .int .u64 (known : Int), .bool up, .int .u64 (heard : Int), .int .u64 (sent : Int)]) (BoxT (.slice BA box.length bc) box)) := hI; clear H hI; simp only [putAll, Act.put, List.setIfInBounds_toArray, List.set_cons_zero, List.set_cons_succ, Nat.reduceAdd, q24]; clear q24
        go_wp2_with fail
        go_meet
        case rel => exact ⟨by rw [← Hp2.out, decide_eq_false H3.out, decide_eq_false H1.out]; simp, hS⟩
     ·have e2 : ((finc : Int) == (inc : Int)) = false := beq_eq_false_iff_ne.2 (by omega); have H2 := Lib.hid h2; clear h1 h2
      go_wp2_with fail
      refine wRF (fun dn xv W => Sep w0 W (TKaF w now g X Qs kk ffr fto finc fconn pinc pconn ack seq A body.length c (Rw 51 10 (.slice none 0 0) 0 []) (Bods []) (Rw 49 4 (.slice none 0 0) 0 []) (Bods []) (#[.slice none 0 0, .slice none 0 0]) (#[.int .u64 (base : Int), .slice BA box.length bc, .int .u64 (got : Int), .int .i64 sn, .int .u64 (si : Int), .int .i64 peer, .int .u64 (conn : Int), .int .u64 (inc : Int), .int .u64 (known : Int), .bool up, .int .u64 (heard : Int), .int .u64 (sent : Int)]) (BoxT (.slice BA box.length bc) box))) (fun _ _ => True) [fun v _ => v = .pointer (some ⟨w.heap.size + 1 + 1, 3, none⟩), fun v _ => v = .int .u64 (finc : Int), fun v _ => v = .pointer (some ⟨g, 0, none⟩), fun v _ => v = .pointer (some ⟨g, 0, none⟩), fun v _ => v = .pointer (some ⟨g, 7, none⟩), fun v _ => v = .int .u64 (inc : Int), fun v _ => v = .bool false, fun v _ => v = .bool false, fun v _ => v = .pointer (some ⟨w.heap.size + 1 + 1, 3, none⟩), fun v _ => v = .int .u64 (finc : Int), fun v _ => v = .pointer (some ⟨g, 0, none⟩), fun v _ => v = .pointer (some ⟨g, 0, none⟩), fun v _ => v = .pointer (some ⟨g, 7, none⟩), fun v _ => v = .int .u64 (inc : Int), fun v _ => v = .bool false, fun v _ => v = .bool false, fun v _ => v = undef, fun v _ => v = undef, fun v _ => v = undef, fun v _ => v = undef, fun v _ => v = undef, fun v _ => v = undef, fun v _ => v = undef, fun v _ => v = .bool false, fun v _ => v = .bool false] (by kernel_rfl) (by kernel_rfl) (by kernel_rfl) (by kernel_rfl) (fun xv => by simpa using HS2.out.drew)
       (by repeat (first | exact trivial | refine ⟨fun _ _ _ _ h => h, ?_⟩)) ?_ ?_
      ·refine EC 1 rfl (fun g h W F a b c d e H K f => ?_) ?_
       ·have f5 : F.tmps.getD 5 undef = .pointer (some ⟨w.heap.size + 1 + 1, 0, none⟩) := (a 5).trans (by kernel_rfl); clear H c b d a; refine oP rfl ?_; go_simp; exact f.out _ _ rfl trivial e
       refine EC 2 rfl (fun g h W F a b c d e H K f => ?_) ?_
       ·have f44 := gE (a 44) (by kernel_rfl) (H 0) (by kernel_rfl); have k9_3 := cA (i := 9) e rfl 3 rfl; clear H c b d a; refine oP rfl ?_; go_simp; exact f.out _ _ rfl trivial e
       refine EC 3 rfl (fun g h W F a b c d e H K f => ?_) ?_
       ·have f3 : F.tmps.getD 3 undef = .pointer (some ⟨w.heap.size, 0, none⟩) := (a 3).trans (by kernel_rfl); have k6_0 := cA (i := 6) e rfl 0 rfl; clear H c b d a; refine oP rfl ?_; go_simp; exact f.out _ _ rfl trivial e
       refine EC 4 rfl (fun g h W F a b c d e H K f => ?_) ?_
       ·have f46 := gE (a 46) (by kernel_rfl) (H 2) (by kernel_rfl); clear H c b d a; refine oP rfl ?_; go_simp; exact f.out _ _ rfl trivial e
       refine EC 5 rfl (fun g h W F a b c d e H K f => ?_) ?_
       ·have f47 := gE (a 47) (by kernel_rfl) (H 3) (by kernel_rfl); clear H c b d a; refine oP rfl ?_; go_simp; exact f.out _ _ rfl trivial e
       refine EC 6 rfl (fun g h W F a b c d e H K f => ?_) ?_
       ·have f48 := gE (a 48) (by kernel_rfl) (H 4) (by kernel_rfl); have k7_7 := cA (i := 7) e rfl 7 rfl; clear H c b d a; refine oP rfl ?_; go_simp; exact f.out _ _ rfl trivial e
       refine EC 7 rfl (fun g h W F a b c d e H K f => ?_) ?_
       ·have f45 := gE (a 45) (by kernel_rfl) (H 1) (by kernel_rfl); have f49 := gE (a 49) (by kernel_rfl) (H 5) (by kernel_rfl); clear H c b d a; refine oP rfl ?_; go_simp; exact f.out _ _ rfl trivial e
       refine EC 8 rfl (fun g h W F a b c d e H K f => ?_) ?_
       ·have f50 := gE (a 50) (by kernel_rfl) (H 6) (by kernel_rfl); clear H c b d a; refine oP rfl ?_; go_simp; exact f.out _ _ rfl trivial e
       refine EC 9 rfl (fun g h W F a b c d e H K f => ?_) ?_
       ·have f5 : F.tmps.getD 5 undef = .pointer (some ⟨w.heap.size + 1 + 1, 0, none⟩) := (a 5).trans (by kernel_rfl); have f51 := gE (a 51) (by kernel_rfl) (H 7) (by kernel_rfl); clear H c b d a; refine oG rfl (by kernel_rfl) f51 ?_; go_simp; exact f.out _ _ rfl trivial e
       refine EC 10 rfl (fun g h W F a b c d e H K f => ?_) ?_
       ·have f52 := gE (a 52) (by kernel_rfl) (H 8) (by kernel_rfl); have f51 := gE (a 51) (by kernel_rfl) (H 7) (by kernel_rfl); have k9_3 := cA (i := 9) e rfl 3 rfl; clear H c b d a; refine oG rfl (by kernel_rfl) f51 ?_; go_simp; exact f.out _ _ rfl trivial e
       refine EC 11 rfl (fun g h W F a b c d e H K f => ?_) ?_
       ·have f3 : F.tmps.getD 3 undef = .pointer (some ⟨w.heap.size, 0, none⟩) := (a 3).trans (by kernel_rfl); have f51 := gE (a 51) (by kernel_rfl) (H 7) (by kernel_rfl); have k6_0 := cA (i := 6) e rfl 0 rfl; clear H c b d a; refine oG rfl (by kernel_rfl) f51 ?_; go_simp; exact f.out _ _ rfl trivial e
       refine EC 12 rfl (fun g h W F a b c d e H K f => ?_) ?_
       ·have f54 := gE (a 54) (by kernel_rfl) (H 10) (by kernel_rfl); have f51 := gE (a 51) (by kernel_rfl) (H 7) (by kernel_rfl); clear H c b d a; refine oG rfl (by kernel_rfl) f51 ?_; go_simp; exact f.out _ _ rfl trivial e
       refine EC 13 rfl (fun g h W F a b c d e H K f => ?_) ?_
       ·have f55 := gE (a 55) (by kernel_rfl) (H 11) (by kernel_rfl); have f51 := gE (a 51) (by kernel_rfl) (H 7) (by kernel_rfl); clear H c b d a; refine oG rfl (by kernel_rfl) f51 ?_; go_simp; exact f.out _ _ rfl trivial e
       refine EC 14 rfl (fun g h W F a b c d e H K f => ?_) ?_
       ·have f56 := gE (a 56) (by kernel_rfl) (H 12) (by kernel_rfl); have f51 := gE (a 51) (by kernel_rfl) (H 7) (by kernel_rfl); have k7_7 := cA (i := 7) e rfl 7 rfl; clear H c b d a; refine oG rfl (by kernel_rfl) f51 ?_; go_simp; exact f.out _ _ rfl trivial e
       refine EC 15 rfl (fun g h W F a b c d e H K f => ?_) ?_
       ·have f53 := gE (a 53) (by kernel_rfl) (H 9) (by kernel_rfl); have f57 := gE (a 57) (by kernel_rfl) (H 13) (by kernel_rfl); have f51 := gE (a 51) (by kernel_rfl) (H 7) (by kernel_rfl); clear H c b d a; refine oG rfl (by kernel_rfl) f51 ?_; go_simp; exact f.out _ _ rfl trivial e
       refine EC 16 rfl (fun g h W F a b c d e H K f => ?_) ?_
       ·have f58 := gE (a 58) (by kernel_rfl) (H 14) (by kernel_rfl); have f51 := gE (a 51) (by kernel_rfl) (H 7) (by kernel_rfl); clear H c b d a; refine oG rfl (by kernel_rfl) f51 ?_; go_simp; exact f.out _ _ rfl trivial e
       refine EC 17 rfl (fun g h W F a b c d e H K f => ?_) ?_
       ·have f59 := gE (a 59) (by kernel_rfl) (H 15) (by kernel_rfl); clear H c b d a; refine off_guard rfl (by kernel_rfl) f59 (by decide) ?_; exact f.out _ _ rfl trivial e
       refine EC 18 rfl (fun g h W F a b c d e H K f => ?_) ?_
       ·have f59 := gE (a 59) (by kernel_rfl) (H 15) (by kernel_rfl); have k9_4 := cA (i := 9) e rfl 4 rfl; clear H c b d a; refine off_guard rfl (by kernel_rfl) f59 (by decide) ?_; exact f.out _ _ rfl trivial e
       refine EC 19 rfl (fun g h W F a b c d e H K f => ?_) ?_
       ·have f59 := gE (a 59) (by kernel_rfl) (H 15) (by kernel_rfl); have k6_0 := cA (i := 6) e rfl 0 rfl; clear H c b d a; refine off_guard rfl (by kernel_rfl) f59 (by decide) ?_; exact f.out _ _ rfl trivial e
       refine EC 20 rfl (fun g h W F a b c d e H K f => ?_) ?_
       ·have f59 := gE (a 59) (by kernel_rfl) (H 15) (by kernel_rfl); clear H c b d a; refine off_guard rfl (by kernel_rfl) f59 (by decide) ?_; exact f.out _ _ rfl trivial e
       refine EC 21 rfl (fun g h W F a b c d e H K f => ?_) ?_
       ·have f59 := gE (a 59) (by kernel_rfl) (H 15) (by kernel_rfl); clear H c b d a; refine off_guard rfl (by kernel_rfl) f59 (by decide) ?_; exact f.out _ _ rfl trivial e
       refine EC 22 rfl (fun g h W F a b c d e H K f => ?_) ?_
       ·have f59 := gE (a 59) (by kernel_rfl) (H 15) (by kernel_rfl); have k7_8 := cA (i := 7) e rfl 8 rfl; clear H c b d a; refine off_guard rfl (by kernel_rfl) f59 (by decide) ?_; exact f.out _ _ rfl trivial e
       refine EC 23 rfl (fun g h W F a b c d e H K f => ?_) ?_
       ·have f59 := gE (a 59) (by kernel_rfl) (H 15) (by kernel_rfl); clear H c b d a; refine off_guard rfl (by kernel_rfl) f59 (by decide) ?_; exact f.out _ _ rfl trivial e
       refine EC 24 rfl (fun g h W F a b c d e H K f => ?_) ?_
       ·have f59 := gE (a 59) (by kernel_rfl) (H 15) (by kernel_rfl); have f66 := gE (a 66) (by kernel_rfl) (H 22) (by kernel_rfl); have f51 := gE (a 51) (by kernel_rfl) (H 7) (by kernel_rfl); clear H c b d a; refine oG rfl (by kernel_rfl) f51 ?_; go_simp; exact f.out _ _ rfl trivial e
       refine EC 25 rfl (fun g h W F a b c d e H K f => ?_) ?_
       ·have f51 := gE (a 51) (by kernel_rfl) (H 7) (by kernel_rfl); have f67 := gE (a 67) (by kernel_rfl) (H 23) (by kernel_rfl); clear H c b d a; refine oP rfl ?_; go_simp; exact f.out _ _ rfl trivial e
       exact EN
      ·intro dn xv W hI H; have q24 : xv 24 = .bool false := (H 24 (of_decide_eq_true (by kernel_rfl))).2; have hS : Sep w0 W (TKaF w now g X Qs kk ffr fto finc fconn pinc pconn ack seq A body.length c (Rw 51 10 (.slice none 0 0) 0 []) (Bods []) (Rw 49 4 (.slice none 0 0) 0 []) (Bods []) (#[.slice none 0 0, .slice none 0 0]) (#[.int .u64 (base : Int), .slice BA box.length bc, .int .u64 (got : Int), .int .i64 sn, .int .u64 (si : Int), .int .i64 peer, .int .u64 (conn : Int), .int .u64 (inc : Int), .int .u64 (known : Int), .bool up, .int .u64 (heard : Int), .int .u64 (sent : Int)]) (BoxT (.slice BA box.length bc) box)) := hI; clear H hI; simp only [putAll, Act.put, List.setIfInBounds_toArray, List.set_cons_zero, List.set_cons_succ, Nat.reduceAdd, q24]; clear q24
       go_wp2_with fail
       go_meet
       case rel => exact ⟨by rw [← Hp2.out, decide_eq_false H2.out, decide_eq_false H1.out]; rfl, hS⟩
   case rest =>
    obtain ⟨rfl, hS⟩ := hcut; clear HS2; have HS4 := Lib.hid hS; clear hS; cases p2 with
    | true =>
     have HLK : Hid (sS.looks fF = false) := Lib.hid (by rw [HLOOK.out]; rfl); have k0 := cA (i := 4) HS4.out rfl 0 rfl; have k1 := cA (i := 4) HS4.out rfl 1 rfl; have y0 := cFz (i := 5) HS4.out rfl 0; have y1 := cFz (i := 5) HS4.out rfl 1; have z0 := cA (i := 5) HS4.out rfl 0 rfl; have z1 := cA (i := 5) HS4.out rfl 1 rfl; have HSZ := Lib.hid (cS (i := 5) (cS (i := 5) HS4.out rfl 0 (.slice none 0 0)) rfl 1 (.slice none 0 0))
     go_wp2_with fail
     have k0 := cA (i := 5) HSZ.out rfl 0 rfl; have k1 := cA (i := 5) HSZ.out rfl 1 rfl; refine ⟨.agg #[.slice none 0 0, .slice none 0 0], by simp [results, Try.results15, go_sem, k0, k1], ?_⟩; refine ⟨_, _, .slice BA box.length bc, [], [], rfl, ?_, ?_, ?_⟩
     ·rw [LS.takeF, if_neg (by rw [HLK.out]; simp)]; rfl
     ·rw [LS.takeE, if_neg (by rw [HLK.out]; simp)]; rfl
     ·have hx := ((((HSZ.out.drop 4).drop 4).drop 4).drop 6).drop 6; rw [LS.take, if_neg (by rw [HLK.out]; simp), ← HSS.out]; exact hx
    | false =>
     have HLK : Hid (sS.looks fF = true) := Lib.hid (by rw [HLOOK.out]; rfl); exact absurd HLK.out (by rw [HLOOK2.out]; simp)
end Go.Proofs.Ytngegjboenfmeaa
/- Take of any link. -/
namespace Go.Proofs.Ytngegjboenfmeaa
open Go Go.RowKit Go.Shelf
set_option linter.unusedVariables false
set_option maxRecDepth 100000
set_option linter.unusedSimpArgs false
attribute [local go_sem] Oper.semAt_some

set_option maxHeartbeats 51200000 in
theorem takeBack {w0 w : World} {Qs : List SP} {X : SP} {g now : Nat} {s : LS} {f : Fr} {bx : Value} {A : Option Addr} {c : Nat} (h : Sep w0 w (Ce g 72 (s.cells bx) :: BoxT bx s.box :: X :: Qs)) (hX : Reads X A f.body) (hs : s.Num) (hbl : f.body.length ≤ maxLen) (hack : f.ack < 18446744073709551616) (hseq : f.seq < 18446744073709551616) (hnow : now < 18446744073709551616) (hlk : s.looks f = true) (hkn : (s.take1 now f).knows f = false) :
  Calls Try.prog 15 #[.pointer (some ⟨g, 0, none⟩), .int .u64 (now : Int), .agg (f.cells A c)] w (Ans w0 g (X :: Qs) (s.takeF now f) (s.takeE now f) (s.take now f)) := by
 obtain ⟨BA, bc, rfl, hcc, hcm, hbx⟩ := sep_boxForm (i := 1) h rfl hs.small; have HOK := Lib.hid hs; obtain ⟨sS, HSS⟩ : ∃ x, Hid (s = x) := ⟨_, Lib.hid rfl⟩; obtain ⟨fF, HFF⟩ : ∃ x, Hid (f = x) := ⟨_, Lib.hid rfl⟩; have HOS : Hid (sS.Num) := Lib.hid (by rw [← HSS.out]; exact HOK.out)
 suffices hgoal : Calls Try.prog 15 #[.pointer (some ⟨g, 0, none⟩), .int .u64 (now : Int), .agg (f.cells A c)] w (Ans w0 g (X :: Qs) (sS.takeF now fF) (sS.takeE now fF) (sS.take now fF)) by
  rw [HSS.out, HFF.out]; rw [HFF.out] at hgoal; exact hgoal
 obtain ⟨base, box, got, sn, si, peer, conn, inc, known, up, heard, sent⟩ := s; obtain ⟨kk, ffr, fto, finc, fconn, pinc, pconn, ack, seq, body⟩ := f; have hsn : sn ≠ 0 := hs.sn; have HSN := Lib.hid hsn; have HBL : Hid (body.length ≤ maxLen) := Lib.hid hbl; have hack : ack < 18446744073709551616 := hack; have hseq : seq < 18446744073709551616 := hseq; have HX : Hid (Reads X A body) := Lib.hid hX; obtain ⟨p1, Hp1⟩ : ∃ q, Hid ((!(mayB kk ffr fto finc fconn pinc pconn ack seq body.length && decide (ffr = peer) && decide (fto = sn))) = q) := ⟨_, Lib.hid rfl⟩; obtain ⟨p2, Hp2⟩ : ∃ q, Hid ((decide (finc < inc) || (decide (finc = inc) && decide (fconn < known))) = q) := ⟨_, Lib.hid rfl⟩
 obtain ⟨p3, Hp3⟩ : ∃ q, Hid ((decide (finc ≠ inc) || decide (fconn ≠ known)) = q) := ⟨_, Lib.hid rfl⟩
 have HLOOK : Hid (sS.looks fF = (!p1 && !p2)) := Lib.hid (by rw [← HSS.out, ← HFF.out, ← Hp1.out, ← Hp2.out]; simp [LS.looks]); have HOTH : Hid (sS.other fF = p3) := Lib.hid (by rw [← HSS.out, ← HFF.out]; exact Hp3.out); show Calls Try.prog 15 #[.pointer (some ⟨g, 0, none⟩), .int .u64 (now : Int), .agg #[.int .i64 kk, .int .i64 ffr, .int .i64 fto, .int .u64 (finc : Int), .int .u64 (fconn : Int), .int .u64 (pinc : Int), .int .u64 (pconn : Int), .int .u64 (ack : Int), .int .u64 (seq : Int), .slice A body.length c]] w _; have HS0 := Lib.hid (show Sep w0 (((((w.alloc (.cells #[.pointer (some ⟨g, 0, none⟩)] 26)).alloc (.cells #[.int .u64 (now : Int)] 28)).alloc (.cells #[.int .i64 kk, .int .i64 ffr, .int .i64 fto, .int .u64 (finc : Int), .int .u64 (fconn : Int), .int .u64 (pinc : Int), .int .u64 (pconn : Int), .int .u64 (ack : Int), .int .u64 (seq : Int), .slice A body.length c] 51)).alloc (.cells #[.slice none 0 0, .slice none 0 0] 43)).alloc (.cells #[.slice none 0 0, .slice none 0 0] 43)) (TKaF w now g X Qs kk ffr fto finc fconn pinc pconn ack seq A body.length c (Rw 51 10 (.slice none 0 0) 0 []) (Bods []) (Rw 49 4 (.slice none 0 0) 0 []) (Bods []) (#[.slice none 0 0, .slice none 0 0]) (#[.int .u64 (base : Int), .slice BA box.length bc, .int .u64 (got : Int), .int .i64 sn, .int .u64 (si : Int), .int .i64 peer, .int .u64 (conn : Int), .int .u64 (inc : Int), .int .u64 (known : Int), .bool up, .int .u64 (heard : Int), .int .u64 (sent : Int)]) (BoxT (.slice BA box.length bc) box)) by
  have := sep_ceF (sep_ceF (sep_ceF (sep_ceF (sep_ceF h #[.pointer (some ⟨g, 0, none⟩)] 26) #[.int .u64 (now : Int)] 28) #[.int .i64 kk, .int .i64 ffr, .int .i64 fto, .int .u64 (finc : Int), .int .u64 (fconn : Int), .int .u64 (pinc : Int), .int .u64 (pconn : Int), .int .u64 (ack : Int), .int .u64 (seq : Int), .slice A body.length c] 51) #[.slice none 0 0, .slice none 0 0] 43) #[.slice none 0 0, .slice none 0 0] 43
  simp only [World.size_alloc] at this; have := sep_bodsNil (sep_rwNil (sep_bodsNil (sep_rwNil this 51 10).lastFront) 49 4).lastFront; exact (((((((((((this).tF 7 rfl).tF 7 rfl).tF 10 rfl).tF 10 rfl).tF 10 rfl).tF 10 rfl).tF 10 rfl).tF 7 rfl).tF 8 rfl).tF 9 rfl).tF 10 rfl)
 have HKN0 : Hid ((sS.take1 now fF).knows fF = false) := Lib.hid (by rw [← HSS.out, ← HFF.out]; exact hkn); clear hkn; clear h hs hsn hbx hbl hX; refine calls_marks 6 Try.func15 rfl ?_; have HLOOK2 : Hid (sS.looks fF = true) := Lib.hid (by rw [← HSS.out, ← HFF.out]; exact hlk); clear hlk; simp only [Try.ntmps15, List.size_toArray, List.length_cons, List.length_nil, Nat.reduceAdd, Nat.reduceSub, Array.replicate_succ, Array.replicate_zero, List.push_toArray, List.append_toArray, List.nil_append, List.cons_append]; have hm2 : mayB kk ffr fto finc fconn pinc pconn ack seq body.length = true ∧ ffr = peer ∧ fto = sn ∧ (decide (finc < inc) || (decide (finc = inc) && decide (fconn < known))) = false := by
  have h := HLOOK2.out; rw [← HSS.out, ← HFF.out] at h; simp only [LS.looks, Bool.and_eq_true, Bool.not_eq_true', decide_eq_true_eq] at h; exact ⟨h.1.1.1, h.1.1.2, h.1.2, h.2⟩
 have HLK : Hid (sS.looks fF = true) := HLOOK2; have hb448 : body.length ≤ 448 := mayB_len hm2.1; have HM := Lib.hid hm2.1; have e1 : (ffr != peer) = false := by simp [hm2.2.1]
 have e2 : (fto != sn) = false := by simp [hm2.2.2.1]
 have HN4 := Lib.hid hm2.2.2.2; clear hm2
 go_wp2_with fail
 refine wRF (fun dn xv W => Sep w0 W (TKaF w now g X Qs kk ffr fto finc fconn pinc pconn ack seq A body.length c (Rw 51 10 (.slice none 0 0) 0 []) (Bods []) (Rw 49 4 (.slice none 0 0) 0 []) (Bods []) (#[.slice none 0 0, .slice none 0 0]) (#[.int .u64 (base : Int), .slice BA box.length bc, .int .u64 (got : Int), .int .i64 sn, .int .u64 (si : Int), .int .i64 peer, .int .u64 (conn : Int), .int .u64 (inc : Int), .int .u64 (known : Int), .bool up, .int .u64 (heard : Int), .int .u64 (sent : Int)]) (BoxT (.slice BA box.length bc) box))) (fun _ _ => True) [fun v _ => v = .pointer (some ⟨g, 0, none⟩), fun v _ => v = .bool true, fun v _ => v = .bool false, fun v _ => v = .bool false, fun v _ => v = .agg #[.int .i64 kk, .int .i64 ffr, .int .i64 fto, .int .u64 (finc : Int), .int .u64 (fconn : Int), .int .u64 (pinc : Int), .int .u64 (pconn : Int), .int .u64 (ack : Int), .int .u64 (seq : Int), .slice A body.length c], fun v _ => v = .bool true, fun v _ => v = .bool false, fun v _ => v = .bool false, fun v _ => v = .bool false, fun v _ => v = .pointer (some ⟨w.heap.size + 1 + 1, 1, none⟩), fun v _ => v = .int .i64 ffr, fun v _ => v = .pointer (some ⟨g, 0, none⟩), fun v _ => v = .pointer (some ⟨g, 0, none⟩), fun v _ => v = .pointer (some ⟨g, 5, none⟩), fun v _ => v = .int .i64 peer, fun v _ => v = .bool false, fun v _ => v = .bool false, fun v _ => v = .bool false, fun v _ => v = .pointer (some ⟨w.heap.size + 1 + 1, 2, none⟩), fun v _ => v = .int .i64 fto, fun v _ => v = .pointer (some ⟨g, 0, none⟩), fun v _ => v = .pointer (some ⟨g, 0, none⟩), fun v _ => v = .pointer (some ⟨g, 3, none⟩), fun v _ => v = .pointer (some ⟨g, 3, none⟩), fun v _ => v = .int .i64 sn, fun v _ => v = .bool false, fun v _ => v = .bool false] (by kernel_rfl) (by kernel_rfl) (by kernel_rfl) (by kernel_rfl) (fun xv => by simpa using HS0.out.drew)
  (by repeat (first | exact trivial | refine ⟨fun _ _ _ _ h => h, ?_⟩)) ?_ ?_
 ·refine EC 1 rfl (fun g h W F a b c d e H K f => ?_) ?_
  ·have f3 : F.tmps.getD 3 undef = .pointer (some ⟨w.heap.size, 0, none⟩) := (a 3).trans (by kernel_rfl); have k6_0 := cA (i := 6) e rfl 0 rfl; clear H c b d a; refine oP rfl ?_; go_simp; exact f.out _ _ rfl trivial e
  refine EC 2 rfl (fun j k W F a b c d f H K h => ?_) ?_
  ·have f16 := gE (a 16) (by kernel_rfl) (H 0) (by kernel_rfl); clear H c b d a; refine oP rfl ?_; go_simp; refine (made_yes W g sn HSN.out (cA (i := 7) f rfl 3 rfl)).mono ?_; rintro e W' ⟨rfl, hb⟩; exact h.out _ W' rfl trivial (by simpa [upB, upd] using f.grow hb)
  refine EC 3 rfl (fun g h W F a b c d e H K f => ?_) ?_
  ·have f17 := gE (a 17) (by kernel_rfl) (H 1) (by kernel_rfl); clear H c b d a; refine oP rfl ?_; go_simp; exact f.out _ _ rfl trivial e
  refine EC 4 rfl (fun g h W F a b c d e H K f => ?_) ?_
  ·have f18 := gE (a 18) (by kernel_rfl) (H 2) (by kernel_rfl); clear H c b d a; refine oP rfl ?_; go_simp; exact f.out _ _ rfl trivial e
  refine EC 5 rfl (fun g h W F a b c d e H K f => ?_) ?_
  ·have f5 : F.tmps.getD 5 undef = .pointer (some ⟨w.heap.size + 1 + 1, 0, none⟩) := (a 5).trans (by kernel_rfl); have f19 := gE (a 19) (by kernel_rfl) (H 3) (by kernel_rfl); have k9_0 := cA (i := 9) e rfl 0 rfl; have k9_1 := cA (i := 9) e rfl 1 rfl; have k9_2 := cA (i := 9) e rfl 2 rfl; have k9_3 := cA (i := 9) e rfl 3 rfl; have k9_4 := cA (i := 9) e rfl 4 rfl; have k9_5 := cA (i := 9) e rfl 5 rfl; have k9_6 := cA (i := 9) e rfl 6 rfl; have k9_7 := cA (i := 9) e rfl 7 rfl; have k9_8 := cA (i := 9) e rfl 8 rfl; have k9_9 := cA (i := 9) e rfl 9 rfl; clear H c b d a; refine oG rfl (by kernel_rfl) f19 ?_; go_simp; exact f.out _ _ rfl trivial e
  refine EC 6 rfl (fun i j W F a b d f g H K h => ?_) ?_
  ·have f20 := gE (a 20) (by kernel_rfl) (H 4) (by kernel_rfl); have f19 := gE (a 19) (by kernel_rfl) (H 3) (by kernel_rfl); clear H d b f a; refine oG rfl (by kernel_rfl) f19 ?_; go_simp; refine (mayFk (w := W) (c := c) (A := A) HM.out HBL.out).mono ?_; rintro e W' ⟨rfl, hb⟩; exact h.out _ W' rfl trivial (by simpa [upB, upd] using g.grow hb)
  refine EC 7 rfl (fun g h W F a b c d e H K f => ?_) ?_
  ·have f21 := gE (a 21) (by kernel_rfl) (H 5) (by kernel_rfl); have f19 := gE (a 19) (by kernel_rfl) (H 3) (by kernel_rfl); clear H c b d a; refine oG rfl (by kernel_rfl) f19 ?_; go_simp; exact f.out _ _ rfl trivial e
  refine EC 8 rfl (fun g h W F a b c d e H K f => ?_) ?_
  ·have f19 := gE (a 19) (by kernel_rfl) (H 3) (by kernel_rfl); have f22 := gE (a 22) (by kernel_rfl) (H 6) (by kernel_rfl); clear H c b d a; refine oP rfl ?_; go_simp; exact f.out _ _ rfl trivial e
  refine EC 9 rfl (fun g h W F a b c d e H K f => ?_) ?_
  ·have f23 := gE (a 23) (by kernel_rfl) (H 7) (by kernel_rfl); clear H c b d a; refine oP rfl ?_; go_simp; exact f.out _ _ rfl trivial e
  refine EC 10 rfl (fun g h W F a b c d e H K f => ?_) ?_
  ·have f5 : F.tmps.getD 5 undef = .pointer (some ⟨w.heap.size + 1 + 1, 0, none⟩) := (a 5).trans (by kernel_rfl); have f24 := gE (a 24) (by kernel_rfl) (H 8) (by kernel_rfl); clear H c b d a; refine oG rfl (by kernel_rfl) f24 ?_; go_simp; exact f.out _ _ rfl trivial e
  refine EC 11 rfl (fun g h W F a b c d e H K f => ?_) ?_
  ·have f25 := gE (a 25) (by kernel_rfl) (H 9) (by kernel_rfl); have f24 := gE (a 24) (by kernel_rfl) (H 8) (by kernel_rfl); have k9_1 := cA (i := 9) e rfl 1 rfl; clear H c b d a; refine oG rfl (by kernel_rfl) f24 ?_; go_simp; exact f.out _ _ rfl trivial e
  refine EC 12 rfl (fun g h W F a b c d e H K f => ?_) ?_
  ·have f3 : F.tmps.getD 3 undef = .pointer (some ⟨w.heap.size, 0, none⟩) := (a 3).trans (by kernel_rfl); have f24 := gE (a 24) (by kernel_rfl) (H 8) (by kernel_rfl); have k6_0 := cA (i := 6) e rfl 0 rfl; clear H c b d a; refine oG rfl (by kernel_rfl) f24 ?_; go_simp; exact f.out _ _ rfl trivial e
  refine EC 13 rfl (fun g h W F a b c d e H K f => ?_) ?_
  ·have f27 := gE (a 27) (by kernel_rfl) (H 11) (by kernel_rfl); have f24 := gE (a 24) (by kernel_rfl) (H 8) (by kernel_rfl); clear H c b d a; refine oG rfl (by kernel_rfl) f24 ?_; go_simp; exact f.out _ _ rfl trivial e
  refine EC 14 rfl (fun g h W F a b c d e H K f => ?_) ?_
  ·have f28 := gE (a 28) (by kernel_rfl) (H 12) (by kernel_rfl); have f24 := gE (a 24) (by kernel_rfl) (H 8) (by kernel_rfl); clear H c b d a; refine oG rfl (by kernel_rfl) f24 ?_; go_simp; exact f.out _ _ rfl trivial e
  refine EC 15 rfl (fun g h W F a b c d e H K f => ?_) ?_
  ·have f29 := gE (a 29) (by kernel_rfl) (H 13) (by kernel_rfl); have f24 := gE (a 24) (by kernel_rfl) (H 8) (by kernel_rfl); have k7_5 := cA (i := 7) e rfl 5 rfl; clear H c b d a; refine oG rfl (by kernel_rfl) f24 ?_; go_simp; exact f.out _ _ rfl trivial e
  refine EC 16 rfl (fun g h W F a b c d e H K f => ?_) ?_
  ·have f26 := gE (a 26) (by kernel_rfl) (H 10) (by kernel_rfl); have f30 := gE (a 30) (by kernel_rfl) (H 14) (by kernel_rfl); have f24 := gE (a 24) (by kernel_rfl) (H 8) (by kernel_rfl); clear H c b d a; refine oG rfl (by kernel_rfl) f24 ?_; go_simp; exact f.out _ _ rfl trivial e
  refine EC 17 rfl (fun g h W F a b c d e H K f => ?_) ?_
  ·have f24 := gE (a 24) (by kernel_rfl) (H 8) (by kernel_rfl); have f31 := gE (a 31) (by kernel_rfl) (H 15) (by kernel_rfl); clear H c b d a; refine oP rfl ?_; go_simp; exact f.out _ _ rfl trivial e
  refine EC 18 rfl (fun g h W F a b c d e H K f => ?_) ?_
  ·have f32 := gE (a 32) (by kernel_rfl) (H 16) (by kernel_rfl); clear H c b d a; refine oP rfl ?_; go_simp; exact f.out _ _ rfl trivial e
  refine EC 19 rfl (fun g h W F a b c d e H K f => ?_) ?_
  ·have f5 : F.tmps.getD 5 undef = .pointer (some ⟨w.heap.size + 1 + 1, 0, none⟩) := (a 5).trans (by kernel_rfl); have f33 := gE (a 33) (by kernel_rfl) (H 17) (by kernel_rfl); clear H c b d a; refine oG rfl (by kernel_rfl) f33 ?_; go_simp; exact f.out _ _ rfl trivial e
  refine EC 20 rfl (fun g h W F a b c d e H K f => ?_) ?_
  ·have f34 := gE (a 34) (by kernel_rfl) (H 18) (by kernel_rfl); have f33 := gE (a 33) (by kernel_rfl) (H 17) (by kernel_rfl); have k9_2 := cA (i := 9) e rfl 2 rfl; clear H c b d a; refine oG rfl (by kernel_rfl) f33 ?_; go_simp; exact f.out _ _ rfl trivial e
  refine EC 21 rfl (fun g h W F a b c d e H K f => ?_) ?_
  ·have f3 : F.tmps.getD 3 undef = .pointer (some ⟨w.heap.size, 0, none⟩) := (a 3).trans (by kernel_rfl); have f33 := gE (a 33) (by kernel_rfl) (H 17) (by kernel_rfl); have k6_0 := cA (i := 6) e rfl 0 rfl; clear H c b d a; refine oG rfl (by kernel_rfl) f33 ?_; go_simp; exact f.out _ _ rfl trivial e
  refine EC 22 rfl (fun g h W F a b c d e H K f => ?_) ?_
  ·have f36 := gE (a 36) (by kernel_rfl) (H 20) (by kernel_rfl); have f33 := gE (a 33) (by kernel_rfl) (H 17) (by kernel_rfl); clear H c b d a; refine oG rfl (by kernel_rfl) f33 ?_; go_simp; exact f.out _ _ rfl trivial e
  refine EC 23 rfl (fun g h W F a b c d e H K f => ?_) ?_
  ·have f37 := gE (a 37) (by kernel_rfl) (H 21) (by kernel_rfl); have f33 := gE (a 33) (by kernel_rfl) (H 17) (by kernel_rfl); clear H c b d a; refine oG rfl (by kernel_rfl) f33 ?_; go_simp; exact f.out _ _ rfl trivial e
  refine EC 24 rfl (fun g h W F a b c d e H K f => ?_) ?_
  ·have f38 := gE (a 38) (by kernel_rfl) (H 22) (by kernel_rfl); have f33 := gE (a 33) (by kernel_rfl) (H 17) (by kernel_rfl); clear H c b d a; refine oG rfl (by kernel_rfl) f33 ?_; go_simp; exact f.out _ _ rfl trivial e
  refine EC 25 rfl (fun g h W F a b c d e H K f => ?_) ?_
  ·have f39 := gE (a 39) (by kernel_rfl) (H 23) (by kernel_rfl); have f33 := gE (a 33) (by kernel_rfl) (H 17) (by kernel_rfl); have k7_3 := cA (i := 7) e rfl 3 rfl; clear H c b d a; refine oG rfl (by kernel_rfl) f33 ?_; go_simp; exact f.out _ _ rfl trivial e
  refine EC 26 rfl (fun g h W F a b c d e H K f => ?_) ?_
  ·have f35 := gE (a 35) (by kernel_rfl) (H 19) (by kernel_rfl); have f40 := gE (a 40) (by kernel_rfl) (H 24) (by kernel_rfl); have f33 := gE (a 33) (by kernel_rfl) (H 17) (by kernel_rfl); clear H c b d a; refine oG rfl (by kernel_rfl) f33 ?_; go_simp; exact f.out _ _ rfl trivial e
  refine EC 27 rfl (fun g h W F a b c d e H K f => ?_) ?_
  ·have f33 := gE (a 33) (by kernel_rfl) (H 17) (by kernel_rfl); have f41 := gE (a 41) (by kernel_rfl) (H 25) (by kernel_rfl); clear H c b d a; refine oP rfl ?_; go_simp; exact f.out _ _ rfl trivial e
  exact EN
 ·intro dn xv W hI H; have q26 : xv 26 = .bool false := (H 26 (of_decide_eq_true (by kernel_rfl))).2; have hS : Sep w0 W (TKaF w now g X Qs kk ffr fto finc fconn pinc pconn ack seq A body.length c (Rw 51 10 (.slice none 0 0) 0 []) (Bods []) (Rw 49 4 (.slice none 0 0) 0 []) (Bods []) (#[.slice none 0 0, .slice none 0 0]) (#[.int .u64 (base : Int), .slice BA box.length bc, .int .u64 (got : Int), .int .i64 sn, .int .u64 (si : Int), .int .i64 peer, .int .u64 (conn : Int), .int .u64 (inc : Int), .int .u64 (known : Int), .bool up, .int .u64 (heard : Int), .int .u64 (sent : Int)]) (BoxT (.slice BA box.length bc) box)) := hI; clear H hI; simp only [putAll, Act.put, List.setIfInBounds_toArray, List.set_cons_zero, List.set_cons_succ, Nat.reduceAdd, q26]; clear q26; have HS2 := Lib.hid hS; clear hS e1 e2 HS0; obtain ⟨W2, HW2⟩ : ∃ x, Hid (W = x) := ⟨_, Lib.hid rfl⟩; rw [HW2.out] at HS2 ⊢
  go_upto_region 4 with fail
  go_cut [68] from 44 to 68 (fun t wx => t = .bool false ∧ Sep w0 wx (TKaF w now g X Qs kk ffr fto finc fconn pinc pconn ack seq A body.length c (Rw 51 10 (.slice none 0 0) 0 []) (Bods []) (Rw 49 4 (.slice none 0 0) 0 []) (Bods []) (#[.slice none 0 0, .slice none 0 0]) (#[.int .u64 (base : Int), .slice BA box.length bc, .int .u64 (got : Int), .int .i64 sn, .int .u64 (si : Int), .int .i64 peer, .int .u64 (conn : Int), .int .u64 (inc : Int), .int .u64 (known : Int), .bool up, .int .u64 (heard : Int), .int .u64 (sent : Int)]) (BoxT (.slice BA box.length bc) box)))
  case first =>
   have h1 : ¬ finc < inc := by
    intro h; have h2 := HN4.out; rw [decide_eq_true h] at h2; simp at h2
   have e1 : decide (finc < inc) = false := decide_eq_false h1
   by_cases h2 : finc = inc
   ·have e2 : ((finc : Int) == (inc : Int)) = true := by simp [h2]
    have h3 : ¬ fconn < known := by
     intro h; have h4 := HN4.out; rw [decide_eq_true h, decide_eq_true h2] at h4; simp at h4
    have e3 : decide (fconn < known) = false := decide_eq_false h3; clear h1 h2 h3
    go_wp2_with fail
    refine wRF (fun dn xv W => Sep w0 W (TKaF w now g X Qs kk ffr fto finc fconn pinc pconn ack seq A body.length c (Rw 51 10 (.slice none 0 0) 0 []) (Bods []) (Rw 49 4 (.slice none 0 0) 0 []) (Bods []) (#[.slice none 0 0, .slice none 0 0]) (#[.int .u64 (base : Int), .slice BA box.length bc, .int .u64 (got : Int), .int .i64 sn, .int .u64 (si : Int), .int .i64 peer, .int .u64 (conn : Int), .int .u64 (inc : Int), .int .u64 (known : Int), .bool up, .int .u64 (heard : Int), .int .u64 (sent : Int)]) (BoxT (.slice BA box.length bc) box))) (fun _ _ => True) [fun v _ => v = .pointer (some ⟨w.heap.size + 1 + 1, 3, none⟩), fun v _ => v = .int .u64 (finc : Int), fun v _ => v = .pointer (some ⟨g, 0, none⟩), fun v _ => v = .pointer (some ⟨g, 0, none⟩), fun v _ => v = .pointer (some ⟨g, 7, none⟩), fun v _ => v = .int .u64 (inc : Int), fun v _ => v = .bool false, fun v _ => v = .bool false, fun v _ => v = .pointer (some ⟨w.heap.size + 1 + 1, 3, none⟩), fun v _ => v = .int .u64 (finc : Int), fun v _ => v = .pointer (some ⟨g, 0, none⟩), fun v _ => v = .pointer (some ⟨g, 0, none⟩), fun v _ => v = .pointer (some ⟨g, 7, none⟩), fun v _ => v = .int .u64 (inc : Int), fun v _ => v = .bool true, fun v _ => v = .bool true, fun v _ => v = .pointer (some ⟨w.heap.size + 1 + 1, 4, none⟩), fun v _ => v = .int .u64 (fconn : Int), fun v _ => v = .pointer (some ⟨g, 0, none⟩), fun v _ => v = .pointer (some ⟨g, 0, none⟩), fun v _ => v = .pointer (some ⟨g, 8, none⟩), fun v _ => v = .int .u64 (known : Int), fun v _ => v = .bool false, fun v _ => v = .bool false, fun v _ => v = .bool false] (by kernel_rfl) (by kernel_rfl) (by kernel_rfl) (by kernel_rfl) (fun xv => by simpa using HS2.out.drew)
     (by repeat (first | exact trivial | refine ⟨fun _ _ _ _ h => h, ?_⟩)) ?_ ?_
    ·refine EC 1 rfl (fun g h W F a b c d e H K f => ?_) ?_
     ·have f5 : F.tmps.getD 5 undef = .pointer (some ⟨w.heap.size + 1 + 1, 0, none⟩) := (a 5).trans (by kernel_rfl); clear H c b d a; refine oP rfl ?_; go_simp; exact f.out _ _ rfl trivial e
     refine EC 2 rfl (fun g h W F a b c d e H K f => ?_) ?_
     ·have f44 := gE (a 44) (by kernel_rfl) (H 0) (by kernel_rfl); have k9_3 := cA (i := 9) e rfl 3 rfl; clear H c b d a; refine oP rfl ?_; go_simp; exact f.out _ _ rfl trivial e
     refine EC 3 rfl (fun g h W F a b c d e H K f => ?_) ?_
     ·have f3 : F.tmps.getD 3 undef = .pointer (some ⟨w.heap.size, 0, none⟩) := (a 3).trans (by kernel_rfl); have k6_0 := cA (i := 6) e rfl 0 rfl; clear H c b d a; refine oP rfl ?_; go_simp; exact f.out _ _ rfl trivial e
     refine EC 4 rfl (fun g h W F a b c d e H K f => ?_) ?_
     ·have f46 := gE (a 46) (by kernel_rfl) (H 2) (by kernel_rfl); clear H c b d a; refine oP rfl ?_; go_simp; exact f.out _ _ rfl trivial e
     refine EC 5 rfl (fun g h W F a b c d e H K f => ?_) ?_
     ·have f47 := gE (a 47) (by kernel_rfl) (H 3) (by kernel_rfl); clear H c b d a; refine oP rfl ?_; go_simp; exact f.out _ _ rfl trivial e
     refine EC 6 rfl (fun g h W F a b c d e H K f => ?_) ?_
     ·have f48 := gE (a 48) (by kernel_rfl) (H 4) (by kernel_rfl); have k7_7 := cA (i := 7) e rfl 7 rfl; clear H c b d a; refine oP rfl ?_; go_simp; exact f.out _ _ rfl trivial e
     refine EC 7 rfl (fun g h W F a b c d e H K f => ?_) ?_
     ·have f45 := gE (a 45) (by kernel_rfl) (H 1) (by kernel_rfl); have f49 := gE (a 49) (by kernel_rfl) (H 5) (by kernel_rfl); clear H c b d a; refine oP rfl ?_; go_simp; exact f.out _ _ rfl trivial e
     refine EC 8 rfl (fun g h W F a b c d e H K f => ?_) ?_
     ·have f50 := gE (a 50) (by kernel_rfl) (H 6) (by kernel_rfl); clear H c b d a; refine oP rfl ?_; go_simp; exact f.out _ _ rfl trivial e
     refine EC 9 rfl (fun g h W F a b c d e H K f => ?_) ?_
     ·have f5 : F.tmps.getD 5 undef = .pointer (some ⟨w.heap.size + 1 + 1, 0, none⟩) := (a 5).trans (by kernel_rfl); have f51 := gE (a 51) (by kernel_rfl) (H 7) (by kernel_rfl); clear H c b d a; refine oG rfl (by kernel_rfl) f51 ?_; go_simp; exact f.out _ _ rfl trivial e
     refine EC 10 rfl (fun g h W F a b c d e H K f => ?_) ?_
     ·have f52 := gE (a 52) (by kernel_rfl) (H 8) (by kernel_rfl); have f51 := gE (a 51) (by kernel_rfl) (H 7) (by kernel_rfl); have k9_3 := cA (i := 9) e rfl 3 rfl; clear H c b d a; refine oG rfl (by kernel_rfl) f51 ?_; go_simp; exact f.out _ _ rfl trivial e
     refine EC 11 rfl (fun g h W F a b c d e H K f => ?_) ?_
     ·have f3 : F.tmps.getD 3 undef = .pointer (some ⟨w.heap.size, 0, none⟩) := (a 3).trans (by kernel_rfl); have f51 := gE (a 51) (by kernel_rfl) (H 7) (by kernel_rfl); have k6_0 := cA (i := 6) e rfl 0 rfl; clear H c b d a; refine oG rfl (by kernel_rfl) f51 ?_; go_simp; exact f.out _ _ rfl trivial e
     refine EC 12 rfl (fun g h W F a b c d e H K f => ?_) ?_
     ·have f54 := gE (a 54) (by kernel_rfl) (H 10) (by kernel_rfl); have f51 := gE (a 51) (by kernel_rfl) (H 7) (by kernel_rfl); clear H c b d a; refine oG rfl (by kernel_rfl) f51 ?_; go_simp; exact f.out _ _ rfl trivial e
     refine EC 13 rfl (fun g h W F a b c d e H K f => ?_) ?_
     ·have f55 := gE (a 55) (by kernel_rfl) (H 11) (by kernel_rfl); have f51 := gE (a 51) (by kernel_rfl) (H 7) (by kernel_rfl); clear H c b d a; refine oG rfl (by kernel_rfl) f51 ?_; go_simp; exact f.out _ _ rfl trivial e
     refine EC 14 rfl (fun g h W F a b c d e H K f => ?_) ?_
     ·have f56 := gE (a 56) (by kernel_rfl) (H 12) (by kernel_rfl); have f51 := gE (a 51) (by kernel_rfl) (H 7) (by kernel_rfl); have k7_7 := cA (i := 7) e rfl 7 rfl; clear H c b d a; refine oG rfl (by kernel_rfl) f51 ?_; go_simp; exact f.out _ _ rfl trivial e
     refine EC 15 rfl (fun g h W F a b c d e H K f => ?_) ?_
     ·have f53 := gE (a 53) (by kernel_rfl) (H 9) (by kernel_rfl); have f57 := gE (a 57) (by kernel_rfl) (H 13) (by kernel_rfl); have f51 := gE (a 51) (by kernel_rfl) (H 7) (by kernel_rfl); clear H c b d a; refine oG rfl (by kernel_rfl) f51 ?_; go_simp; exact f.out _ _ rfl trivial e
     refine EC 16 rfl (fun g h W F a b c d e H K f => ?_) ?_
     ·have f58 := gE (a 58) (by kernel_rfl) (H 14) (by kernel_rfl); have f51 := gE (a 51) (by kernel_rfl) (H 7) (by kernel_rfl); clear H c b d a; refine oG rfl (by kernel_rfl) f51 ?_; go_simp; exact f.out _ _ rfl trivial e
     refine EC 17 rfl (fun g h W F a b c d e H K f => ?_) ?_
     ·have f5 : F.tmps.getD 5 undef = .pointer (some ⟨w.heap.size + 1 + 1, 0, none⟩) := (a 5).trans (by kernel_rfl); have f59 := gE (a 59) (by kernel_rfl) (H 15) (by kernel_rfl); clear H c b d a; refine oG rfl (by kernel_rfl) f59 ?_; go_simp; exact f.out _ _ rfl trivial e
     refine EC 18 rfl (fun g h W F a b c d e H K f => ?_) ?_
     ·have f60 := gE (a 60) (by kernel_rfl) (H 16) (by kernel_rfl); have f59 := gE (a 59) (by kernel_rfl) (H 15) (by kernel_rfl); have k9_4 := cA (i := 9) e rfl 4 rfl; clear H c b d a; refine oG rfl (by kernel_rfl) f59 ?_; go_simp; exact f.out _ _ rfl trivial e
     refine EC 19 rfl (fun g h W F a b c d e H K f => ?_) ?_
     ·have f3 : F.tmps.getD 3 undef = .pointer (some ⟨w.heap.size, 0, none⟩) := (a 3).trans (by kernel_rfl); have f59 := gE (a 59) (by kernel_rfl) (H 15) (by kernel_rfl); have k6_0 := cA (i := 6) e rfl 0 rfl; clear H c b d a; refine oG rfl (by kernel_rfl) f59 ?_; go_simp; exact f.out _ _ rfl trivial e
     refine EC 20 rfl (fun g h W F a b c d e H K f => ?_) ?_
     ·have f62 := gE (a 62) (by kernel_rfl) (H 18) (by kernel_rfl); have f59 := gE (a 59) (by kernel_rfl) (H 15) (by kernel_rfl); clear H c b d a; refine oG rfl (by kernel_rfl) f59 ?_; go_simp; exact f.out _ _ rfl trivial e
     refine EC 21 rfl (fun g h W F a b c d e H K f => ?_) ?_
     ·have f63 := gE (a 63) (by kernel_rfl) (H 19) (by kernel_rfl); have f59 := gE (a 59) (by kernel_rfl) (H 15) (by kernel_rfl); clear H c b d a; refine oG rfl (by kernel_rfl) f59 ?_; go_simp; exact f.out _ _ rfl trivial e
     refine EC 22 rfl (fun g h W F a b c d e H K f => ?_) ?_
     ·have f64 := gE (a 64) (by kernel_rfl) (H 20) (by kernel_rfl); have f59 := gE (a 59) (by kernel_rfl) (H 15) (by kernel_rfl); have k7_8 := cA (i := 7) e rfl 8 rfl; clear H c b d a; refine oG rfl (by kernel_rfl) f59 ?_; go_simp; exact f.out _ _ rfl trivial e
     refine EC 23 rfl (fun g h W F a b c d e H K f => ?_) ?_
     ·have f61 := gE (a 61) (by kernel_rfl) (H 17) (by kernel_rfl); have f65 := gE (a 65) (by kernel_rfl) (H 21) (by kernel_rfl); have f59 := gE (a 59) (by kernel_rfl) (H 15) (by kernel_rfl); clear H c b d a; refine oG rfl (by kernel_rfl) f59 ?_; go_simp; exact f.out _ _ rfl trivial e
     refine EC 24 rfl (fun g h W F a b c d e H K f => ?_) ?_
     ·have f59 := gE (a 59) (by kernel_rfl) (H 15) (by kernel_rfl); have f66 := gE (a 66) (by kernel_rfl) (H 22) (by kernel_rfl); have f51 := gE (a 51) (by kernel_rfl) (H 7) (by kernel_rfl); clear H c b d a; refine oG rfl (by kernel_rfl) f51 ?_; go_simp; exact f.out _ _ rfl trivial e
     refine EC 25 rfl (fun g h W F a b c d e H K f => ?_) ?_
     ·have f51 := gE (a 51) (by kernel_rfl) (H 7) (by kernel_rfl); have f67 := gE (a 67) (by kernel_rfl) (H 23) (by kernel_rfl); clear H c b d a; refine oP rfl ?_; go_simp; exact f.out _ _ rfl trivial e
     exact EN
    ·intro dn xv W hI H; have q24 : xv 24 = .bool false := (H 24 (of_decide_eq_true (by kernel_rfl))).2; have hS : Sep w0 W (TKaF w now g X Qs kk ffr fto finc fconn pinc pconn ack seq A body.length c (Rw 51 10 (.slice none 0 0) 0 []) (Bods []) (Rw 49 4 (.slice none 0 0) 0 []) (Bods []) (#[.slice none 0 0, .slice none 0 0]) (#[.int .u64 (base : Int), .slice BA box.length bc, .int .u64 (got : Int), .int .i64 sn, .int .u64 (si : Int), .int .i64 peer, .int .u64 (conn : Int), .int .u64 (inc : Int), .int .u64 (known : Int), .bool up, .int .u64 (heard : Int), .int .u64 (sent : Int)]) (BoxT (.slice BA box.length bc) box)) := hI; clear H hI; simp only [putAll, Act.put, List.setIfInBounds_toArray, List.set_cons_zero, List.set_cons_succ, Nat.reduceAdd, q24]; clear q24
     go_wp2_with fail
     go_meet
     case rel => exact ⟨rfl, hS⟩
   ·have e2 : ((finc : Int) == (inc : Int)) = false := beq_eq_false_iff_ne.2 (by omega); clear h1 h2
    go_wp2_with fail
    refine wRF (fun dn xv W => Sep w0 W (TKaF w now g X Qs kk ffr fto finc fconn pinc pconn ack seq A body.length c (Rw 51 10 (.slice none 0 0) 0 []) (Bods []) (Rw 49 4 (.slice none 0 0) 0 []) (Bods []) (#[.slice none 0 0, .slice none 0 0]) (#[.int .u64 (base : Int), .slice BA box.length bc, .int .u64 (got : Int), .int .i64 sn, .int .u64 (si : Int), .int .i64 peer, .int .u64 (conn : Int), .int .u64 (inc : Int), .int .u64 (known : Int), .bool up, .int .u64 (heard : Int), .int .u64 (sent : Int)]) (BoxT (.slice BA box.length bc) box))) (fun _ _ => True) [fun v _ => v = .pointer (some ⟨w.heap.size + 1 + 1, 3, none⟩), fun v _ => v = .int .u64 (finc : Int), fun v _ => v = .pointer (some ⟨g, 0, none⟩), fun v _ => v = .pointer (some ⟨g, 0, none⟩), fun v _ => v = .pointer (some ⟨g, 7, none⟩), fun v _ => v = .int .u64 (inc : Int), fun v _ => v = .bool false, fun v _ => v = .bool false, fun v _ => v = .pointer (some ⟨w.heap.size + 1 + 1, 3, none⟩), fun v _ => v = .int .u64 (finc : Int), fun v _ => v = .pointer (some ⟨g, 0, none⟩), fun v _ => v = .pointer (some ⟨g, 0, none⟩), fun v _ => v = .pointer (some ⟨g, 7, none⟩), fun v _ => v = .int .u64 (inc : Int), fun v _ => v = .bool false, fun v _ => v = .bool false, fun v _ => v = undef, fun v _ => v = undef, fun v _ => v = undef, fun v _ => v = undef, fun v _ => v = undef, fun v _ => v = undef, fun v _ => v = undef, fun v _ => v = .bool false, fun v _ => v = .bool false] (by kernel_rfl) (by kernel_rfl) (by kernel_rfl) (by kernel_rfl) (fun xv => by simpa using HS2.out.drew)
     (by repeat (first | exact trivial | refine ⟨fun _ _ _ _ h => h, ?_⟩)) ?_ ?_
    ·refine EC 1 rfl (fun g h W F a b c d e H K f => ?_) ?_
     ·have f5 : F.tmps.getD 5 undef = .pointer (some ⟨w.heap.size + 1 + 1, 0, none⟩) := (a 5).trans (by kernel_rfl); clear H c b d a; refine oP rfl ?_; go_simp; exact f.out _ _ rfl trivial e
     refine EC 2 rfl (fun g h W F a b c d e H K f => ?_) ?_
     ·have f44 := gE (a 44) (by kernel_rfl) (H 0) (by kernel_rfl); have k9_3 := cA (i := 9) e rfl 3 rfl; clear H c b d a; refine oP rfl ?_; go_simp; exact f.out _ _ rfl trivial e
     refine EC 3 rfl (fun g h W F a b c d e H K f => ?_) ?_
     ·have f3 : F.tmps.getD 3 undef = .pointer (some ⟨w.heap.size, 0, none⟩) := (a 3).trans (by kernel_rfl); have k6_0 := cA (i := 6) e rfl 0 rfl; clear H c b d a; refine oP rfl ?_; go_simp; exact f.out _ _ rfl trivial e
     refine EC 4 rfl (fun g h W F a b c d e H K f => ?_) ?_
     ·have f46 := gE (a 46) (by kernel_rfl) (H 2) (by kernel_rfl); clear H c b d a; refine oP rfl ?_; go_simp; exact f.out _ _ rfl trivial e
     refine EC 5 rfl (fun g h W F a b c d e H K f => ?_) ?_
     ·have f47 := gE (a 47) (by kernel_rfl) (H 3) (by kernel_rfl); clear H c b d a; refine oP rfl ?_; go_simp; exact f.out _ _ rfl trivial e
     refine EC 6 rfl (fun g h W F a b c d e H K f => ?_) ?_
     ·have f48 := gE (a 48) (by kernel_rfl) (H 4) (by kernel_rfl); have k7_7 := cA (i := 7) e rfl 7 rfl; clear H c b d a; refine oP rfl ?_; go_simp; exact f.out _ _ rfl trivial e
     refine EC 7 rfl (fun g h W F a b c d e H K f => ?_) ?_
     ·have f45 := gE (a 45) (by kernel_rfl) (H 1) (by kernel_rfl); have f49 := gE (a 49) (by kernel_rfl) (H 5) (by kernel_rfl); clear H c b d a; refine oP rfl ?_; go_simp; exact f.out _ _ rfl trivial e
     refine EC 8 rfl (fun g h W F a b c d e H K f => ?_) ?_
     ·have f50 := gE (a 50) (by kernel_rfl) (H 6) (by kernel_rfl); clear H c b d a; refine oP rfl ?_; go_simp; exact f.out _ _ rfl trivial e
     refine EC 9 rfl (fun g h W F a b c d e H K f => ?_) ?_
     ·have f5 : F.tmps.getD 5 undef = .pointer (some ⟨w.heap.size + 1 + 1, 0, none⟩) := (a 5).trans (by kernel_rfl); have f51 := gE (a 51) (by kernel_rfl) (H 7) (by kernel_rfl); clear H c b d a; refine oG rfl (by kernel_rfl) f51 ?_; go_simp; exact f.out _ _ rfl trivial e
     refine EC 10 rfl (fun g h W F a b c d e H K f => ?_) ?_
     ·have f52 := gE (a 52) (by kernel_rfl) (H 8) (by kernel_rfl); have f51 := gE (a 51) (by kernel_rfl) (H 7) (by kernel_rfl); have k9_3 := cA (i := 9) e rfl 3 rfl; clear H c b d a; refine oG rfl (by kernel_rfl) f51 ?_; go_simp; exact f.out _ _ rfl trivial e
     refine EC 11 rfl (fun g h W F a b c d e H K f => ?_) ?_
     ·have f3 : F.tmps.getD 3 undef = .pointer (some ⟨w.heap.size, 0, none⟩) := (a 3).trans (by kernel_rfl); have f51 := gE (a 51) (by kernel_rfl) (H 7) (by kernel_rfl); have k6_0 := cA (i := 6) e rfl 0 rfl; clear H c b d a; refine oG rfl (by kernel_rfl) f51 ?_; go_simp; exact f.out _ _ rfl trivial e
     refine EC 12 rfl (fun g h W F a b c d e H K f => ?_) ?_
     ·have f54 := gE (a 54) (by kernel_rfl) (H 10) (by kernel_rfl); have f51 := gE (a 51) (by kernel_rfl) (H 7) (by kernel_rfl); clear H c b d a; refine oG rfl (by kernel_rfl) f51 ?_; go_simp; exact f.out _ _ rfl trivial e
     refine EC 13 rfl (fun g h W F a b c d e H K f => ?_) ?_
     ·have f55 := gE (a 55) (by kernel_rfl) (H 11) (by kernel_rfl); have f51 := gE (a 51) (by kernel_rfl) (H 7) (by kernel_rfl); clear H c b d a; refine oG rfl (by kernel_rfl) f51 ?_; go_simp; exact f.out _ _ rfl trivial e
     refine EC 14 rfl (fun g h W F a b c d e H K f => ?_) ?_
     ·have f56 := gE (a 56) (by kernel_rfl) (H 12) (by kernel_rfl); have f51 := gE (a 51) (by kernel_rfl) (H 7) (by kernel_rfl); have k7_7 := cA (i := 7) e rfl 7 rfl; clear H c b d a; refine oG rfl (by kernel_rfl) f51 ?_; go_simp; exact f.out _ _ rfl trivial e
     refine EC 15 rfl (fun g h W F a b c d e H K f => ?_) ?_
     ·have f53 := gE (a 53) (by kernel_rfl) (H 9) (by kernel_rfl); have f57 := gE (a 57) (by kernel_rfl) (H 13) (by kernel_rfl); have f51 := gE (a 51) (by kernel_rfl) (H 7) (by kernel_rfl); clear H c b d a; refine oG rfl (by kernel_rfl) f51 ?_; go_simp; exact f.out _ _ rfl trivial e
     refine EC 16 rfl (fun g h W F a b c d e H K f => ?_) ?_
     ·have f58 := gE (a 58) (by kernel_rfl) (H 14) (by kernel_rfl); have f51 := gE (a 51) (by kernel_rfl) (H 7) (by kernel_rfl); clear H c b d a; refine oG rfl (by kernel_rfl) f51 ?_; go_simp; exact f.out _ _ rfl trivial e
     refine EC 17 rfl (fun g h W F a b c d e H K f => ?_) ?_
     ·have f59 := gE (a 59) (by kernel_rfl) (H 15) (by kernel_rfl); clear H c b d a; refine off_guard rfl (by kernel_rfl) f59 (by decide) ?_; exact f.out _ _ rfl trivial e
     refine EC 18 rfl (fun g h W F a b c d e H K f => ?_) ?_
     ·have f59 := gE (a 59) (by kernel_rfl) (H 15) (by kernel_rfl); have k9_4 := cA (i := 9) e rfl 4 rfl; clear H c b d a; refine off_guard rfl (by kernel_rfl) f59 (by decide) ?_; exact f.out _ _ rfl trivial e
     refine EC 19 rfl (fun g h W F a b c d e H K f => ?_) ?_
     ·have f59 := gE (a 59) (by kernel_rfl) (H 15) (by kernel_rfl); have k6_0 := cA (i := 6) e rfl 0 rfl; clear H c b d a; refine off_guard rfl (by kernel_rfl) f59 (by decide) ?_; exact f.out _ _ rfl trivial e
     refine EC 20 rfl (fun g h W F a b c d e H K f => ?_) ?_
     ·have f59 := gE (a 59) (by kernel_rfl) (H 15) (by kernel_rfl); clear H c b d a; refine off_guard rfl (by kernel_rfl) f59 (by decide) ?_; exact f.out _ _ rfl trivial e
     refine EC 21 rfl (fun g h W F a b c d e H K f => ?_) ?_
     ·have f59 := gE (a 59) (by kernel_rfl) (H 15) (by kernel_rfl); clear H c b d a; refine off_guard rfl (by kernel_rfl) f59 (by decide) ?_; exact f.out _ _ rfl trivial e
     refine EC 22 rfl (fun g h W F a b c d e H K f => ?_) ?_
     ·have f59 := gE (a 59) (by kernel_rfl) (H 15) (by kernel_rfl); have k7_8 := cA (i := 7) e rfl 8 rfl; clear H c b d a; refine off_guard rfl (by kernel_rfl) f59 (by decide) ?_; exact f.out _ _ rfl trivial e
     refine EC 23 rfl (fun g h W F a b c d e H K f => ?_) ?_
     ·have f59 := gE (a 59) (by kernel_rfl) (H 15) (by kernel_rfl); clear H c b d a; refine off_guard rfl (by kernel_rfl) f59 (by decide) ?_; exact f.out _ _ rfl trivial e
     refine EC 24 rfl (fun g h W F a b c d e H K f => ?_) ?_
     ·have f59 := gE (a 59) (by kernel_rfl) (H 15) (by kernel_rfl); have f66 := gE (a 66) (by kernel_rfl) (H 22) (by kernel_rfl); have f51 := gE (a 51) (by kernel_rfl) (H 7) (by kernel_rfl); clear H c b d a; refine oG rfl (by kernel_rfl) f51 ?_; go_simp; exact f.out _ _ rfl trivial e
     refine EC 25 rfl (fun g h W F a b c d e H K f => ?_) ?_
     ·have f51 := gE (a 51) (by kernel_rfl) (H 7) (by kernel_rfl); have f67 := gE (a 67) (by kernel_rfl) (H 23) (by kernel_rfl); clear H c b d a; refine oP rfl ?_; go_simp; exact f.out _ _ rfl trivial e
     exact EN
    ·intro dn xv W hI H; have q24 : xv 24 = .bool false := (H 24 (of_decide_eq_true (by kernel_rfl))).2; have hS : Sep w0 W (TKaF w now g X Qs kk ffr fto finc fconn pinc pconn ack seq A body.length c (Rw 51 10 (.slice none 0 0) 0 []) (Bods []) (Rw 49 4 (.slice none 0 0) 0 []) (Bods []) (#[.slice none 0 0, .slice none 0 0]) (#[.int .u64 (base : Int), .slice BA box.length bc, .int .u64 (got : Int), .int .i64 sn, .int .u64 (si : Int), .int .i64 peer, .int .u64 (conn : Int), .int .u64 (inc : Int), .int .u64 (known : Int), .bool up, .int .u64 (heard : Int), .int .u64 (sent : Int)]) (BoxT (.slice BA box.length bc) box)) := hI; clear H hI; simp only [putAll, Act.put, List.setIfInBounds_toArray, List.set_cons_zero, List.set_cons_succ, Nat.reduceAdd, q24]; clear q24
     go_wp2_with fail
     go_meet
     case rel => exact ⟨rfl, hS⟩
  case rest =>
   obtain ⟨rfl, hS⟩ := hcut; clear HS2; have HS4 := Lib.hid hS; clear hS; have kl := cA (i := 6) HS4.out rfl 0 rfl
   go_wp2_with fail
   refine (sep_teller HS4.out g (w.heap.size + 1 + 1 + 1 + 1)).mono ?_; rintro e w6 ⟨q1, q0, rfl, h6⟩; have HS6 : Hid (Sep w0 w6 (TKqF w now g q1 q0 X Qs kk ffr fto finc fconn pinc pconn ack seq A body.length c (Rw 51 10 (.slice none 0 0) 0 []) (Bods []) (Rw 49 4 (.slice none 0 0) 0 []) (Bods []) (#[.slice none 0 0, .slice none 0 0]) (#[.int .u64 (base : Int), .slice BA box.length bc, .int .u64 (got : Int), .int .i64 sn, .int .u64 (si : Int), .int .i64 peer, .int .u64 (conn : Int), .int .u64 (inc : Int), .int .u64 (known : Int), .bool up, .int .u64 (heard : Int), .int .u64 (sent : Int)]) (BoxT (.slice BA box.length bc) box))) := Lib.hid ((((((((((((h6).tF 1 rfl).tF 1 rfl).tF 10 rfl).tF 10 rfl).tF 10 rfl).tF 10 rfl).tF 10 rfl).tF 10 rfl).tF 10 rfl).tF 10 rfl).tF 10 rfl); clear h6 HS4 kl
   go_upto_region 7 with fail
   go_cut [87] from 72 to 87 (fun t wx => t = .bool p3 ∧ Sep w0 wx (TKqF w now g q1 q0 X Qs kk ffr fto finc fconn pinc pconn ack seq A body.length c (Rw 51 10 (.slice none 0 0) 0 []) (Bods []) (Rw 49 4 (.slice none 0 0) 0 []) (Bods []) (#[.slice none 0 0, .slice none 0 0]) (#[.int .u64 (base : Int), .slice BA box.length bc, .int .u64 (got : Int), .int .i64 sn, .int .u64 (si : Int), .int .i64 peer, .int .u64 (conn : Int), .int .u64 (inc : Int), .int .u64 (known : Int), .bool up, .int .u64 (heard : Int), .int .u64 (sent : Int)]) (BoxT (.slice BA box.length bc) box)))
   case first =>
      by_cases h1 : finc = inc
      ·have e1 : ((finc : Int) != (inc : Int)) = false := by simp [h1]
       have H1 := Lib.hid h1; clear h1
       by_cases h2 : fconn = known
       ·have e2 : ((fconn : Int) != (known : Int)) = false := by simp [h2]
        have H2 := Lib.hid h2; clear h2
        go_wp2_with fail
        refine wRF (fun dn xv W => Sep w0 W (TKqF w now g q1 q0 X Qs kk ffr fto finc fconn pinc pconn ack seq A body.length c (Rw 51 10 (.slice none 0 0) 0 []) (Bods []) (Rw 49 4 (.slice none 0 0) 0 []) (Bods []) (#[.slice none 0 0, .slice none 0 0]) (#[.int .u64 (base : Int), .slice BA box.length bc, .int .u64 (got : Int), .int .i64 sn, .int .u64 (si : Int), .int .i64 peer, .int .u64 (conn : Int), .int .u64 (inc : Int), .int .u64 (known : Int), .bool up, .int .u64 (heard : Int), .int .u64 (sent : Int)]) (BoxT (.slice BA box.length bc) box))) (fun _ _ => True) [fun v _ => v = .pointer (some ⟨w.heap.size + 1 + 1, 3, none⟩), fun v _ => v = .int .u64 (finc : Int), fun v _ => v = .pointer (some ⟨g, 0, none⟩), fun v _ => v = .pointer (some ⟨g, 0, none⟩), fun v _ => v = .pointer (some ⟨g, 7, none⟩), fun v _ => v = .int .u64 (inc : Int), fun v _ => v = .bool false, fun v _ => v = .bool false, fun v _ => v = .pointer (some ⟨w.heap.size + 1 + 1, 4, none⟩), fun v _ => v = .int .u64 (fconn : Int), fun v _ => v = .pointer (some ⟨g, 0, none⟩), fun v _ => v = .pointer (some ⟨g, 0, none⟩), fun v _ => v = .pointer (some ⟨g, 8, none⟩), fun v _ => v = .int .u64 (known : Int), fun v _ => v = .bool false, fun v _ => v = .bool false] (by kernel_rfl) (by kernel_rfl) (by kernel_rfl) (by kernel_rfl) (fun xv => by simpa using HS6.out.drew)
         (by repeat (first | exact trivial | refine ⟨fun _ _ _ _ h => h, ?_⟩)) ?_ ?_
        ·refine EC 1 rfl (fun g h W F a b c d e H K f => ?_) ?_
         ·have f5 : F.tmps.getD 5 undef = .pointer (some ⟨w.heap.size + 1 + 1, 0, none⟩) := (a 5).trans (by kernel_rfl); clear H c b d a; refine oP rfl ?_; go_simp; exact f.out _ _ rfl trivial e
         refine EC 2 rfl (fun g h W F a b c d e H K f => ?_) ?_
         ·have f72 := gE (a 72) (by kernel_rfl) (H 0) (by kernel_rfl); have k11_3 := cA (i := 11) e rfl 3 rfl; clear H c b d a; refine oP rfl ?_; go_simp; exact f.out _ _ rfl trivial e
         refine EC 3 rfl (fun g h W F a b c d e H K f => ?_) ?_
         ·have f3 : F.tmps.getD 3 undef = .pointer (some ⟨w.heap.size, 0, none⟩) := (a 3).trans (by kernel_rfl); have k6_0 := cA (i := 6) e rfl 0 rfl; clear H c b d a; refine oP rfl ?_; go_simp; exact f.out _ _ rfl trivial e
         refine EC 4 rfl (fun g h W F a b c d e H K f => ?_) ?_
         ·have f74 := gE (a 74) (by kernel_rfl) (H 2) (by kernel_rfl); clear H c b d a; refine oP rfl ?_; go_simp; exact f.out _ _ rfl trivial e
         refine EC 5 rfl (fun g h W F a b c d e H K f => ?_) ?_
         ·have f75 := gE (a 75) (by kernel_rfl) (H 3) (by kernel_rfl); clear H c b d a; refine oP rfl ?_; go_simp; exact f.out _ _ rfl trivial e
         refine EC 6 rfl (fun g h W F a b c d e H K f => ?_) ?_
         ·have f76 := gE (a 76) (by kernel_rfl) (H 4) (by kernel_rfl); have k7_7 := cA (i := 7) e rfl 7 rfl; clear H c b d a; refine oP rfl ?_; go_simp; exact f.out _ _ rfl trivial e
         refine EC 7 rfl (fun g h W F a b c d e H K f => ?_) ?_
         ·have f73 := gE (a 73) (by kernel_rfl) (H 1) (by kernel_rfl); have f77 := gE (a 77) (by kernel_rfl) (H 5) (by kernel_rfl); clear H c b d a; refine oP rfl ?_; go_simp; exact f.out _ _ rfl trivial e
         refine EC 8 rfl (fun g h W F a b c d e H K f => ?_) ?_
         ·have f78 := gE (a 78) (by kernel_rfl) (H 6) (by kernel_rfl); clear H c b d a; refine oP rfl ?_; go_simp; exact f.out _ _ rfl trivial e
         refine EC 9 rfl (fun g h W F a b c d e H K f => ?_) ?_
         ·have f5 : F.tmps.getD 5 undef = .pointer (some ⟨w.heap.size + 1 + 1, 0, none⟩) := (a 5).trans (by kernel_rfl); have f79 := gE (a 79) (by kernel_rfl) (H 7) (by kernel_rfl); clear H c b d a; refine oG rfl (by kernel_rfl) f79 ?_; go_simp; exact f.out _ _ rfl trivial e
         refine EC 10 rfl (fun g h W F a b c d e H K f => ?_) ?_
         ·have f80 := gE (a 80) (by kernel_rfl) (H 8) (by kernel_rfl); have f79 := gE (a 79) (by kernel_rfl) (H 7) (by kernel_rfl); have k11_4 := cA (i := 11) e rfl 4 rfl; clear H c b d a; refine oG rfl (by kernel_rfl) f79 ?_; go_simp; exact f.out _ _ rfl trivial e
         refine EC 11 rfl (fun g h W F a b c d e H K f => ?_) ?_
         ·have f3 : F.tmps.getD 3 undef = .pointer (some ⟨w.heap.size, 0, none⟩) := (a 3).trans (by kernel_rfl); have f79 := gE (a 79) (by kernel_rfl) (H 7) (by kernel_rfl); have k6_0 := cA (i := 6) e rfl 0 rfl; clear H c b d a; refine oG rfl (by kernel_rfl) f79 ?_; go_simp; exact f.out _ _ rfl trivial e
         refine EC 12 rfl (fun g h W F a b c d e H K f => ?_) ?_
         ·have f82 := gE (a 82) (by kernel_rfl) (H 10) (by kernel_rfl); have f79 := gE (a 79) (by kernel_rfl) (H 7) (by kernel_rfl); clear H c b d a; refine oG rfl (by kernel_rfl) f79 ?_; go_simp; exact f.out _ _ rfl trivial e
         refine EC 13 rfl (fun g h W F a b c d e H K f => ?_) ?_
         ·have f83 := gE (a 83) (by kernel_rfl) (H 11) (by kernel_rfl); have f79 := gE (a 79) (by kernel_rfl) (H 7) (by kernel_rfl); clear H c b d a; refine oG rfl (by kernel_rfl) f79 ?_; go_simp; exact f.out _ _ rfl trivial e
         refine EC 14 rfl (fun g h W F a b c d e H K f => ?_) ?_
         ·have f84 := gE (a 84) (by kernel_rfl) (H 12) (by kernel_rfl); have f79 := gE (a 79) (by kernel_rfl) (H 7) (by kernel_rfl); have k7_8 := cA (i := 7) e rfl 8 rfl; clear H c b d a; refine oG rfl (by kernel_rfl) f79 ?_; go_simp; exact f.out _ _ rfl trivial e
         refine EC 15 rfl (fun g h W F a b c d e H K f => ?_) ?_
         ·have f81 := gE (a 81) (by kernel_rfl) (H 9) (by kernel_rfl); have f85 := gE (a 85) (by kernel_rfl) (H 13) (by kernel_rfl); have f79 := gE (a 79) (by kernel_rfl) (H 7) (by kernel_rfl); clear H c b d a; refine oG rfl (by kernel_rfl) f79 ?_; go_simp; exact f.out _ _ rfl trivial e
         refine EC 16 rfl (fun g h W F a b c d e H K f => ?_) ?_
         ·have f79 := gE (a 79) (by kernel_rfl) (H 7) (by kernel_rfl); have f86 := gE (a 86) (by kernel_rfl) (H 14) (by kernel_rfl); clear H c b d a; refine oP rfl ?_; go_simp; exact f.out _ _ rfl trivial e
         exact EN
        ·intro dn xv W hI H; have q15 : xv 15 = .bool false := (H 15 (of_decide_eq_true (by kernel_rfl))).2; have hS : Sep w0 W (TKqF w now g q1 q0 X Qs kk ffr fto finc fconn pinc pconn ack seq A body.length c (Rw 51 10 (.slice none 0 0) 0 []) (Bods []) (Rw 49 4 (.slice none 0 0) 0 []) (Bods []) (#[.slice none 0 0, .slice none 0 0]) (#[.int .u64 (base : Int), .slice BA box.length bc, .int .u64 (got : Int), .int .i64 sn, .int .u64 (si : Int), .int .i64 peer, .int .u64 (conn : Int), .int .u64 (inc : Int), .int .u64 (known : Int), .bool up, .int .u64 (heard : Int), .int .u64 (sent : Int)]) (BoxT (.slice BA box.length bc) box)) := hI; clear H hI; simp only [putAll, Act.put, List.setIfInBounds_toArray, List.set_cons_zero, List.set_cons_succ, Nat.reduceAdd, q15]; clear q15
         go_wp2_with fail
         go_meet
         case rel => exact ⟨by rw [← Hp3.out]; simp [H1.out, H2.out], hS⟩
       ·have e2 : ((fconn : Int) != (known : Int)) = true := by simp; omega
        have H2 := Lib.hid h2; clear h2
        go_wp2_with fail
        refine wRF (fun dn xv W => Sep w0 W (TKqF w now g q1 q0 X Qs kk ffr fto finc fconn pinc pconn ack seq A body.length c (Rw 51 10 (.slice none 0 0) 0 []) (Bods []) (Rw 49 4 (.slice none 0 0) 0 []) (Bods []) (#[.slice none 0 0, .slice none 0 0]) (#[.int .u64 (base : Int), .slice BA box.length bc, .int .u64 (got : Int), .int .i64 sn, .int .u64 (si : Int), .int .i64 peer, .int .u64 (conn : Int), .int .u64 (inc : Int), .int .u64 (known : Int), .bool up, .int .u64 (heard : Int), .int .u64 (sent : Int)]) (BoxT (.slice BA box.length bc) box))) (fun _ _ => True) [fun v _ => v = .pointer (some ⟨w.heap.size + 1 + 1, 3, none⟩), fun v _ => v = .int .u64 (finc : Int), fun v _ => v = .pointer (some ⟨g, 0, none⟩), fun v _ => v = .pointer (some ⟨g, 0, none⟩), fun v _ => v = .pointer (some ⟨g, 7, none⟩), fun v _ => v = .int .u64 (inc : Int), fun v _ => v = .bool false, fun v _ => v = .bool false, fun v _ => v = .pointer (some ⟨w.heap.size + 1 + 1, 4, none⟩), fun v _ => v = .int .u64 (fconn : Int), fun v _ => v = .pointer (some ⟨g, 0, none⟩), fun v _ => v = .pointer (some ⟨g, 0, none⟩), fun v _ => v = .pointer (some ⟨g, 8, none⟩), fun v _ => v = .int .u64 (known : Int), fun v _ => v = .bool true, fun v _ => v = .bool true] (by kernel_rfl) (by kernel_rfl) (by kernel_rfl) (by kernel_rfl) (fun xv => by simpa using HS6.out.drew)
         (by repeat (first | exact trivial | refine ⟨fun _ _ _ _ h => h, ?_⟩)) ?_ ?_
        ·refine EC 1 rfl (fun g h W F a b c d e H K f => ?_) ?_
         ·have f5 : F.tmps.getD 5 undef = .pointer (some ⟨w.heap.size + 1 + 1, 0, none⟩) := (a 5).trans (by kernel_rfl); clear H c b d a; refine oP rfl ?_; go_simp; exact f.out _ _ rfl trivial e
         refine EC 2 rfl (fun g h W F a b c d e H K f => ?_) ?_
         ·have f72 := gE (a 72) (by kernel_rfl) (H 0) (by kernel_rfl); have k11_3 := cA (i := 11) e rfl 3 rfl; clear H c b d a; refine oP rfl ?_; go_simp; exact f.out _ _ rfl trivial e
         refine EC 3 rfl (fun g h W F a b c d e H K f => ?_) ?_
         ·have f3 : F.tmps.getD 3 undef = .pointer (some ⟨w.heap.size, 0, none⟩) := (a 3).trans (by kernel_rfl); have k6_0 := cA (i := 6) e rfl 0 rfl; clear H c b d a; refine oP rfl ?_; go_simp; exact f.out _ _ rfl trivial e
         refine EC 4 rfl (fun g h W F a b c d e H K f => ?_) ?_
         ·have f74 := gE (a 74) (by kernel_rfl) (H 2) (by kernel_rfl); clear H c b d a; refine oP rfl ?_; go_simp; exact f.out _ _ rfl trivial e
         refine EC 5 rfl (fun g h W F a b c d e H K f => ?_) ?_
         ·have f75 := gE (a 75) (by kernel_rfl) (H 3) (by kernel_rfl); clear H c b d a; refine oP rfl ?_; go_simp; exact f.out _ _ rfl trivial e
         refine EC 6 rfl (fun g h W F a b c d e H K f => ?_) ?_
         ·have f76 := gE (a 76) (by kernel_rfl) (H 4) (by kernel_rfl); have k7_7 := cA (i := 7) e rfl 7 rfl; clear H c b d a; refine oP rfl ?_; go_simp; exact f.out _ _ rfl trivial e
         refine EC 7 rfl (fun g h W F a b c d e H K f => ?_) ?_
         ·have f73 := gE (a 73) (by kernel_rfl) (H 1) (by kernel_rfl); have f77 := gE (a 77) (by kernel_rfl) (H 5) (by kernel_rfl); clear H c b d a; refine oP rfl ?_; go_simp; exact f.out _ _ rfl trivial e
         refine EC 8 rfl (fun g h W F a b c d e H K f => ?_) ?_
         ·have f78 := gE (a 78) (by kernel_rfl) (H 6) (by kernel_rfl); clear H c b d a; refine oP rfl ?_; go_simp; exact f.out _ _ rfl trivial e
         refine EC 9 rfl (fun g h W F a b c d e H K f => ?_) ?_
         ·have f5 : F.tmps.getD 5 undef = .pointer (some ⟨w.heap.size + 1 + 1, 0, none⟩) := (a 5).trans (by kernel_rfl); have f79 := gE (a 79) (by kernel_rfl) (H 7) (by kernel_rfl); clear H c b d a; refine oG rfl (by kernel_rfl) f79 ?_; go_simp; exact f.out _ _ rfl trivial e
         refine EC 10 rfl (fun g h W F a b c d e H K f => ?_) ?_
         ·have f80 := gE (a 80) (by kernel_rfl) (H 8) (by kernel_rfl); have f79 := gE (a 79) (by kernel_rfl) (H 7) (by kernel_rfl); have k11_4 := cA (i := 11) e rfl 4 rfl; clear H c b d a; refine oG rfl (by kernel_rfl) f79 ?_; go_simp; exact f.out _ _ rfl trivial e
         refine EC 11 rfl (fun g h W F a b c d e H K f => ?_) ?_
         ·have f3 : F.tmps.getD 3 undef = .pointer (some ⟨w.heap.size, 0, none⟩) := (a 3).trans (by kernel_rfl); have f79 := gE (a 79) (by kernel_rfl) (H 7) (by kernel_rfl); have k6_0 := cA (i := 6) e rfl 0 rfl; clear H c b d a; refine oG rfl (by kernel_rfl) f79 ?_; go_simp; exact f.out _ _ rfl trivial e
         refine EC 12 rfl (fun g h W F a b c d e H K f => ?_) ?_
         ·have f82 := gE (a 82) (by kernel_rfl) (H 10) (by kernel_rfl); have f79 := gE (a 79) (by kernel_rfl) (H 7) (by kernel_rfl); clear H c b d a; refine oG rfl (by kernel_rfl) f79 ?_; go_simp; exact f.out _ _ rfl trivial e
         refine EC 13 rfl (fun g h W F a b c d e H K f => ?_) ?_
         ·have f83 := gE (a 83) (by kernel_rfl) (H 11) (by kernel_rfl); have f79 := gE (a 79) (by kernel_rfl) (H 7) (by kernel_rfl); clear H c b d a; refine oG rfl (by kernel_rfl) f79 ?_; go_simp; exact f.out _ _ rfl trivial e
         refine EC 14 rfl (fun g h W F a b c d e H K f => ?_) ?_
         ·have f84 := gE (a 84) (by kernel_rfl) (H 12) (by kernel_rfl); have f79 := gE (a 79) (by kernel_rfl) (H 7) (by kernel_rfl); have k7_8 := cA (i := 7) e rfl 8 rfl; clear H c b d a; refine oG rfl (by kernel_rfl) f79 ?_; go_simp; exact f.out _ _ rfl trivial e
         refine EC 15 rfl (fun g h W F a b c d e H K f => ?_) ?_
         ·have f81 := gE (a 81) (by kernel_rfl) (H 9) (by kernel_rfl); have f85 := gE (a 85) (by kernel_rfl) (H 13) (by kernel_rfl); have f79 := gE (a 79) (by kernel_rfl) (H 7) (by kernel_rfl); clear H c b d a; refine oG rfl (by kernel_rfl) f79 ?_; go_simp; exact f.out _ _ rfl trivial e
         refine EC 16 rfl (fun g h W F a b c d e H K f => ?_) ?_
         ·have f79 := gE (a 79) (by kernel_rfl) (H 7) (by kernel_rfl); have f86 := gE (a 86) (by kernel_rfl) (H 14) (by kernel_rfl); clear H c b d a; refine oP rfl ?_; go_simp; exact f.out _ _ rfl trivial e
         exact EN
        ·intro dn xv W hI H; have q15 : xv 15 = .bool true := (H 15 (of_decide_eq_true (by kernel_rfl))).2; have hS : Sep w0 W (TKqF w now g q1 q0 X Qs kk ffr fto finc fconn pinc pconn ack seq A body.length c (Rw 51 10 (.slice none 0 0) 0 []) (Bods []) (Rw 49 4 (.slice none 0 0) 0 []) (Bods []) (#[.slice none 0 0, .slice none 0 0]) (#[.int .u64 (base : Int), .slice BA box.length bc, .int .u64 (got : Int), .int .i64 sn, .int .u64 (si : Int), .int .i64 peer, .int .u64 (conn : Int), .int .u64 (inc : Int), .int .u64 (known : Int), .bool up, .int .u64 (heard : Int), .int .u64 (sent : Int)]) (BoxT (.slice BA box.length bc) box)) := hI; clear H hI; simp only [putAll, Act.put, List.setIfInBounds_toArray, List.set_cons_zero, List.set_cons_succ, Nat.reduceAdd, q15]; clear q15
         go_wp2_with fail
         go_meet
         case rel => exact ⟨by rw [← Hp3.out]; simp [H2.out], hS⟩
      ·have e1 : ((finc : Int) != (inc : Int)) = true := by simp; omega
       have H1 := Lib.hid h1; clear h1
       go_wp2_with fail
       refine wRF (fun dn xv W => Sep w0 W (TKqF w now g q1 q0 X Qs kk ffr fto finc fconn pinc pconn ack seq A body.length c (Rw 51 10 (.slice none 0 0) 0 []) (Bods []) (Rw 49 4 (.slice none 0 0) 0 []) (Bods []) (#[.slice none 0 0, .slice none 0 0]) (#[.int .u64 (base : Int), .slice BA box.length bc, .int .u64 (got : Int), .int .i64 sn, .int .u64 (si : Int), .int .i64 peer, .int .u64 (conn : Int), .int .u64 (inc : Int), .int .u64 (known : Int), .bool up, .int .u64 (heard : Int), .int .u64 (sent : Int)]) (BoxT (.slice BA box.length bc) box))) (fun _ _ => True) [fun v _ => v = .pointer (some ⟨w.heap.size + 1 + 1, 3, none⟩), fun v _ => v = .int .u64 (finc : Int), fun v _ => v = .pointer (some ⟨g, 0, none⟩), fun v _ => v = .pointer (some ⟨g, 0, none⟩), fun v _ => v = .pointer (some ⟨g, 7, none⟩), fun v _ => v = .int .u64 (inc : Int), fun v _ => v = .bool true, fun v _ => v = .bool true, fun v _ => v = undef, fun v _ => v = undef, fun v _ => v = undef, fun v _ => v = undef, fun v _ => v = undef, fun v _ => v = undef, fun v _ => v = undef, fun v _ => v = .bool true] (by kernel_rfl) (by kernel_rfl) (by kernel_rfl) (by kernel_rfl) (fun xv => by simpa using HS6.out.drew)
        (by repeat (first | exact trivial | refine ⟨fun _ _ _ _ h => h, ?_⟩)) ?_ ?_
       ·refine EC 1 rfl (fun g h W F a b c d e H K f => ?_) ?_
        ·have f5 : F.tmps.getD 5 undef = .pointer (some ⟨w.heap.size + 1 + 1, 0, none⟩) := (a 5).trans (by kernel_rfl); clear H c b d a; refine oP rfl ?_; go_simp; exact f.out _ _ rfl trivial e
        refine EC 2 rfl (fun g h W F a b c d e H K f => ?_) ?_
        ·have f72 := gE (a 72) (by kernel_rfl) (H 0) (by kernel_rfl); have k11_3 := cA (i := 11) e rfl 3 rfl; clear H c b d a; refine oP rfl ?_; go_simp; exact f.out _ _ rfl trivial e
        refine EC 3 rfl (fun g h W F a b c d e H K f => ?_) ?_
        ·have f3 : F.tmps.getD 3 undef = .pointer (some ⟨w.heap.size, 0, none⟩) := (a 3).trans (by kernel_rfl); have k6_0 := cA (i := 6) e rfl 0 rfl; clear H c b d a; refine oP rfl ?_; go_simp; exact f.out _ _ rfl trivial e
        refine EC 4 rfl (fun g h W F a b c d e H K f => ?_) ?_
        ·have f74 := gE (a 74) (by kernel_rfl) (H 2) (by kernel_rfl); clear H c b d a; refine oP rfl ?_; go_simp; exact f.out _ _ rfl trivial e
        refine EC 5 rfl (fun g h W F a b c d e H K f => ?_) ?_
        ·have f75 := gE (a 75) (by kernel_rfl) (H 3) (by kernel_rfl); clear H c b d a; refine oP rfl ?_; go_simp; exact f.out _ _ rfl trivial e
        refine EC 6 rfl (fun g h W F a b c d e H K f => ?_) ?_
        ·have f76 := gE (a 76) (by kernel_rfl) (H 4) (by kernel_rfl); have k7_7 := cA (i := 7) e rfl 7 rfl; clear H c b d a; refine oP rfl ?_; go_simp; exact f.out _ _ rfl trivial e
        refine EC 7 rfl (fun g h W F a b c d e H K f => ?_) ?_
        ·have f73 := gE (a 73) (by kernel_rfl) (H 1) (by kernel_rfl); have f77 := gE (a 77) (by kernel_rfl) (H 5) (by kernel_rfl); clear H c b d a; refine oP rfl ?_; go_simp; exact f.out _ _ rfl trivial e
        refine EC 8 rfl (fun g h W F a b c d e H K f => ?_) ?_
        ·have f78 := gE (a 78) (by kernel_rfl) (H 6) (by kernel_rfl); clear H c b d a; refine oP rfl ?_; go_simp; exact f.out _ _ rfl trivial e
        refine EC 9 rfl (fun g h W F a b c d e H K f => ?_) ?_
        ·have f79 := gE (a 79) (by kernel_rfl) (H 7) (by kernel_rfl); clear H c b d a; refine off_guard rfl (by kernel_rfl) f79 (by decide) ?_; exact f.out _ _ rfl trivial e
        refine EC 10 rfl (fun g h W F a b c d e H K f => ?_) ?_
        ·have f79 := gE (a 79) (by kernel_rfl) (H 7) (by kernel_rfl); have k11_4 := cA (i := 11) e rfl 4 rfl; clear H c b d a; refine off_guard rfl (by kernel_rfl) f79 (by decide) ?_; exact f.out _ _ rfl trivial e
        refine EC 11 rfl (fun g h W F a b c d e H K f => ?_) ?_
        ·have f79 := gE (a 79) (by kernel_rfl) (H 7) (by kernel_rfl); have k6_0 := cA (i := 6) e rfl 0 rfl; clear H c b d a; refine off_guard rfl (by kernel_rfl) f79 (by decide) ?_; exact f.out _ _ rfl trivial e
        refine EC 12 rfl (fun g h W F a b c d e H K f => ?_) ?_
        ·have f79 := gE (a 79) (by kernel_rfl) (H 7) (by kernel_rfl); clear H c b d a; refine off_guard rfl (by kernel_rfl) f79 (by decide) ?_; exact f.out _ _ rfl trivial e
        refine EC 13 rfl (fun g h W F a b c d e H K f => ?_) ?_
        ·have f79 := gE (a 79) (by kernel_rfl) (H 7) (by kernel_rfl); clear H c b d a; refine off_guard rfl (by kernel_rfl) f79 (by decide) ?_; exact f.out _ _ rfl trivial e
        refine EC 14 rfl (fun g h W F a b c d e H K f => ?_) ?_
        ·have f79 := gE (a 79) (by kernel_rfl) (H 7) (by kernel_rfl); have k7_8 := cA (i := 7) e rfl 8 rfl; clear H c b d a; refine off_guard rfl (by kernel_rfl) f79 (by decide) ?_; exact f.out _ _ rfl trivial e
        refine EC 15 rfl (fun g h W F a b c d e H K f => ?_) ?_
        ·have f79 := gE (a 79) (by kernel_rfl) (H 7) (by kernel_rfl); clear H c b d a; refine off_guard rfl (by kernel_rfl) f79 (by decide) ?_; exact f.out _ _ rfl trivial e
        refine EC 16 rfl (fun g h W F a b c d e H K f => ?_) ?_
        ·have f79 := gE (a 79) (by kernel_rfl) (H 7) (by kernel_rfl); have f86 := gE (a 86) (by kernel_rfl) (H 14) (by kernel_rfl); clear H c b d a; refine oP rfl ?_; go_simp; exact f.out _ _ rfl trivial e
        exact EN
       ·intro dn xv W hI H; have q15 : xv 15 = .bool true := (H 15 (of_decide_eq_true (by kernel_rfl))).2; have hS : Sep w0 W (TKqF w now g q1 q0 X Qs kk ffr fto finc fconn pinc pconn ack seq A body.length c (Rw 51 10 (.slice none 0 0) 0 []) (Bods []) (Rw 49 4 (.slice none 0 0) 0 []) (Bods []) (#[.slice none 0 0, .slice none 0 0]) (#[.int .u64 (base : Int), .slice BA box.length bc, .int .u64 (got : Int), .int .i64 sn, .int .u64 (si : Int), .int .i64 peer, .int .u64 (conn : Int), .int .u64 (inc : Int), .int .u64 (known : Int), .bool up, .int .u64 (heard : Int), .int .u64 (sent : Int)]) (BoxT (.slice BA box.length bc) box)) := hI; clear H hI; simp only [putAll, Act.put, List.setIfInBounds_toArray, List.set_cons_zero, List.set_cons_succ, Nat.reduceAdd, q15]; clear q15
        go_wp2_with fail
        go_meet
        case rel => exact ⟨by rw [← Hp3.out]; simp [H1.out], hS⟩
   case rest =>
    obtain ⟨rfl, hS⟩ := hcut; clear HS6; have HS7 := Lib.hid hS; clear hS
    go_upto_if 87 with fail
    go_cut [] from 88 to 100 (fun wx => ∃ vF vE bx2 LE, Hid (vF = .slice none 0 0) ∧ LE.map Prod.fst = sS.take1E fF ∧ Sep w0 wx (TKqF w now g q1 q0 X Qs kk ffr fto finc fconn pinc pconn ack seq A body.length c (Rw 51 10 vF 0 []) (Bods []) (Rw 49 4 vE LE.length (eR_ LE)) (Bods (eB_ LE)) (#[vF, vE]) ((sS.turn fF).cells bx2) (BoxT bx2 (sS.turn fF).box)))
    case first =>
       cases p3 with
       | false =>
        go_wp2_with fail
        go_meet
        case rel =>
         refine ⟨.slice none 0 0, .slice none 0 0, .slice BA box.length bc, [], Lib.hid rfl, by rw [LS.take1E, HOTH.out]; rfl, ?_⟩; rw [LS.turn, if_neg (by rw [HOTH.out]; simp), ← HSS.out]; exact HS7.out
       | true =>
        have kl := cA (i := 6) HS7.out rfl 0 rfl
        go_wp2_with fail
        refine (downAny (s := ⟨base, box, got, sn, si, peer, conn, inc, known, up, heard, sent⟩) HS7.out HSN.out).mono ?_; rintro e w8 ⟨rfl, vE, LE, hLE, h8⟩; have HLE := Lib.hid hLE; obtain ⟨mE, HmE⟩ : ∃ x, Hid (LE.length = x) := ⟨_, Lib.hid rfl⟩; obtain ⟨yE, HyE⟩ : ∃ x, Hid (eR_ LE = x) := ⟨_, Lib.hid rfl⟩; obtain ⟨LBE, HLB⟩ : ∃ x, Hid (eB_ LE = x) := ⟨_, Lib.hid rfl⟩; rw [HmE.out, HyE.out, HLB.out] at h8; have HS8 := Lib.hid (show Sep w0 w8 (TKqF w now g q1 q0 X Qs kk ffr fto finc fconn pinc pconn ack seq A body.length c (Rw 51 10 (.slice none 0 0) 0 []) (Bods []) (Rw 49 4 vE mE yE) (Bods LBE) (#[.slice none 0 0, vE]) (#[.int .u64 0, .slice none 0 0, .int .u64 0, .int .i64 sn, .int .u64 (si : Int), .int .i64 peer, .int .u64 (conn : Int), .int .u64 (inc : Int), .int .u64 (known : Int), .bool false, .int .u64 (heard : Int), .int .u64 (sent : Int)]) (BoxT (.slice none 0 0) [])) from h8); clear h8 hLE kl; have HP9 : ∀ (dn : Nat → Bool) (W : World), (if dn 11 = true then Sep w0 W (TKqF w now g q1 q0 X Qs kk ffr fto finc fconn pinc pconn ack seq A body.length c (Rw 51 10 (.slice none 0 0) 0 []) (Bods []) (Rw 49 4 vE mE yE) (Bods LBE) (#[.slice none 0 0, vE]) (#[.int .u64 0, .slice none 0 0, .int .u64 0, .int .i64 sn, .int .u64 (si : Int), .int .i64 peer, .int .u64 (conn : Int), .int .u64 (finc : Int), .int .u64 (fconn : Int), .bool false, .int .u64 (heard : Int), .int .u64 (sent : Int)]) (BoxT (.slice none 0 0) [])) else if dn 8 = true then Sep w0 W (TKqF w now g q1 q0 X Qs kk ffr fto finc fconn pinc pconn ack seq A body.length c (Rw 51 10 (.slice none 0 0) 0 []) (Bods []) (Rw 49 4 vE mE yE) (Bods LBE) (#[.slice none 0 0, vE]) (#[.int .u64 0, .slice none 0 0, .int .u64 0, .int .i64 sn, .int .u64 (si : Int), .int .i64 peer, .int .u64 (conn : Int), .int .u64 (finc : Int), .int .u64 (known : Int), .bool false, .int .u64 (heard : Int), .int .u64 (sent : Int)]) (BoxT (.slice none 0 0) [])) else Sep w0 W (TKqF w now g q1 q0 X Qs kk ffr fto finc fconn pinc pconn ack seq A body.length c (Rw 51 10 (.slice none 0 0) 0 []) (Bods []) (Rw 49 4 vE mE yE) (Bods LBE) (#[.slice none 0 0, vE]) (#[.int .u64 0, .slice none 0 0, .int .u64 0, .int .i64 sn, .int .u64 (si : Int), .int .i64 peer, .int .u64 (conn : Int), .int .u64 (inc : Int), .int .u64 (known : Int), .bool false, .int .u64 (heard : Int), .int .u64 (sent : Int)]) (BoxT (.slice none 0 0) []))) → ∃ cs, Sep w0 W (TKqF w now g q1 q0 X Qs kk ffr fto finc fconn pinc pconn ack seq A body.length c (Rw 51 10 (.slice none 0 0) 0 []) (Bods []) (Rw 49 4 vE mE yE) (Bods LBE) (#[.slice none 0 0, vE]) (cs) (BoxT (.slice none 0 0) [])) := fun dn W h => by
         split at h
         ·exact ⟨_, h⟩
         split at h
         ·exact ⟨_, h⟩
         exact ⟨_, h⟩
        go_wp2_with fail
        refine wRF (fun dn xv W => if dn 11 = true then Sep w0 W (TKqF w now g q1 q0 X Qs kk ffr fto finc fconn pinc pconn ack seq A body.length c (Rw 51 10 (.slice none 0 0) 0 []) (Bods []) (Rw 49 4 vE mE yE) (Bods LBE) (#[.slice none 0 0, vE]) (#[.int .u64 0, .slice none 0 0, .int .u64 0, .int .i64 sn, .int .u64 (si : Int), .int .i64 peer, .int .u64 (conn : Int), .int .u64 (finc : Int), .int .u64 (fconn : Int), .bool false, .int .u64 (heard : Int), .int .u64 (sent : Int)]) (BoxT (.slice none 0 0) [])) else if dn 8 = true then Sep w0 W (TKqF w now g q1 q0 X Qs kk ffr fto finc fconn pinc pconn ack seq A body.length c (Rw 51 10 (.slice none 0 0) 0 []) (Bods []) (Rw 49 4 vE mE yE) (Bods LBE) (#[.slice none 0 0, vE]) (#[.int .u64 0, .slice none 0 0, .int .u64 0, .int .i64 sn, .int .u64 (si : Int), .int .i64 peer, .int .u64 (conn : Int), .int .u64 (finc : Int), .int .u64 (known : Int), .bool false, .int .u64 (heard : Int), .int .u64 (sent : Int)]) (BoxT (.slice none 0 0) [])) else Sep w0 W (TKqF w now g q1 q0 X Qs kk ffr fto finc fconn pinc pconn ack seq A body.length c (Rw 51 10 (.slice none 0 0) 0 []) (Bods []) (Rw 49 4 vE mE yE) (Bods LBE) (#[.slice none 0 0, vE]) (#[.int .u64 0, .slice none 0 0, .int .u64 0, .int .i64 sn, .int .u64 (si : Int), .int .i64 peer, .int .u64 (conn : Int), .int .u64 (inc : Int), .int .u64 (known : Int), .bool false, .int .u64 (heard : Int), .int .u64 (sent : Int)]) (BoxT (.slice none 0 0) []))) (fun _ _ => True) [fun v _ => v = .pointer (some ⟨g, 0, none⟩), fun v _ => v = .pointer (some ⟨g, 0, none⟩), fun v _ => v = .pointer (some ⟨w.heap.size + 1 + 1, 3, none⟩), fun v _ => v = .int .u64 (finc : Int), fun v _ => v = .pointer (some ⟨w.heap.size + 1 + 1, 4, none⟩), fun v _ => v = .int .u64 (fconn : Int), fun v _ => v = .pointer (some ⟨g, 0, none⟩), fun v _ => v = .pointer (some ⟨g, 7, none⟩), fun v _ => True, fun v _ => v = .pointer (some ⟨g, 0, none⟩), fun v _ => v = .pointer (some ⟨g, 8, none⟩), fun v _ => True] (by kernel_rfl) (by kernel_rfl) (by kernel_rfl) (by kernel_rfl) (fun xv => by simpa using HS8.out.drew)
         (by repeat (first | exact trivial | refine ⟨fun _ _ _ _ h => h, ?_⟩)) ?_ ?_
        ·refine EC 1 rfl (fun g h W F a b c d e H K f => ?_) ?_
         ·have f3 : F.tmps.getD 3 undef = .pointer (some ⟨w.heap.size, 0, none⟩) := (a 3).trans (by kernel_rfl); obtain ⟨_, hp⟩ := HP9 g W e; have k6_0 := cA (i := 6) hp rfl 0 rfl; clear H c b d a; refine oP rfl ?_; go_simp; exact f.out _ _ rfl trivial e
         refine EC 2 rfl (fun g h W F a b c d e H K f => ?_) ?_
         ·have f3 : F.tmps.getD 3 undef = .pointer (some ⟨w.heap.size, 0, none⟩) := (a 3).trans (by kernel_rfl); obtain ⟨_, hp⟩ := HP9 g W e; have k6_0 := cA (i := 6) hp rfl 0 rfl; clear H c b d a; refine oP rfl ?_; go_simp; exact f.out _ _ rfl trivial e
         refine EC 3 rfl (fun g h W F a b c d e H K f => ?_) ?_
         ·have f5 : F.tmps.getD 5 undef = .pointer (some ⟨w.heap.size + 1 + 1, 0, none⟩) := (a 5).trans (by kernel_rfl); clear H c b d a; refine oP rfl ?_; go_simp; exact f.out _ _ rfl trivial e
         refine EC 4 rfl (fun g h W F a b c d e H K f => ?_) ?_
         ·have f93 := gE (a 93) (by kernel_rfl) (H 2) (by kernel_rfl); obtain ⟨_, hp⟩ := HP9 g W e; have k11_3 := cA (i := 11) hp rfl 3 rfl; clear H c b d a; refine oP rfl ?_; go_simp; exact f.out _ _ rfl trivial e
         refine EC 5 rfl (fun g h W F a b c d e H K f => ?_) ?_
         ·have f5 : F.tmps.getD 5 undef = .pointer (some ⟨w.heap.size + 1 + 1, 0, none⟩) := (a 5).trans (by kernel_rfl); clear H c b d a; refine oP rfl ?_; go_simp; exact f.out _ _ rfl trivial e
         refine EC 6 rfl (fun g h W F a b c d e H K f => ?_) ?_
         ·have f95 := gE (a 95) (by kernel_rfl) (H 4) (by kernel_rfl); obtain ⟨_, hp⟩ := HP9 g W e; have k11_4 := cA (i := 11) hp rfl 4 rfl; clear H c b d a; refine oP rfl ?_; go_simp; exact f.out _ _ rfl trivial e
         refine EC 7 rfl (fun g h W F a b c d e H K f => ?_) ?_
         ·have f91 := gE (a 91) (by kernel_rfl) (H 0) (by kernel_rfl); clear H c b d a; refine oP rfl ?_; go_simp; exact f.out _ _ rfl trivial e
         refine EC 8 rfl (fun g h W F a b c d e H K f => ?_) ?_
         ·have f97 := gE (a 97) (by kernel_rfl) (H 6) (by kernel_rfl); clear H c b d a; refine oP rfl ?_; go_simp; exact f.out _ _ rfl trivial e
         refine EC 9 rfl (fun j k W F a b d e f H K h => ?_) ?_
         ·have f94 := gE (a 94) (by kernel_rfl) (H 3) (by kernel_rfl); have f98 := gE (a 98) (by kernel_rfl) (H 7) (by kernel_rfl); have q11 : j 11 = false := d 11 (.edge (by kernel_rfl)); rw [if_neg (by simp [q11]), if_neg (by simp [b])] at f; have hS := f; clear f d b e a H; refine oP rfl ?_; have kk7 := cA (i := 7) hS rfl 7 rfl; have yy7 := cFz (i := 7) hS rfl 7; have hs : Sep w0 (W.setCell ⟨g, 7, none⟩ (.int .u64 (finc : Int))) (TKqF w now g q1 q0 X Qs kk ffr fto finc fconn pinc pconn ack seq A body.length c (Rw 51 10 (.slice none 0 0) 0 []) (Bods []) (Rw 49 4 vE mE yE) (Bods LBE) (#[.slice none 0 0, vE]) (#[.int .u64 0, .slice none 0 0, .int .u64 0, .int .i64 sn, .int .u64 (si : Int), .int .i64 peer, .int .u64 (conn : Int), .int .u64 (finc : Int), .int .u64 (known : Int), .bool false, .int .u64 (heard : Int), .int .u64 (sent : Int)]) (BoxT (.slice none 0 0) [])) := cS (i := 7) hS rfl 7 (.int .u64 (finc : Int)); go_simp; exact h.out undef _ trivial trivial (by simpa [upB, upd, q11] using hs)
         refine EC 10 rfl (fun g h W F a b c d e H K f => ?_) ?_
         ·have f92 := gE (a 92) (by kernel_rfl) (H 1) (by kernel_rfl); clear H c b d a; refine oP rfl ?_; go_simp; exact f.out _ _ rfl trivial e
         refine EC 11 rfl (fun g h W F a b c d e H K f => ?_) ?_
         ·have f99 := gE (a 99) (by kernel_rfl) (H 9) (by kernel_rfl); clear H c b d a; refine oP rfl ?_; go_simp; exact f.out _ _ rfl trivial e
         refine EC 12 rfl (fun j k W F a b d e f H K h => ?_) ?_
         ·have f96 := gE (a 96) (by kernel_rfl) (H 5) (by kernel_rfl); have f100 := gE (a 100) (by kernel_rfl) (H 10) (by kernel_rfl); have q8 : j 8 = true := (H 8 (.edge (by kernel_rfl))).1; rw [if_neg (by simp [b]), if_pos q8] at f; have hS := f; clear f d b e a H; refine oP rfl ?_; have kk8 := cA (i := 7) hS rfl 8 rfl; have yy8 := cFz (i := 7) hS rfl 8; have hs : Sep w0 (W.setCell ⟨g, 8, none⟩ (.int .u64 (fconn : Int))) (TKqF w now g q1 q0 X Qs kk ffr fto finc fconn pinc pconn ack seq A body.length c (Rw 51 10 (.slice none 0 0) 0 []) (Bods []) (Rw 49 4 vE mE yE) (Bods LBE) (#[.slice none 0 0, vE]) (#[.int .u64 0, .slice none 0 0, .int .u64 0, .int .i64 sn, .int .u64 (si : Int), .int .i64 peer, .int .u64 (conn : Int), .int .u64 (finc : Int), .int .u64 (fconn : Int), .bool false, .int .u64 (heard : Int), .int .u64 (sent : Int)]) (BoxT (.slice none 0 0) [])) := cS (i := 7) hS rfl 8 (.int .u64 (fconn : Int)); go_simp; exact h.out undef _ trivial trivial (by simpa [upB, upd] using hs)
         exact EN
        ·intro dn xv W hI H; have qe : dn 11 = true := (H 11 (of_decide_eq_true (by kernel_rfl))).1; rw [if_pos qe] at hI; have hS := hI; clear H hI qe; simp only [putAll, Act.put, List.setIfInBounds_toArray, List.set_cons_zero, List.set_cons_succ, Nat.reduceAdd]; have HS9 := Lib.hid hS; clear hS
         go_wp2_with fail
         go_meet
         case rel =>
          refine ⟨.slice none 0 0, vE, .slice none 0 0, LE, Lib.hid rfl, ?_, ?_⟩
          ·rw [LS.take1E, HOTH.out, HLE.out, ← HSS.out]; simp
          ·rw [LS.turn, if_pos (by rw [HOTH.out]), ← HSS.out, ← HFF.out, HmE.out, HyE.out, HLB.out]; exact HS9.out
    case rest =>
       obtain ⟨vF, vE, bx2, LE, HVF, hLE, hS⟩ := hcut; have HLE := Lib.hid hLE; have hnt : (sS.turn fF).Num := HOS.out.turn fF; clear HS7 HOK Hp1 Hp2 Hp3 HOTH HLOOK HN4 hLE hcc hcm HSN HSS; clear base box got sn si peer conn inc known up heard sent BA bc; obtain ⟨t, Ht⟩ : ∃ t, Hid (sS.turn fF = t) := ⟨_, Lib.hid rfl⟩; rw [Ht.out] at hS hnt; obtain ⟨BA, bc, rfl, hcc, hcm, hbx⟩ := sep_boxForm (i := 8) hS rfl hnt.small; have HOT := Lib.hid hnt; obtain ⟨tT, HTT⟩ : ∃ x, Hid (t = x) := ⟨_, Lib.hid rfl⟩; have HOTT : Hid (tT.Num) := Lib.hid (by rw [← HTT.out]; exact hnt); rw [HTT.out] at Ht; obtain ⟨base, box, got, sn, si, peer, conn, inc, known, up, heard, sent⟩ := t; have hsn : sn ≠ 0 := hnt.sn; have HSN := Lib.hid hsn; have hbb : base + box.length ≤ 34359738367 := hnt.base; have hb48 : box.length ≤ 48 := hnt.box; have hgot : got ≤ 34359738367 := hnt.got; have HFIT : Hid (Fit box) := Lib.hid hnt.fit; obtain ⟨p4, Hp4⟩ : ∃ q, Hid ((!(decide (pinc = si) && decide (pconn = conn))) = q) := ⟨_, Lib.hid rfl⟩; have HKN : Hid ((sS.take1 now fF).knows fF = !p4) := Lib.hid (by
        rw [← Hp4.out, Bool.not_not, LS.take1, Ht.out, ← HTT.out, ← HFF.out]; rfl)
       obtain ⟨mE, HmE⟩ : ∃ x, Hid (LE.length = x) := ⟨_, Lib.hid rfl⟩; obtain ⟨yE, HyE⟩ : ∃ x, Hid (eR_ LE = x) := ⟨_, Lib.hid rfl⟩; obtain ⟨LBE, HLB⟩ : ∃ x, Hid (eB_ LE = x) := ⟨_, Lib.hid rfl⟩; have hmE : mE ≤ 1 := by
        have h1 := congrArg List.length HLE.out; rw [List.length_map, HmE.out] at h1; rw [h1, LS.take1E]; split <;> simp
       rw [HmE.out, HyE.out, HLB.out] at hS; have HS9 := Lib.hid (show Sep w0 wc (TKqF w now g q1 q0 X Qs kk ffr fto finc fconn pinc pconn ack seq A body.length c (Rw 51 10 vF 0 []) (Bods []) (Rw 49 4 vE mE yE) (Bods LBE) (#[vF, vE]) (#[.int .u64 (base : Int), .slice BA box.length bc, .int .u64 (got : Int), .int .i64 sn, .int .u64 (si : Int), .int .i64 peer, .int .u64 (conn : Int), .int .u64 (inc : Int), .int .u64 (known : Int), .bool up, .int .u64 (heard : Int), .int .u64 (sent : Int)]) (BoxT (.slice BA box.length bc) box)) from hS); clear hS hnt hsn hbx; have kl := cA (i := 6) HS9.out rfl 0 rfl; have kn := cA (i := 12) HS9.out rfl 0 rfl; have kh := cA (i := 7) HS9.out rfl 10 rfl; have yh := cFz (i := 7) HS9.out rfl 10; have HS10 := Lib.hid (show Sep w0 (wc.setCell ⟨g, 10, none⟩ (.int .u64 (now : Int))) (TKqF w now g q1 q0 X Qs kk ffr fto finc fconn pinc pconn ack seq A body.length c (Rw 51 10 vF 0 []) (Bods []) (Rw 49 4 vE mE yE) (Bods LBE) (#[vF, vE]) (#[.int .u64 (base : Int), .slice BA box.length bc, .int .u64 (got : Int), .int .i64 sn, .int .u64 (si : Int), .int .i64 peer, .int .u64 (conn : Int), .int .u64 (inc : Int), .int .u64 (known : Int), .bool up, .int .u64 (now : Int), .int .u64 (sent : Int)]) (BoxT (.slice BA box.length bc) box)) from cS (i := 7) HS9.out rfl 10 (.int .u64 (now : Int)))
       go_upto_region 11 with fail
       clear kl kn kh yh; have hp4 : p4 = true := by
        have h := HKN.out; rw [HKN0.out] at h; simpa using h
       subst hp4
       go_cut [121] from 105 to 121 (fun t wx => t = .bool true ∧ Sep w0 wx (TKqF w now g q1 q0 X Qs kk ffr fto finc fconn pinc pconn ack seq A body.length c (Rw 51 10 vF 0 []) (Bods []) (Rw 49 4 vE mE yE) (Bods LBE) (#[vF, vE]) (#[.int .u64 (base : Int), .slice BA box.length bc, .int .u64 (got : Int), .int .i64 sn, .int .u64 (si : Int), .int .i64 peer, .int .u64 (conn : Int), .int .u64 (inc : Int), .int .u64 (known : Int), .bool up, .int .u64 (now : Int), .int .u64 (sent : Int)]) (BoxT (.slice BA box.length bc) box)))
       case first =>
         by_cases h1 : pinc = si
         ·have e1 : ((pinc : Int) != (si : Int)) = false := by simp [h1]
          have H1 := Lib.hid h1; clear h1
          by_cases h2 : pconn = conn
          ·have e2 : ((pconn : Int) != (conn : Int)) = false := by simp [h2]
           have h9 := Hp4.out; rw [decide_eq_true H1.out, decide_eq_true h2] at h9; simp at h9
          ·have e2 : ((pconn : Int) != (conn : Int)) = true := by simp; omega
           have H2 := Lib.hid h2; clear h2
           go_wp2_with fail
           refine wRF (fun dn xv W => Sep w0 W (TKqF w now g q1 q0 X Qs kk ffr fto finc fconn pinc pconn ack seq A body.length c (Rw 51 10 vF 0 []) (Bods []) (Rw 49 4 vE mE yE) (Bods LBE) (#[vF, vE]) (#[.int .u64 (base : Int), .slice BA box.length bc, .int .u64 (got : Int), .int .i64 sn, .int .u64 (si : Int), .int .i64 peer, .int .u64 (conn : Int), .int .u64 (inc : Int), .int .u64 (known : Int), .bool up, .int .u64 (now : Int), .int .u64 (sent : Int)]) (BoxT (.slice BA box.length bc) box))) (fun _ _ => True) [fun v _ => v = .pointer (some ⟨w.heap.size + 1 + 1, 5, none⟩), fun v _ => v = .int .u64 (pinc : Int), fun v _ => v = .pointer (some ⟨g, 0, none⟩), fun v _ => v = .pointer (some ⟨g, 0, none⟩), fun v _ => v = .pointer (some ⟨g, 3, none⟩), fun v _ => v = .pointer (some ⟨g, 4, none⟩), fun v _ => v = .int .u64 (si : Int), fun v _ => v = .bool false, fun v _ => v = .bool false, fun v _ => v = .pointer (some ⟨w.heap.size + 1 + 1, 6, none⟩), fun v _ => v = .int .u64 (pconn : Int), fun v _ => v = .pointer (some ⟨g, 0, none⟩), fun v _ => v = .pointer (some ⟨g, 0, none⟩), fun v _ => v = .pointer (some ⟨g, 6, none⟩), fun v _ => v = .int .u64 (conn : Int), fun v _ => v = .bool true, fun v _ => v = .bool true] (by kernel_rfl) (by kernel_rfl) (by kernel_rfl) (by kernel_rfl) (fun xv => by simpa using HS10.out.drew)
            (by repeat (first | exact trivial | refine ⟨fun _ _ _ _ h => h, ?_⟩)) ?_ ?_
           ·refine EC 1 rfl (fun g h W F a b c d e H K f => ?_) ?_
            ·have f5 : F.tmps.getD 5 undef = .pointer (some ⟨w.heap.size + 1 + 1, 0, none⟩) := (a 5).trans (by kernel_rfl); clear H c b d a; refine oP rfl ?_; go_simp; exact f.out _ _ rfl trivial e
            refine EC 2 rfl (fun g h W F a b c d e H K f => ?_) ?_
            ·have f105 := gE (a 105) (by kernel_rfl) (H 0) (by kernel_rfl); have k11_5 := cA (i := 11) e rfl 5 rfl; clear H c b d a; refine oP rfl ?_; go_simp; exact f.out _ _ rfl trivial e
            refine EC 3 rfl (fun g h W F a b c d e H K f => ?_) ?_
            ·have f3 : F.tmps.getD 3 undef = .pointer (some ⟨w.heap.size, 0, none⟩) := (a 3).trans (by kernel_rfl); have k6_0 := cA (i := 6) e rfl 0 rfl; clear H c b d a; refine oP rfl ?_; go_simp; exact f.out _ _ rfl trivial e
            refine EC 4 rfl (fun g h W F a b c d e H K f => ?_) ?_
            ·have f107 := gE (a 107) (by kernel_rfl) (H 2) (by kernel_rfl); clear H c b d a; refine oP rfl ?_; go_simp; exact f.out _ _ rfl trivial e
            refine EC 5 rfl (fun g h W F a b c d e H K f => ?_) ?_
            ·have f108 := gE (a 108) (by kernel_rfl) (H 3) (by kernel_rfl); clear H c b d a; refine oP rfl ?_; go_simp; exact f.out _ _ rfl trivial e
            refine EC 6 rfl (fun g h W F a b c d e H K f => ?_) ?_
            ·have f109 := gE (a 109) (by kernel_rfl) (H 4) (by kernel_rfl); clear H c b d a; refine oP rfl ?_; go_simp; exact f.out _ _ rfl trivial e
            refine EC 7 rfl (fun g h W F a b c d e H K f => ?_) ?_
            ·have f110 := gE (a 110) (by kernel_rfl) (H 5) (by kernel_rfl); have k7_4 := cA (i := 7) e rfl 4 rfl; clear H c b d a; refine oP rfl ?_; go_simp; exact f.out _ _ rfl trivial e
            refine EC 8 rfl (fun g h W F a b c d e H K f => ?_) ?_
            ·have f106 := gE (a 106) (by kernel_rfl) (H 1) (by kernel_rfl); have f111 := gE (a 111) (by kernel_rfl) (H 6) (by kernel_rfl); clear H c b d a; refine oP rfl ?_; go_simp; exact f.out _ _ rfl trivial e
            refine EC 9 rfl (fun g h W F a b c d e H K f => ?_) ?_
            ·have f112 := gE (a 112) (by kernel_rfl) (H 7) (by kernel_rfl); clear H c b d a; refine oP rfl ?_; go_simp; exact f.out _ _ rfl trivial e
            refine EC 10 rfl (fun g h W F a b c d e H K f => ?_) ?_
            ·have f5 : F.tmps.getD 5 undef = .pointer (some ⟨w.heap.size + 1 + 1, 0, none⟩) := (a 5).trans (by kernel_rfl); have f113 := gE (a 113) (by kernel_rfl) (H 8) (by kernel_rfl); clear H c b d a; refine oG rfl (by kernel_rfl) f113 ?_; go_simp; exact f.out _ _ rfl trivial e
            refine EC 11 rfl (fun g h W F a b c d e H K f => ?_) ?_
            ·have f114 := gE (a 114) (by kernel_rfl) (H 9) (by kernel_rfl); have f113 := gE (a 113) (by kernel_rfl) (H 8) (by kernel_rfl); have k11_6 := cA (i := 11) e rfl 6 rfl; clear H c b d a; refine oG rfl (by kernel_rfl) f113 ?_; go_simp; exact f.out _ _ rfl trivial e
            refine EC 12 rfl (fun g h W F a b c d e H K f => ?_) ?_
            ·have f3 : F.tmps.getD 3 undef = .pointer (some ⟨w.heap.size, 0, none⟩) := (a 3).trans (by kernel_rfl); have f113 := gE (a 113) (by kernel_rfl) (H 8) (by kernel_rfl); have k6_0 := cA (i := 6) e rfl 0 rfl; clear H c b d a; refine oG rfl (by kernel_rfl) f113 ?_; go_simp; exact f.out _ _ rfl trivial e
            refine EC 13 rfl (fun g h W F a b c d e H K f => ?_) ?_
            ·have f116 := gE (a 116) (by kernel_rfl) (H 11) (by kernel_rfl); have f113 := gE (a 113) (by kernel_rfl) (H 8) (by kernel_rfl); clear H c b d a; refine oG rfl (by kernel_rfl) f113 ?_; go_simp; exact f.out _ _ rfl trivial e
            refine EC 14 rfl (fun g h W F a b c d e H K f => ?_) ?_
            ·have f117 := gE (a 117) (by kernel_rfl) (H 12) (by kernel_rfl); have f113 := gE (a 113) (by kernel_rfl) (H 8) (by kernel_rfl); clear H c b d a; refine oG rfl (by kernel_rfl) f113 ?_; go_simp; exact f.out _ _ rfl trivial e
            refine EC 15 rfl (fun g h W F a b c d e H K f => ?_) ?_
            ·have f118 := gE (a 118) (by kernel_rfl) (H 13) (by kernel_rfl); have f113 := gE (a 113) (by kernel_rfl) (H 8) (by kernel_rfl); have k7_6 := cA (i := 7) e rfl 6 rfl; clear H c b d a; refine oG rfl (by kernel_rfl) f113 ?_; go_simp; exact f.out _ _ rfl trivial e
            refine EC 16 rfl (fun g h W F a b c d e H K f => ?_) ?_
            ·have f115 := gE (a 115) (by kernel_rfl) (H 10) (by kernel_rfl); have f119 := gE (a 119) (by kernel_rfl) (H 14) (by kernel_rfl); have f113 := gE (a 113) (by kernel_rfl) (H 8) (by kernel_rfl); clear H c b d a; refine oG rfl (by kernel_rfl) f113 ?_; go_simp; exact f.out _ _ rfl trivial e
            refine EC 17 rfl (fun g h W F a b c d e H K f => ?_) ?_
            ·have f113 := gE (a 113) (by kernel_rfl) (H 8) (by kernel_rfl); have f120 := gE (a 120) (by kernel_rfl) (H 15) (by kernel_rfl); clear H c b d a; refine oP rfl ?_; go_simp; exact f.out _ _ rfl trivial e
            exact EN
           ·intro dn xv W hI H; have q16 : xv 16 = .bool true := (H 16 (of_decide_eq_true (by kernel_rfl))).2; have hS : Sep w0 W (TKqF w now g q1 q0 X Qs kk ffr fto finc fconn pinc pconn ack seq A body.length c (Rw 51 10 vF 0 []) (Bods []) (Rw 49 4 vE mE yE) (Bods LBE) (#[vF, vE]) (#[.int .u64 (base : Int), .slice BA box.length bc, .int .u64 (got : Int), .int .i64 sn, .int .u64 (si : Int), .int .i64 peer, .int .u64 (conn : Int), .int .u64 (inc : Int), .int .u64 (known : Int), .bool up, .int .u64 (now : Int), .int .u64 (sent : Int)]) (BoxT (.slice BA box.length bc) box)) := hI; clear H hI; simp only [putAll, Act.put, List.setIfInBounds_toArray, List.set_cons_zero, List.set_cons_succ, Nat.reduceAdd, q16]; clear q16
            go_wp2_with fail
            go_meet
            case rel => exact ⟨rfl, hS⟩
         ·have e1 : ((pinc : Int) != (si : Int)) = true := by simp; omega
          have H1 := Lib.hid h1; clear h1
          go_wp2_with fail
          refine wRF (fun dn xv W => Sep w0 W (TKqF w now g q1 q0 X Qs kk ffr fto finc fconn pinc pconn ack seq A body.length c (Rw 51 10 vF 0 []) (Bods []) (Rw 49 4 vE mE yE) (Bods LBE) (#[vF, vE]) (#[.int .u64 (base : Int), .slice BA box.length bc, .int .u64 (got : Int), .int .i64 sn, .int .u64 (si : Int), .int .i64 peer, .int .u64 (conn : Int), .int .u64 (inc : Int), .int .u64 (known : Int), .bool up, .int .u64 (now : Int), .int .u64 (sent : Int)]) (BoxT (.slice BA box.length bc) box))) (fun _ _ => True) [fun v _ => v = .pointer (some ⟨w.heap.size + 1 + 1, 5, none⟩), fun v _ => v = .int .u64 (pinc : Int), fun v _ => v = .pointer (some ⟨g, 0, none⟩), fun v _ => v = .pointer (some ⟨g, 0, none⟩), fun v _ => v = .pointer (some ⟨g, 3, none⟩), fun v _ => v = .pointer (some ⟨g, 4, none⟩), fun v _ => v = .int .u64 (si : Int), fun v _ => v = .bool true, fun v _ => v = .bool true, fun v _ => v = undef, fun v _ => v = undef, fun v _ => v = undef, fun v _ => v = undef, fun v _ => v = undef, fun v _ => v = undef, fun v _ => v = undef, fun v _ => v = .bool true] (by kernel_rfl) (by kernel_rfl) (by kernel_rfl) (by kernel_rfl) (fun xv => by simpa using HS10.out.drew)
           (by repeat (first | exact trivial | refine ⟨fun _ _ _ _ h => h, ?_⟩)) ?_ ?_
          ·refine EC 1 rfl (fun g h W F a b c d e H K f => ?_) ?_
           ·have f5 : F.tmps.getD 5 undef = .pointer (some ⟨w.heap.size + 1 + 1, 0, none⟩) := (a 5).trans (by kernel_rfl); clear H c b d a; refine oP rfl ?_; go_simp; exact f.out _ _ rfl trivial e
           refine EC 2 rfl (fun g h W F a b c d e H K f => ?_) ?_
           ·have f105 := gE (a 105) (by kernel_rfl) (H 0) (by kernel_rfl); have k11_5 := cA (i := 11) e rfl 5 rfl; clear H c b d a; refine oP rfl ?_; go_simp; exact f.out _ _ rfl trivial e
           refine EC 3 rfl (fun g h W F a b c d e H K f => ?_) ?_
           ·have f3 : F.tmps.getD 3 undef = .pointer (some ⟨w.heap.size, 0, none⟩) := (a 3).trans (by kernel_rfl); have k6_0 := cA (i := 6) e rfl 0 rfl; clear H c b d a; refine oP rfl ?_; go_simp; exact f.out _ _ rfl trivial e
           refine EC 4 rfl (fun g h W F a b c d e H K f => ?_) ?_
           ·have f107 := gE (a 107) (by kernel_rfl) (H 2) (by kernel_rfl); clear H c b d a; refine oP rfl ?_; go_simp; exact f.out _ _ rfl trivial e
           refine EC 5 rfl (fun g h W F a b c d e H K f => ?_) ?_
           ·have f108 := gE (a 108) (by kernel_rfl) (H 3) (by kernel_rfl); clear H c b d a; refine oP rfl ?_; go_simp; exact f.out _ _ rfl trivial e
           refine EC 6 rfl (fun g h W F a b c d e H K f => ?_) ?_
           ·have f109 := gE (a 109) (by kernel_rfl) (H 4) (by kernel_rfl); clear H c b d a; refine oP rfl ?_; go_simp; exact f.out _ _ rfl trivial e
           refine EC 7 rfl (fun g h W F a b c d e H K f => ?_) ?_
           ·have f110 := gE (a 110) (by kernel_rfl) (H 5) (by kernel_rfl); have k7_4 := cA (i := 7) e rfl 4 rfl; clear H c b d a; refine oP rfl ?_; go_simp; exact f.out _ _ rfl trivial e
           refine EC 8 rfl (fun g h W F a b c d e H K f => ?_) ?_
           ·have f106 := gE (a 106) (by kernel_rfl) (H 1) (by kernel_rfl); have f111 := gE (a 111) (by kernel_rfl) (H 6) (by kernel_rfl); clear H c b d a; refine oP rfl ?_; go_simp; exact f.out _ _ rfl trivial e
           refine EC 9 rfl (fun g h W F a b c d e H K f => ?_) ?_
           ·have f112 := gE (a 112) (by kernel_rfl) (H 7) (by kernel_rfl); clear H c b d a; refine oP rfl ?_; go_simp; exact f.out _ _ rfl trivial e
           refine EC 10 rfl (fun g h W F a b c d e H K f => ?_) ?_
           ·have f113 := gE (a 113) (by kernel_rfl) (H 8) (by kernel_rfl); clear H c b d a; refine off_guard rfl (by kernel_rfl) f113 (by decide) ?_; exact f.out _ _ rfl trivial e
           refine EC 11 rfl (fun g h W F a b c d e H K f => ?_) ?_
           ·have f113 := gE (a 113) (by kernel_rfl) (H 8) (by kernel_rfl); have k11_6 := cA (i := 11) e rfl 6 rfl; clear H c b d a; refine off_guard rfl (by kernel_rfl) f113 (by decide) ?_; exact f.out _ _ rfl trivial e
           refine EC 12 rfl (fun g h W F a b c d e H K f => ?_) ?_
           ·have f113 := gE (a 113) (by kernel_rfl) (H 8) (by kernel_rfl); have k6_0 := cA (i := 6) e rfl 0 rfl; clear H c b d a; refine off_guard rfl (by kernel_rfl) f113 (by decide) ?_; exact f.out _ _ rfl trivial e
           refine EC 13 rfl (fun g h W F a b c d e H K f => ?_) ?_
           ·have f113 := gE (a 113) (by kernel_rfl) (H 8) (by kernel_rfl); clear H c b d a; refine off_guard rfl (by kernel_rfl) f113 (by decide) ?_; exact f.out _ _ rfl trivial e
           refine EC 14 rfl (fun g h W F a b c d e H K f => ?_) ?_
           ·have f113 := gE (a 113) (by kernel_rfl) (H 8) (by kernel_rfl); clear H c b d a; refine off_guard rfl (by kernel_rfl) f113 (by decide) ?_; exact f.out _ _ rfl trivial e
           refine EC 15 rfl (fun g h W F a b c d e H K f => ?_) ?_
           ·have f113 := gE (a 113) (by kernel_rfl) (H 8) (by kernel_rfl); have k7_6 := cA (i := 7) e rfl 6 rfl; clear H c b d a; refine off_guard rfl (by kernel_rfl) f113 (by decide) ?_; exact f.out _ _ rfl trivial e
           refine EC 16 rfl (fun g h W F a b c d e H K f => ?_) ?_
           ·have f113 := gE (a 113) (by kernel_rfl) (H 8) (by kernel_rfl); clear H c b d a; refine off_guard rfl (by kernel_rfl) f113 (by decide) ?_; exact f.out _ _ rfl trivial e
           refine EC 17 rfl (fun g h W F a b c d e H K f => ?_) ?_
           ·have f113 := gE (a 113) (by kernel_rfl) (H 8) (by kernel_rfl); have f120 := gE (a 120) (by kernel_rfl) (H 15) (by kernel_rfl); clear H c b d a; refine oP rfl ?_; go_simp; exact f.out _ _ rfl trivial e
           exact EN
          ·intro dn xv W hI H; have q16 : xv 16 = .bool true := (H 16 (of_decide_eq_true (by kernel_rfl))).2; have hS : Sep w0 W (TKqF w now g q1 q0 X Qs kk ffr fto finc fconn pinc pconn ack seq A body.length c (Rw 51 10 vF 0 []) (Bods []) (Rw 49 4 vE mE yE) (Bods LBE) (#[vF, vE]) (#[.int .u64 (base : Int), .slice BA box.length bc, .int .u64 (got : Int), .int .i64 sn, .int .u64 (si : Int), .int .i64 peer, .int .u64 (conn : Int), .int .u64 (inc : Int), .int .u64 (known : Int), .bool up, .int .u64 (now : Int), .int .u64 (sent : Int)]) (BoxT (.slice BA box.length bc) box)) := hI; clear H hI; simp only [putAll, Act.put, List.setIfInBounds_toArray, List.set_cons_zero, List.set_cons_succ, Nat.reduceAdd, q16]; clear q16
           go_wp2_with fail
           go_meet
           case rel => exact ⟨rfl, hS⟩
       case rest =>
          obtain ⟨rfl, hS⟩ := hcut; clear HS9 HS10; have HHE := Lib.hid (fun (W : World) hh => hello_any W g base (.slice BA box.length bc) got sn si peer conn inc known up now sent hh); obtain ⟨hx, HXS⟩ : ∃ l, Hid ((heCells got sn si peer conn inc known).toList = l) := ⟨_, Lib.hid rfl⟩; have HX1 : Hid (∀ u ∈ hx, u.oneCell' = true) := Lib.hid (by
           rw [← HXS.out]; intro u hu; simp only [heCells, List.mem_cons, List.not_mem_nil, or_false] at hu
           rcases hu with rfl | rfl | rfl | rfl | rfl | rfl | rfl | rfl | rfl | rfl <;> rfl)
          obtain ⟨n, xs, Hnx⟩ : ∃ (n : Nat) (l : List Value), Hid (0 = n ∧ [] = l) := ⟨_, _, Lib.hid ⟨rfl, rfl⟩⟩; have hnb : n ≤ 1000000 := by have := Hnx.out.1; omega
          have HS11 : Hid (Sep w0 wc (TKqF w now g q1 q0 X Qs kk ffr fto finc fconn pinc pconn ack seq A body.length c (Rw 51 10 vF n xs) (Bods []) (Rw 49 4 vE mE yE) (Bods LBE) (#[vF, vE]) (#[.int .u64 (base : Int), .slice BA box.length bc, .int .u64 (got : Int), .int .i64 sn, .int .u64 (si : Int), .int .i64 peer, .int .u64 (conn : Int), .int .u64 (inc : Int), .int .u64 (known : Int), .bool up, .int .u64 (now : Int), .int .u64 (sent : Int)]) (BoxT (.slice BA box.length bc) box))) := Lib.hid (by rw [← Hnx.out.1, ← Hnx.out.2]; exact hS); clear hS; have HKO : ∀ (dn : Nat → Bool) (xv : Nat → Value) (W : World), (if dn 7 = true then ∃ vF, Sep w0 W (TKqF w now g q1 q0 X Qs kk ffr fto finc fconn pinc pconn ack seq A body.length c (Rw 51 10 vF (n + 1) (xs ++ hx)) (Bods []) (Rw 49 4 vE mE yE) (Bods LBE) (#[vF, vE]) (#[.int .u64 (base : Int), .slice BA box.length bc, .int .u64 (got : Int), .int .i64 sn, .int .u64 (si : Int), .int .i64 peer, .int .u64 (conn : Int), .int .u64 (inc : Int), .int .u64 (known : Int), .bool up, .int .u64 (now : Int), .int .u64 (sent : Int)]) (BoxT (.slice BA box.length bc) box)) else if dn 5 = true then Sep w0 W (TKqF w now g q1 q0 X Qs kk ffr fto finc fconn pinc pconn ack seq A body.length c (Rw 51 10 (xv 5) (n + 1) (xs ++ hx)) (Bods []) (Rw 49 4 vE mE yE) (Bods LBE) (#[vF, vE]) (#[.int .u64 (base : Int), .slice BA box.length bc, .int .u64 (got : Int), .int .i64 sn, .int .u64 (si : Int), .int .i64 peer, .int .u64 (conn : Int), .int .u64 (inc : Int), .int .u64 (known : Int), .bool up, .int .u64 (now : Int), .int .u64 (sent : Int)]) (BoxT (.slice BA box.length bc) box)) else if dn 4 = true then Sep w0 W (TKqF w now g q1 q0 X Qs kk ffr fto finc fconn pinc pconn ack seq A body.length c (Rw 51 10 vF n xs) (Bods []) (Rw 49 4 vE mE yE) (Bods LBE) (#[vF, vE]) (#[.int .u64 (base : Int), .slice BA box.length bc, .int .u64 (got : Int), .int .i64 sn, .int .u64 (si : Int), .int .i64 peer, .int .u64 (conn : Int), .int .u64 (inc : Int), .int .u64 (known : Int), .bool up, .int .u64 (now : Int), .int .u64 (sent : Int)]) (BoxT (.slice BA box.length bc) box)) ∧ OneF hx (xv 4) W else if dn 3 = true then Sep w0 W (TKqF w now g q1 q0 X Qs kk ffr fto finc fconn pinc pconn ack seq A body.length c (Rw 51 10 vF n xs) (Bods []) (Rw 49 4 vE mE yE) (Bods LBE) (#[vF, vE]) (#[.int .u64 (base : Int), .slice BA box.length bc, .int .u64 (got : Int), .int .i64 sn, .int .u64 (si : Int), .int .i64 peer, .int .u64 (conn : Int), .int .u64 (inc : Int), .int .u64 (known : Int), .bool up, .int .u64 (now : Int), .int .u64 (sent : Int)]) (BoxT (.slice BA box.length bc) box)) else Sep w0 W (TKqF w now g q1 q0 X Qs kk ffr fto finc fconn pinc pconn ack seq A body.length c (Rw 51 10 vF n xs) (Bods []) (Rw 49 4 vE mE yE) (Bods LBE) (#[vF, vE]) (#[.int .u64 (base : Int), .slice BA box.length bc, .int .u64 (got : Int), .int .i64 sn, .int .u64 (si : Int), .int .i64 peer, .int .u64 (conn : Int), .int .u64 (inc : Int), .int .u64 (known : Int), .bool up, .int .u64 (now : Int), .int .u64 (sent : Int)]) (BoxT (.slice BA box.length bc) box))) → dn 7 = false → W.cell? ⟨w.heap.size + 1 + 1 + 1 + 1, 0, none⟩ = some vF := fun dn xv W h h0 => by
           rw [if_neg (by simp [h0])] at h; split at h
           ·exact cA (i := 4) h rfl 0 rfl
           split at h
           ·have h := h.1; exact cA (i := 4) h rfl 0 rfl
           split at h
           ·exact cA (i := 4) h rfl 0 rfl
           exact cA (i := 4) h rfl 0 rfl
          have HKL : ∀ (dn : Nat → Bool) (xv : Nat → Value) (W : World), (if dn 7 = true then ∃ vF, Sep w0 W (TKqF w now g q1 q0 X Qs kk ffr fto finc fconn pinc pconn ack seq A body.length c (Rw 51 10 vF (n + 1) (xs ++ hx)) (Bods []) (Rw 49 4 vE mE yE) (Bods LBE) (#[vF, vE]) (#[.int .u64 (base : Int), .slice BA box.length bc, .int .u64 (got : Int), .int .i64 sn, .int .u64 (si : Int), .int .i64 peer, .int .u64 (conn : Int), .int .u64 (inc : Int), .int .u64 (known : Int), .bool up, .int .u64 (now : Int), .int .u64 (sent : Int)]) (BoxT (.slice BA box.length bc) box)) else if dn 5 = true then Sep w0 W (TKqF w now g q1 q0 X Qs kk ffr fto finc fconn pinc pconn ack seq A body.length c (Rw 51 10 (xv 5) (n + 1) (xs ++ hx)) (Bods []) (Rw 49 4 vE mE yE) (Bods LBE) (#[vF, vE]) (#[.int .u64 (base : Int), .slice BA box.length bc, .int .u64 (got : Int), .int .i64 sn, .int .u64 (si : Int), .int .i64 peer, .int .u64 (conn : Int), .int .u64 (inc : Int), .int .u64 (known : Int), .bool up, .int .u64 (now : Int), .int .u64 (sent : Int)]) (BoxT (.slice BA box.length bc) box)) else if dn 4 = true then Sep w0 W (TKqF w now g q1 q0 X Qs kk ffr fto finc fconn pinc pconn ack seq A body.length c (Rw 51 10 vF n xs) (Bods []) (Rw 49 4 vE mE yE) (Bods LBE) (#[vF, vE]) (#[.int .u64 (base : Int), .slice BA box.length bc, .int .u64 (got : Int), .int .i64 sn, .int .u64 (si : Int), .int .i64 peer, .int .u64 (conn : Int), .int .u64 (inc : Int), .int .u64 (known : Int), .bool up, .int .u64 (now : Int), .int .u64 (sent : Int)]) (BoxT (.slice BA box.length bc) box)) ∧ OneF hx (xv 4) W else if dn 3 = true then Sep w0 W (TKqF w now g q1 q0 X Qs kk ffr fto finc fconn pinc pconn ack seq A body.length c (Rw 51 10 vF n xs) (Bods []) (Rw 49 4 vE mE yE) (Bods LBE) (#[vF, vE]) (#[.int .u64 (base : Int), .slice BA box.length bc, .int .u64 (got : Int), .int .i64 sn, .int .u64 (si : Int), .int .i64 peer, .int .u64 (conn : Int), .int .u64 (inc : Int), .int .u64 (known : Int), .bool up, .int .u64 (now : Int), .int .u64 (sent : Int)]) (BoxT (.slice BA box.length bc) box)) else Sep w0 W (TKqF w now g q1 q0 X Qs kk ffr fto finc fconn pinc pconn ack seq A body.length c (Rw 51 10 vF n xs) (Bods []) (Rw 49 4 vE mE yE) (Bods LBE) (#[vF, vE]) (#[.int .u64 (base : Int), .slice BA box.length bc, .int .u64 (got : Int), .int .i64 sn, .int .u64 (si : Int), .int .i64 peer, .int .u64 (conn : Int), .int .u64 (inc : Int), .int .u64 (known : Int), .bool up, .int .u64 (now : Int), .int .u64 (sent : Int)]) (BoxT (.slice BA box.length bc) box))) → W.cell? ⟨w.heap.size, 0, none⟩ = some (.pointer (some ⟨g, 0, none⟩)) := fun dn xv W h => by
           split at h
           ·obtain ⟨_, h⟩ := h; exact cA (i := 6) h rfl 0 rfl
           split at h
           ·exact cA (i := 6) h rfl 0 rfl
           split at h
           ·have h := h.1; exact cA (i := 6) h rfl 0 rfl
           split at h
           ·exact cA (i := 6) h rfl 0 rfl
           exact cA (i := 6) h rfl 0 rfl
          go_wp2_with fail
          refine wRF (fun dn xv W => if dn 7 = true then ∃ vF, Sep w0 W (TKqF w now g q1 q0 X Qs kk ffr fto finc fconn pinc pconn ack seq A body.length c (Rw 51 10 vF (n + 1) (xs ++ hx)) (Bods []) (Rw 49 4 vE mE yE) (Bods LBE) (#[vF, vE]) (#[.int .u64 (base : Int), .slice BA box.length bc, .int .u64 (got : Int), .int .i64 sn, .int .u64 (si : Int), .int .i64 peer, .int .u64 (conn : Int), .int .u64 (inc : Int), .int .u64 (known : Int), .bool up, .int .u64 (now : Int), .int .u64 (sent : Int)]) (BoxT (.slice BA box.length bc) box)) else if dn 5 = true then Sep w0 W (TKqF w now g q1 q0 X Qs kk ffr fto finc fconn pinc pconn ack seq A body.length c (Rw 51 10 (xv 5) (n + 1) (xs ++ hx)) (Bods []) (Rw 49 4 vE mE yE) (Bods LBE) (#[vF, vE]) (#[.int .u64 (base : Int), .slice BA box.length bc, .int .u64 (got : Int), .int .i64 sn, .int .u64 (si : Int), .int .i64 peer, .int .u64 (conn : Int), .int .u64 (inc : Int), .int .u64 (known : Int), .bool up, .int .u64 (now : Int), .int .u64 (sent : Int)]) (BoxT (.slice BA box.length bc) box)) else if dn 4 = true then Sep w0 W (TKqF w now g q1 q0 X Qs kk ffr fto finc fconn pinc pconn ack seq A body.length c (Rw 51 10 vF n xs) (Bods []) (Rw 49 4 vE mE yE) (Bods LBE) (#[vF, vE]) (#[.int .u64 (base : Int), .slice BA box.length bc, .int .u64 (got : Int), .int .i64 sn, .int .u64 (si : Int), .int .i64 peer, .int .u64 (conn : Int), .int .u64 (inc : Int), .int .u64 (known : Int), .bool up, .int .u64 (now : Int), .int .u64 (sent : Int)]) (BoxT (.slice BA box.length bc) box)) ∧ OneF hx (xv 4) W else if dn 3 = true then Sep w0 W (TKqF w now g q1 q0 X Qs kk ffr fto finc fconn pinc pconn ack seq A body.length c (Rw 51 10 vF n xs) (Bods []) (Rw 49 4 vE mE yE) (Bods LBE) (#[vF, vE]) (#[.int .u64 (base : Int), .slice BA box.length bc, .int .u64 (got : Int), .int .i64 sn, .int .u64 (si : Int), .int .i64 peer, .int .u64 (conn : Int), .int .u64 (inc : Int), .int .u64 (known : Int), .bool up, .int .u64 (now : Int), .int .u64 (sent : Int)]) (BoxT (.slice BA box.length bc) box)) else Sep w0 W (TKqF w now g q1 q0 X Qs kk ffr fto finc fconn pinc pconn ack seq A body.length c (Rw 51 10 vF n xs) (Bods []) (Rw 49 4 vE mE yE) (Bods LBE) (#[vF, vE]) (#[.int .u64 (base : Int), .slice BA box.length bc, .int .u64 (got : Int), .int .i64 sn, .int .u64 (si : Int), .int .i64 peer, .int .u64 (conn : Int), .int .u64 (inc : Int), .int .u64 (known : Int), .bool up, .int .u64 (now : Int), .int .u64 (sent : Int)]) (BoxT (.slice BA box.length bc) box))) (fun _ _ => True) [fun v _ => v = .pointer (some ⟨w.heap.size + 1 + 1 + 1 + 1, 0, none⟩), fun v _ => v = vF, fun v _ => v = .pointer (some ⟨g, 0, none⟩), fun v _ => v = .agg #[.int .i64 1, .int .i64 sn, .int .i64 peer, .int .u64 (si : Int), .int .u64 (conn : Int), .int .u64 (inc : Int), .int .u64 (known : Int), .int .u64 (got : Int), .int .u64 0, .slice none 0 0], fun v _ => True, fun v _ => True, fun v _ => v = .pointer (some ⟨w.heap.size + 1 + 1 + 1 + 1, 0, none⟩), fun v _ => True] (by kernel_rfl) (by kernel_rfl) (by kernel_rfl) (by kernel_rfl) (fun xv => by simpa using HS11.out.drew)
           (by repeat (first | exact trivial | refine ⟨fun _ _ _ _ h => h, ?_⟩)) ?_ ?_
          ·refine EC 1 rfl (fun g h W F a b c d e H K f => ?_) ?_
           ·have f7 : F.tmps.getD 7 undef = .pointer (some ⟨w.heap.size + 1 + 1 + 1 + 1, 0, none⟩) := (a 7).trans (by kernel_rfl); clear H c b d a; refine oP rfl ?_; go_simp; exact f.out _ _ rfl trivial e
           refine EC 2 rfl (fun g h W F a b c d e H K f => ?_) ?_
           ·have f122 := gE (a 122) (by kernel_rfl) (H 0) (by kernel_rfl); have kk := HKO g h W e (c 7 (.more (j := 5) (by kernel_rfl) (.edge (by kernel_rfl)))); clear H c b d a; refine oP rfl ?_; go_simp; exact f.out _ _ rfl trivial e
           refine EC 3 rfl (fun g h W F a b c d e H K f => ?_) ?_
           ·have f3 : F.tmps.getD 3 undef = .pointer (some ⟨w.heap.size, 0, none⟩) := (a 3).trans (by kernel_rfl); have kl := HKL g h W e; clear H c b d a; refine oP rfl ?_; go_simp; exact f.out _ _ rfl trivial e
           refine EC 4 rfl (fun l m W F a b d f h H K k => ?_) ?_
           ·have f124 := gE (a 124) (by kernel_rfl) (H 2) (by kernel_rfl); have q4 : l 4 = false := d 4 (.edge (by kernel_rfl)); have q5 : l 5 = false := d 5 (.more (j := 4) (by kernel_rfl) (.edge (by kernel_rfl))); have q7 : l 7 = false := d 7 (.more (j := 5) (by kernel_rfl) (.more (j := 4) (by kernel_rfl) (.edge (by kernel_rfl)))); rw [if_neg (by simp [q7]), if_neg (by simp [q5]), if_neg (by simp [q4]), if_neg (by simp [b])] at h; have hS := h; clear h d b f a H; refine oP rfl ?_; go_simp; refine (HHE.out W (cH (i := 7) hS rfl)).mono ?_; rintro e W' ⟨rfl, hb⟩; have hs : Sep w0 W' (TKqF w now g q1 q0 X Qs kk ffr fto finc fconn pinc pconn ack seq A body.length c (Rw 51 10 vF n xs) (Bods []) (Rw 49 4 vE mE yE) (Bods LBE) (#[vF, vE]) (#[.int .u64 (base : Int), .slice BA box.length bc, .int .u64 (got : Int), .int .i64 sn, .int .u64 (si : Int), .int .i64 peer, .int .u64 (conn : Int), .int .u64 (inc : Int), .int .u64 (known : Int), .bool up, .int .u64 (now : Int), .int .u64 (sent : Int)]) (BoxT (.slice BA box.length bc) box)) := hS.grow hb; exact k.out _ W' rfl trivial (by simpa [upB, upd, q4, q5, q7] using hs)
           refine EC 5 rfl (fun i k W F a b d e f H K h => ?_) ?_
           ·have f125 := gE (a 125) (by kernel_rfl) (H 3) (by kernel_rfl); have q3 : i 3 = true := (H 3 (.edge (by kernel_rfl))).1; have q5 : i 5 = false := d 5 (.edge (by kernel_rfl)); have q7 : i 7 = false := d 7 (.more (j := 5) (by kernel_rfl) (.edge (by kernel_rfl))); rw [if_neg (by simp [q7]), if_neg (by simp [q5]), if_neg (by simp [b]), if_pos q3] at f; have hS := f; clear f d b e a H; refine oP rfl ?_; have g125 := f125; rw [Array.getD_eq_getD_getElem?] at g125; go_simp; have hb : Below W.heap.size W (W.alloc (.cells #[.int .i64 1, .int .i64 sn, .int .i64 peer, .int .u64 (si : Int), .int .u64 (conn : Int), .int .u64 (inc : Int), .int .u64 (known : Int), .int .u64 (got : Int), .int .u64 0, .slice none 0 0] 51)) := (Below.refl _ _).alloc (Nat.le_refl _) _; have hs : Sep w0 (W.alloc (.cells #[.int .i64 1, .int .i64 sn, .int .i64 peer, .int .u64 (si : Int), .int .u64 (conn : Int), .int .u64 (inc : Int), .int .u64 (known : Int), .int .u64 (got : Int), .int .u64 0, .slice none 0 0] 51)) (TKqF w now g q1 q0 X Qs kk ffr fto finc fconn pinc pconn ack seq A body.length c (Rw 51 10 vF n xs) (Bods []) (Rw 49 4 vE mE yE) (Bods LBE) (#[vF, vE]) (#[.int .u64 (base : Int), .slice BA box.length bc, .int .u64 (got : Int), .int .i64 sn, .int .u64 (si : Int), .int .i64 peer, .int .u64 (conn : Int), .int .u64 (inc : Int), .int .u64 (known : Int), .bool up, .int .u64 (now : Int), .int .u64 (sent : Int)]) (BoxT (.slice BA box.length bc) box)) ∧ OneF hx (.slice (some ⟨W.heap.size, 0, none⟩) 1 1) (W.alloc (.cells #[.int .i64 1, .int .i64 sn, .int .i64 peer, .int .u64 (si : Int), .int .u64 (conn : Int), .int .u64 (inc : Int), .int .u64 (known : Int), .int .u64 (got : Int), .int .u64 0, .slice none 0 0] 51)) := ⟨hS.grow hb, HXS.out ▸ OneF.new W _⟩; exact h.out _ _ trivial trivial (by simpa [upB, upd, q5, q7] using hs)
           refine EC 6 rfl (fun j k W F a b d e f H K h => ?_) ?_
           ·have f123 := gE (a 123) (by kernel_rfl) (H 1) (by kernel_rfl); have f126 : F.tmps.getD 126 undef = k 4 := (a 126).trans (by kernel_rfl); have q4 : j 4 = true := (H 4 (.edge (by kernel_rfl))).1; have q7 : j 7 = false := d 7 (.edge (by kernel_rfl)); rw [if_neg (by simp [q7]), if_neg (by simp [b]), if_pos q4] at f; have hS := f; clear f d b e a H; refine oP rfl ?_; obtain ⟨s1, A3, c3, e3, hl3, hh3⟩ := hS; have fex := f126.trans e3; refine sep_opAppW rowFrames (i := 0) (s := .tmp 123) (x := .tmp 126) (m := 1) (news := hx) (by rfl) f123 fex s1 rfl (by rw [hl3]) hh3 HX1.out (by unfold maxLen; omega) (by omega) ?_; intro v W' hs0; have hs : Sep w0 W' (TKqF w now g q1 q0 X Qs kk ffr fto finc fconn pinc pconn ack seq A body.length c (Rw 51 10 v (n + 1) (xs ++ hx)) (Bods []) (Rw 49 4 vE mE yE) (Bods LBE) (#[vF, vE]) (#[.int .u64 (base : Int), .slice BA box.length bc, .int .u64 (got : Int), .int .i64 sn, .int .u64 (si : Int), .int .i64 peer, .int .u64 (conn : Int), .int .u64 (inc : Int), .int .u64 (known : Int), .bool up, .int .u64 (now : Int), .int .u64 (sent : Int)]) (BoxT (.slice BA box.length bc) box)) := hs0; exact h.out v W' trivial trivial (by simpa [upB, upd, q7] using hs)
           refine EC 7 rfl (fun g h W F a b c d e H K f => ?_) ?_
           ·have f7 : F.tmps.getD 7 undef = .pointer (some ⟨w.heap.size + 1 + 1 + 1 + 1, 0, none⟩) := (a 7).trans (by kernel_rfl); clear H c b d a; refine oP rfl ?_; go_simp; exact f.out _ _ rfl trivial e
           refine EC 8 rfl (fun j k W F a b d e f H K h => ?_) ?_
           ·have f127 : F.tmps.getD 127 undef = k 5 := (a 127).trans (by kernel_rfl); have f128 := gE (a 128) (by kernel_rfl) (H 6) (by kernel_rfl); have q5 : j 5 = true := (H 5 (.edge (by kernel_rfl))).1; rw [if_neg (by simp [b]), if_pos q5] at f; have hS := f; clear f d b e a H; refine oP rfl ?_; obtain ⟨A2, c2, e2, _⟩ := sep_rwForm (i := 0) hS rfl; have hc3 := cA (i := 4) hS rfl 0 rfl; have hf3 := cFz (i := 4) hS rfl 0; rw [e2] at hS; have hs0 := cS (i := 4) hS rfl 0 (.slice A2 (n + 1) c2); have hs : ∃ vF, Sep w0 (W.setCell ⟨w.heap.size + 1 + 1 + 1 + 1, 0, none⟩ (.slice A2 (n + 1) c2)) (TKqF w now g q1 q0 X Qs kk ffr fto finc fconn pinc pconn ack seq A body.length c (Rw 51 10 vF (n + 1) (xs ++ hx)) (Bods []) (Rw 49 4 vE mE yE) (Bods LBE) (#[vF, vE]) (#[.int .u64 (base : Int), .slice BA box.length bc, .int .u64 (got : Int), .int .i64 sn, .int .u64 (si : Int), .int .i64 peer, .int .u64 (conn : Int), .int .u64 (inc : Int), .int .u64 (known : Int), .bool up, .int .u64 (now : Int), .int .u64 (sent : Int)]) (BoxT (.slice BA box.length bc) box)) := ⟨_, hs0⟩; clear hs0; go_simp; exact h.out undef _ trivial trivial (by simpa [upB, upd] using hs)
           exact EN
          ·intro dn xv W hI H; have qe : dn 7 = true := (H 7 (of_decide_eq_true (by kernel_rfl))).1; rw [if_pos qe] at hI; have hS := hI; clear H hI qe; simp only [putAll, Act.put, List.setIfInBounds_toArray, List.set_cons_zero, List.set_cons_succ, Nat.reduceAdd]; obtain ⟨vF, hS⟩ := hS; obtain ⟨A2, c2, rfl, _⟩ := sep_rwForm (i := 0) hS rfl; obtain ⟨AE, cE, rfl, _⟩ := sep_rwForm (i := 2) hS rfl; have HS12 := Lib.hid hS; clear hS; have k0 := cA (i := 4) HS12.out rfl 0 rfl; have k1 := cA (i := 4) HS12.out rfl 1 rfl; have y0 := cFz (i := 5) HS12.out rfl 0; have y1 := cFz (i := 5) HS12.out rfl 1; have z0 := cA (i := 5) HS12.out rfl 0 rfl; have z1 := cA (i := 5) HS12.out rfl 1 rfl; have HSZ := Lib.hid (cS (i := 5) (cS (i := 5) HS12.out rfl 0 (.slice A2 (n + 1) c2)) rfl 1 (.slice AE mE cE))
           go_wp2_with fail
           have k0 := cA (i := 5) HSZ.out rfl 0 rfl; have k1 := cA (i := 5) HSZ.out rfl 1 rfl; refine ⟨.agg #[.slice A2 (n + 1) c2, .slice AE mE cE], by simp [results, Try.results15, go_sem, k0, k1], ?_⟩; refine ⟨_, _, .slice BA box.length bc, [((sS.take1 now fF).hello, .slice none 0 0)], LE, rfl, ?_, ?_, ?_⟩
           ·rw [LS.takeF, if_pos HLK.out]; simp only; rw [if_neg (by rw [HKN.out]; simp)]; rfl
           ·rw [LS.takeE, if_pos HLK.out]; simp only; rw [if_neg (by rw [HKN.out]; simp), HLE.out, List.append_nil]
           ·rw [LS.take, if_pos HLK.out]; simp only; rw [if_neg (by rw [HKN.out]; simp), LS.take1, Ht.out, ← HTT.out, HmE.out, HyE.out, HLB.out]; have hx := sep_bodsNone (i := 1) (((((((HSZ.out.drop 4).drop 4).drop 4).drop 6).drop 6).drop 6).drop 6) rfl; rw [← HXS.out] at hx; obtain ⟨e1, e2⟩ := Hnx.out; subst e1 e2; exact hx
end Go.Proofs.Ytngegjboenfmeaa
