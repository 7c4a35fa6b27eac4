/- Part 4 of the texts of a claim: LnkVc LnkV TwB TwD PartP OrdP GoA GoB -/
import Derived.Test.YtngegjboenfmeaaPc1
import Derived.Test.YtngegjboenfmeaaPc2
import Derived.Test.YtngegjboenfmeaaPc3
import Derived.Laws.BitsLemmas
namespace Go.Proofs.Ytngegjboenfmeaa
open Go Go.RowKit Go.Shelf
set_option linter.unusedVariables false
set_option maxRecDepth 100000
set_option linter.unusedSimpArgs false
attribute [local go_sem] Oper.semAt_some

set_option maxHeartbeats 51200000 in
theorem takeKnows {w0 w : World} {Qs : List SP} {X : SP} {g now : Nat} {s : LS} {f : Fr} {bx : Value} {A : Option Addr} {c : Nat} (h : Sep w0 w (Ce g 72 (s.cells bx) :: BoxT bx s.box :: X :: Qs)) (hX : Reads X A f.body) (hs : s.Num) (hbl : f.body.length ≤ maxLen) (hack : f.ack < 18446744073709551616) (hseq : f.seq < 18446744073709551616) (hnow : now < 18446744073709551616) (hlk : s.looks f = true) (hkn : (s.take1 now f).knows f = true) :
  Calls Try.prog 15 #[.pointer (some ⟨g, 0, none⟩), .int .u64 (now : Int), .agg (f.cells A c)] w (Ans w0 g (X :: Qs) (s.takeF now f) (s.takeE now f) (s.take now f)) := by
 obtain ⟨BA, bc, rfl, hcc, hcm, hbx⟩ := sep_boxForm (i := 1) h rfl hs.small; have HOK := Lib.hid hs; obtain ⟨sS, HSS⟩ : ∃ x, Hid (s = x) := ⟨_, Lib.hid rfl⟩; obtain ⟨fF, HFF⟩ : ∃ x, Hid (f = x) := ⟨_, Lib.hid rfl⟩; have HOS : Hid (sS.Num) := Lib.hid (by rw [← HSS.out]; exact HOK.out)
 suffices hgoal : Calls Try.prog 15 #[.pointer (some ⟨g, 0, none⟩), .int .u64 (now : Int), .agg (f.cells A c)] w (Ans w0 g (X :: Qs) (sS.takeF now fF) (sS.takeE now fF) (sS.take now fF)) by
  rw [HSS.out, HFF.out]; rw [HFF.out] at hgoal; exact hgoal
 obtain ⟨base, box, got, sn, si, peer, conn, inc, known, up, heard, sent⟩ := s; obtain ⟨kk, ffr, fto, finc, fconn, pinc, pconn, ack, seq, body⟩ := f; have hsn : sn ≠ 0 := hs.sn; have HSN := Lib.hid hsn; have HBL : Hid (body.length ≤ maxLen) := Lib.hid hbl; have hack : ack < 18446744073709551616 := hack; have hseq : seq < 18446744073709551616 := hseq; have HX : Hid (Reads X A body) := Lib.hid hX; obtain ⟨p1, Hp1⟩ : ∃ q, Hid ((!(mayB kk ffr fto finc fconn pinc pconn ack seq body.length && decide (ffr = peer) && decide (fto = sn))) = q) := ⟨_, Lib.hid rfl⟩; obtain ⟨p2, Hp2⟩ : ∃ q, Hid ((decide (finc < inc) || (decide (finc = inc) && decide (fconn < known))) = q) := ⟨_, Lib.hid rfl⟩
 obtain ⟨p3, Hp3⟩ : ∃ q, Hid ((decide (finc ≠ inc) || decide (fconn ≠ known)) = q) := ⟨_, Lib.hid rfl⟩
 have HLOOK : Hid (sS.looks fF = (!p1 && !p2)) := Lib.hid (by rw [← HSS.out, ← HFF.out, ← Hp1.out, ← Hp2.out]; simp [LS.looks]); have HOTH : Hid (sS.other fF = p3) := Lib.hid (by rw [← HSS.out, ← HFF.out]; exact Hp3.out); show Calls Try.prog 15 #[.pointer (some ⟨g, 0, none⟩), .int .u64 (now : Int), .agg #[.int .i64 kk, .int .i64 ffr, .int .i64 fto, .int .u64 (finc : Int), .int .u64 (fconn : Int), .int .u64 (pinc : Int), .int .u64 (pconn : Int), .int .u64 (ack : Int), .int .u64 (seq : Int), .slice A body.length c]] w _; have HS0 := Lib.hid (show Sep w0 (((((w.alloc (.cells #[.pointer (some ⟨g, 0, none⟩)] 26)).alloc (.cells #[.int .u64 (now : Int)] 28)).alloc (.cells #[.int .i64 kk, .int .i64 ffr, .int .i64 fto, .int .u64 (finc : Int), .int .u64 (fconn : Int), .int .u64 (pinc : Int), .int .u64 (pconn : Int), .int .u64 (ack : Int), .int .u64 (seq : Int), .slice A body.length c] 51)).alloc (.cells #[.slice none 0 0, .slice none 0 0] 43)).alloc (.cells #[.slice none 0 0, .slice none 0 0] 43)) (TKaF w now g X Qs kk ffr fto finc fconn pinc pconn ack seq A body.length c (Rw 51 10 (.slice none 0 0) 0 []) (Bods []) (Rw 49 4 (.slice none 0 0) 0 []) (Bods []) (#[.slice none 0 0, .slice none 0 0]) (#[.int .u64 (base : Int), .slice BA box.length bc, .int .u64 (got : Int), .int .i64 sn, .int .u64 (si : Int), .int .i64 peer, .int .u64 (conn : Int), .int .u64 (inc : Int), .int .u64 (known : Int), .bool up, .int .u64 (heard : Int), .int .u64 (sent : Int)]) (BoxT (.slice BA box.length bc) box)) by
  have := sep_ceF (sep_ceF (sep_ceF (sep_ceF (sep_ceF h #[.pointer (some ⟨g, 0, none⟩)] 26) #[.int .u64 (now : Int)] 28) #[.int .i64 kk, .int .i64 ffr, .int .i64 fto, .int .u64 (finc : Int), .int .u64 (fconn : Int), .int .u64 (pinc : Int), .int .u64 (pconn : Int), .int .u64 (ack : Int), .int .u64 (seq : Int), .slice A body.length c] 51) #[.slice none 0 0, .slice none 0 0] 43) #[.slice none 0 0, .slice none 0 0] 43
  simp only [World.size_alloc] at this; have := sep_bodsNil (sep_rwNil (sep_bodsNil (sep_rwNil this 51 10).lastFront) 49 4).lastFront; exact (((((((((((this).tF 7 rfl).tF 7 rfl).tF 10 rfl).tF 10 rfl).tF 10 rfl).tF 10 rfl).tF 10 rfl).tF 7 rfl).tF 8 rfl).tF 9 rfl).tF 10 rfl)
 have HKN0 : Hid ((sS.take1 now fF).knows fF = true) := Lib.hid (by rw [← HSS.out, ← HFF.out]; exact hkn); clear hkn; clear h hs hsn hbx hbl hX; refine calls_marks 6 Try.func15 rfl ?_; have HLOOK2 : Hid (sS.looks fF = true) := Lib.hid (by rw [← HSS.out, ← HFF.out]; exact hlk); clear hlk; simp only [Try.ntmps15, List.size_toArray, List.length_cons, List.length_nil, Nat.reduceAdd, Nat.reduceSub, Array.replicate_succ, Array.replicate_zero, List.push_toArray, List.append_toArray, List.nil_append, List.cons_append]; have hm2 : mayB kk ffr fto finc fconn pinc pconn ack seq body.length = true ∧ ffr = peer ∧ fto = sn ∧ (decide (finc < inc) || (decide (finc = inc) && decide (fconn < known))) = false := by
  have h := HLOOK2.out; rw [← HSS.out, ← HFF.out] at h; simp only [LS.looks, Bool.and_eq_true, Bool.not_eq_true', decide_eq_true_eq] at h; exact ⟨h.1.1.1, h.1.1.2, h.1.2, h.2⟩
 have HLK : Hid (sS.looks fF = true) := HLOOK2; have hb448 : body.length ≤ 448 := mayB_len hm2.1; have HM := Lib.hid hm2.1; have e1 : (ffr != peer) = false := by simp [hm2.2.1]
 have e2 : (fto != sn) = false := by simp [hm2.2.2.1]
 have HN4 := Lib.hid hm2.2.2.2; clear hm2
 go_wp2_with fail
 refine wRG (fun dn xv W => Sep w0 W (TKaF w now g X Qs kk ffr fto finc fconn pinc pconn ack seq A body.length c (Rw 51 10 (.slice none 0 0) 0 []) (Bods []) (Rw 49 4 (.slice none 0 0) 0 []) (Bods []) (#[.slice none 0 0, .slice none 0 0]) (#[.int .u64 (base : Int), .slice BA box.length bc, .int .u64 (got : Int), .int .i64 sn, .int .u64 (si : Int), .int .i64 peer, .int .u64 (conn : Int), .int .u64 (inc : Int), .int .u64 (known : Int), .bool up, .int .u64 (heard : Int), .int .u64 (sent : Int)]) (BoxT (.slice BA box.length bc) box))) (fun _ _ => True) [xP_ g 0, xV_ (.bool true), xV_ (.bool false), xV_ (.bool false), xV_ (.agg #[.int .i64 kk, .int .i64 ffr, .int .i64 fto, .int .u64 (finc : Int), .int .u64 (fconn : Int), .int .u64 (pinc : Int), .int .u64 (pconn : Int), .int .u64 (ack : Int), .int .u64 (seq : Int), .slice A body.length c]), xV_ (.bool true), xV_ (.bool false), xV_ (.bool false), xV_ (.bool false), xP_ (w.heap.size + 1 + 1) 1, xV_ (.int .i64 ffr), xP_ g 0, xP_ g 0, xP_ g 5, xV_ (.int .i64 peer), xV_ (.bool false), xV_ (.bool false), xV_ (.bool false), xP_ (w.heap.size + 1 + 1) 2, xV_ (.int .i64 fto), xP_ g 0, xP_ g 0, xP_ g 3, xP_ g 3, xV_ (.int .i64 sn), xV_ (.bool false), xV_ (.bool false)] (fun xv => by simpa using HS0.out.drew) ?_ ?_
 ·refine Epk 1 3 w.heap.size 0 (fun _ _ _ e => cA (i := 6) e rfl 0 rfl) ?_
  refine EC 2 rfl (fun j k W F a b c d f H K h => ?_) ?_
  ·have f16 := gE (a 16) (by kernel_rfl) (H 0) (by kernel_rfl); clear H c b d a; refine oP rfl ?_; go_simp; refine (made_yes W g sn HSN.out (cA (i := 7) f rfl 3 rfl)).mono ?_; rintro e W' ⟨rfl, hb⟩; exact h.out _ W' rfl trivial (by simpa [upB, upd] using f.grow hb)
  refine Ee 3 17 1 ?_
  refine Ee 4 18 2 ?_
  refine EC 5 rfl (fun g h W F a b c d e H K f => ?_) ?_
  ·have f5 : F.tmps.getD 5 undef = .pointer (some ⟨w.heap.size + 1 + 1, 0, none⟩) := (a 5).trans (by kernel_rfl); have f19 := gE (a 19) (by kernel_rfl) (H 3) (by kernel_rfl); have k9_0 := cA (i := 9) e rfl 0 rfl; have k9_1 := cA (i := 9) e rfl 1 rfl; have k9_2 := cA (i := 9) e rfl 2 rfl; have k9_3 := cA (i := 9) e rfl 3 rfl; have k9_4 := cA (i := 9) e rfl 4 rfl; have k9_5 := cA (i := 9) e rfl 5 rfl; have k9_6 := cA (i := 9) e rfl 6 rfl; have k9_7 := cA (i := 9) e rfl 7 rfl; have k9_8 := cA (i := 9) e rfl 8 rfl; have k9_9 := cA (i := 9) e rfl 9 rfl; clear H c b d a; refine oG rfl (by kernel_rfl) f19 ?_; go_simp; exact f.out _ _ rfl trivial e
  refine EC 6 rfl (fun i j W F a b d f g H K h => ?_) ?_
  ·have f20 := gE (a 20) (by kernel_rfl) (H 4) (by kernel_rfl); have f19 := gE (a 19) (by kernel_rfl) (H 3) (by kernel_rfl); clear H d b f a; refine oG rfl (by kernel_rfl) f19 ?_; go_simp; refine (mayFk (w := W) (c := c) (A := A) HM.out HBL.out).mono ?_; rintro e W' ⟨rfl, hb⟩; exact h.out _ W' rfl trivial (by simpa [upB, upd] using g.grow hb)
  refine Eeeg 7 21 5 19 3 ?_
  refine Eee 8 19 3 22 6 ?_
  refine Ee 9 23 7 ?_
  refine Epeg 10 5 (w.heap.size + 1 + 1) 0 24 8 ?_
  refine Eeegk 11 25 9 24 8 (fun _ _ _ e => cA (i := 9) e rfl 1 rfl) ?_
  refine Epegk 12 3 w.heap.size 0 24 8 (fun _ _ _ e => cA (i := 6) e rfl 0 rfl) ?_
  refine Eeeg 13 27 11 24 8 ?_
  refine Eeeg 14 28 12 24 8 ?_
  refine Eeegk 15 29 13 24 8 (fun _ _ _ e => cA (i := 7) e rfl 5 rfl) ?_
  refine Eeeeg 16 26 10 30 14 24 8 ?_
  refine Eee 17 24 8 31 15 ?_
  refine Ee 18 32 16 ?_
  refine Epeg 19 5 (w.heap.size + 1 + 1) 0 33 17 ?_
  refine Eeegk 20 34 18 33 17 (fun _ _ _ e => cA (i := 9) e rfl 2 rfl) ?_
  refine Epegk 21 3 w.heap.size 0 33 17 (fun _ _ _ e => cA (i := 6) e rfl 0 rfl) ?_
  refine Eeeg 22 36 20 33 17 ?_
  refine Eeeg 23 37 21 33 17 ?_
  refine Eeeg 24 38 22 33 17 ?_
  refine Eeegk 25 39 23 33 17 (fun _ _ _ e => cA (i := 7) e rfl 3 rfl) ?_
  refine Eeeeg 26 35 19 40 24 33 17 ?_
  refine Eee 27 33 17 41 25 ?_
  exact EN
 ·intro dn xv W hI H; have q26 : xv 26 = .bool false := (H 26 (of_decide_eq_true (by kernel_rfl))).2; have hS : Sep w0 W (TKaF w now g X Qs kk ffr fto finc fconn pinc pconn ack seq A body.length c (Rw 51 10 (.slice none 0 0) 0 []) (Bods []) (Rw 49 4 (.slice none 0 0) 0 []) (Bods []) (#[.slice none 0 0, .slice none 0 0]) (#[.int .u64 (base : Int), .slice BA box.length bc, .int .u64 (got : Int), .int .i64 sn, .int .u64 (si : Int), .int .i64 peer, .int .u64 (conn : Int), .int .u64 (inc : Int), .int .u64 (known : Int), .bool up, .int .u64 (heard : Int), .int .u64 (sent : Int)]) (BoxT (.slice BA box.length bc) box)) := hI; clear H hI; simp only [putAll, Act.put, List.setIfInBounds_toArray, List.set_cons_zero, List.set_cons_succ, Nat.reduceAdd, q26]; clear q26; have HS2 := Lib.hid hS; clear hS e1 e2 HS0; obtain ⟨W2, HW2⟩ : ∃ x, Hid (W = x) := ⟨_, Lib.hid rfl⟩; rw [HW2.out] at HS2 ⊢
  go_upto_region 4 with fail
  go_cut [68] from 44 to 68 (fun t wx => t = .bool false ∧ Sep w0 wx (TKaF w now g X Qs kk ffr fto finc fconn pinc pconn ack seq A body.length c (Rw 51 10 (.slice none 0 0) 0 []) (Bods []) (Rw 49 4 (.slice none 0 0) 0 []) (Bods []) (#[.slice none 0 0, .slice none 0 0]) (#[.int .u64 (base : Int), .slice BA box.length bc, .int .u64 (got : Int), .int .i64 sn, .int .u64 (si : Int), .int .i64 peer, .int .u64 (conn : Int), .int .u64 (inc : Int), .int .u64 (known : Int), .bool up, .int .u64 (heard : Int), .int .u64 (sent : Int)]) (BoxT (.slice BA box.length bc) box)))
  case first =>
   have h1 : ¬ finc < inc := by
    intro h; have h2 := HN4.out; rw [decide_eq_true h] at h2; simp at h2
   have e1 : decide (finc < inc) = false := decide_eq_false h1
   by_cases h2 : finc = inc
   ·have e2 : ((finc : Int) == (inc : Int)) = true := by simp [h2]
    have h3 : ¬ fconn < known := by
     intro h; have h4 := HN4.out; rw [decide_eq_true h, decide_eq_true h2] at h4; simp at h4
    have e3 : decide (fconn < known) = false := decide_eq_false h3; clear h1 h2 h3
    go_wp2_with fail
    refine wRG (fun dn xv W => Sep w0 W (TKaF w now g X Qs kk ffr fto finc fconn pinc pconn ack seq A body.length c (Rw 51 10 (.slice none 0 0) 0 []) (Bods []) (Rw 49 4 (.slice none 0 0) 0 []) (Bods []) (#[.slice none 0 0, .slice none 0 0]) (#[.int .u64 (base : Int), .slice BA box.length bc, .int .u64 (got : Int), .int .i64 sn, .int .u64 (si : Int), .int .i64 peer, .int .u64 (conn : Int), .int .u64 (inc : Int), .int .u64 (known : Int), .bool up, .int .u64 (heard : Int), .int .u64 (sent : Int)]) (BoxT (.slice BA box.length bc) box))) (fun _ _ => True) [xP_ (w.heap.size + 1 + 1) 3, xV_ (.int .u64 (finc : Int)), xP_ g 0, xP_ g 0, xP_ g 7, xV_ (.int .u64 (inc : Int)), xV_ (.bool false), xV_ (.bool false), xP_ (w.heap.size + 1 + 1) 3, xV_ (.int .u64 (finc : Int)), xP_ g 0, xP_ g 0, xP_ g 7, xV_ (.int .u64 (inc : Int)), xV_ (.bool true), xV_ (.bool true), xP_ (w.heap.size + 1 + 1) 4, xV_ (.int .u64 (fconn : Int)), xP_ g 0, xP_ g 0, xP_ g 8, xV_ (.int .u64 (known : Int)), xV_ (.bool false), xV_ (.bool false), xV_ (.bool false)] (fun xv => by simpa using HS2.out.drew) ?_ ?_
    ·refine Ep 1 5 (w.heap.size + 1 + 1) 0 ?_
     refine Eek 2 44 0 (fun _ _ _ e => cA (i := 9) e rfl 3 rfl) ?_
     refine Epk 3 3 w.heap.size 0 (fun _ _ _ e => cA (i := 6) e rfl 0 rfl) ?_
     refine Ee 4 46 2 ?_
     refine Ee 5 47 3 ?_
     refine Eek 6 48 4 (fun _ _ _ e => cA (i := 7) e rfl 7 rfl) ?_
     refine Eee 7 45 1 49 5 ?_
     refine Ee 8 50 6 ?_
     refine Epeg 9 5 (w.heap.size + 1 + 1) 0 51 7 ?_
     refine Eeegk 10 52 8 51 7 (fun _ _ _ e => cA (i := 9) e rfl 3 rfl) ?_
     refine Epegk 11 3 w.heap.size 0 51 7 (fun _ _ _ e => cA (i := 6) e rfl 0 rfl) ?_
     refine Eeeg 12 54 10 51 7 ?_
     refine Eeeg 13 55 11 51 7 ?_
     refine Eeegk 14 56 12 51 7 (fun _ _ _ e => cA (i := 7) e rfl 7 rfl) ?_
     refine Eeeeg 15 53 9 57 13 51 7 ?_
     refine Eeeg 16 58 14 51 7 ?_
     refine Epeg 17 5 (w.heap.size + 1 + 1) 0 59 15 ?_
     refine Eeegk 18 60 16 59 15 (fun _ _ _ e => cA (i := 9) e rfl 4 rfl) ?_
     refine Epegk 19 3 w.heap.size 0 59 15 (fun _ _ _ e => cA (i := 6) e rfl 0 rfl) ?_
     refine Eeeg 20 62 18 59 15 ?_
     refine Eeeg 21 63 19 59 15 ?_
     refine Eeegk 22 64 20 59 15 (fun _ _ _ e => cA (i := 7) e rfl 8 rfl) ?_
     refine Eeeeg 23 61 17 65 21 59 15 ?_
     refine Eeeeg 24 59 15 66 22 51 7 ?_
     refine Eee 25 51 7 67 23 ?_
     exact EN
    ·intro dn xv W hI H; have q24 : xv 24 = .bool false := (H 24 (of_decide_eq_true (by kernel_rfl))).2; have hS : Sep w0 W (TKaF w now g X Qs kk ffr fto finc fconn pinc pconn ack seq A body.length c (Rw 51 10 (.slice none 0 0) 0 []) (Bods []) (Rw 49 4 (.slice none 0 0) 0 []) (Bods []) (#[.slice none 0 0, .slice none 0 0]) (#[.int .u64 (base : Int), .slice BA box.length bc, .int .u64 (got : Int), .int .i64 sn, .int .u64 (si : Int), .int .i64 peer, .int .u64 (conn : Int), .int .u64 (inc : Int), .int .u64 (known : Int), .bool up, .int .u64 (heard : Int), .int .u64 (sent : Int)]) (BoxT (.slice BA box.length bc) box)) := hI; clear H hI; simp only [putAll, Act.put, List.setIfInBounds_toArray, List.set_cons_zero, List.set_cons_succ, Nat.reduceAdd, q24]; clear q24
     go_wp2_with fail
     go_meet
     case rel => exact ⟨rfl, hS⟩
   ·have e2 : ((finc : Int) == (inc : Int)) = false := beq_eq_false_iff_ne.2 (by omega); clear h1 h2
    go_wp2_with fail
    refine wRG (fun dn xv W => Sep w0 W (TKaF w now g X Qs kk ffr fto finc fconn pinc pconn ack seq A body.length c (Rw 51 10 (.slice none 0 0) 0 []) (Bods []) (Rw 49 4 (.slice none 0 0) 0 []) (Bods []) (#[.slice none 0 0, .slice none 0 0]) (#[.int .u64 (base : Int), .slice BA box.length bc, .int .u64 (got : Int), .int .i64 sn, .int .u64 (si : Int), .int .i64 peer, .int .u64 (conn : Int), .int .u64 (inc : Int), .int .u64 (known : Int), .bool up, .int .u64 (heard : Int), .int .u64 (sent : Int)]) (BoxT (.slice BA box.length bc) box))) (fun _ _ => True) [xP_ (w.heap.size + 1 + 1) 3, xV_ (.int .u64 (finc : Int)), xP_ g 0, xP_ g 0, xP_ g 7, xV_ (.int .u64 (inc : Int)), xV_ (.bool false), xV_ (.bool false), xP_ (w.heap.size + 1 + 1) 3, xV_ (.int .u64 (finc : Int)), xP_ g 0, xP_ g 0, xP_ g 7, xV_ (.int .u64 (inc : Int)), xV_ (.bool false), xV_ (.bool false), xV_ undef, xV_ undef, xV_ undef, xV_ undef, xV_ undef, xV_ undef, xV_ undef, xV_ (.bool false), xV_ (.bool false)] (fun xv => by simpa using HS2.out.drew) ?_ ?_
    ·refine Ep 1 5 (w.heap.size + 1 + 1) 0 ?_
     refine Eek 2 44 0 (fun _ _ _ e => cA (i := 9) e rfl 3 rfl) ?_
     refine Epk 3 3 w.heap.size 0 (fun _ _ _ e => cA (i := 6) e rfl 0 rfl) ?_
     refine Ee 4 46 2 ?_
     refine Ee 5 47 3 ?_
     refine Eek 6 48 4 (fun _ _ _ e => cA (i := 7) e rfl 7 rfl) ?_
     refine Eee 7 45 1 49 5 ?_
     refine Ee 8 50 6 ?_
     refine Epeg 9 5 (w.heap.size + 1 + 1) 0 51 7 ?_
     refine Eeegk 10 52 8 51 7 (fun _ _ _ e => cA (i := 9) e rfl 3 rfl) ?_
     refine Epegk 11 3 w.heap.size 0 51 7 (fun _ _ _ e => cA (i := 6) e rfl 0 rfl) ?_
     refine Eeeg 12 54 10 51 7 ?_
     refine Eeeg 13 55 11 51 7 ?_
     refine Eeegk 14 56 12 51 7 (fun _ _ _ e => cA (i := 7) e rfl 7 rfl) ?_
     refine Eeeeg 15 53 9 57 13 51 7 ?_
     refine Eeeg 16 58 14 51 7 ?_
     refine Eo 17 59 15 ?_
     refine EC 18 rfl (fun g h W F a b c d e H K f => ?_) ?_
     ·have f59 := gE (a 59) (by kernel_rfl) (H 15) (by kernel_rfl); have k9_4 := cA (i := 9) e rfl 4 rfl; clear H c b d a; refine off_guard rfl (by kernel_rfl) f59 (by decide) ?_; exact f.out _ _ rfl trivial e
     refine EC 19 rfl (fun g h W F a b c d e H K f => ?_) ?_
     ·have f59 := gE (a 59) (by kernel_rfl) (H 15) (by kernel_rfl); have k6_0 := cA (i := 6) e rfl 0 rfl; clear H c b d a; refine off_guard rfl (by kernel_rfl) f59 (by decide) ?_; exact f.out _ _ rfl trivial e
     refine Eo 20 59 15 ?_
     refine Eo 21 59 15 ?_
     refine EC 22 rfl (fun g h W F a b c d e H K f => ?_) ?_
     ·have f59 := gE (a 59) (by kernel_rfl) (H 15) (by kernel_rfl); have k7_8 := cA (i := 7) e rfl 8 rfl; clear H c b d a; refine off_guard rfl (by kernel_rfl) f59 (by decide) ?_; exact f.out _ _ rfl trivial e
     refine Eo 23 59 15 ?_
     refine Eeeeg 24 59 15 66 22 51 7 ?_
     refine Eee 25 51 7 67 23 ?_
     exact EN
    ·intro dn xv W hI H; have q24 : xv 24 = .bool false := (H 24 (of_decide_eq_true (by kernel_rfl))).2; have hS : Sep w0 W (TKaF w now g X Qs kk ffr fto finc fconn pinc pconn ack seq A body.length c (Rw 51 10 (.slice none 0 0) 0 []) (Bods []) (Rw 49 4 (.slice none 0 0) 0 []) (Bods []) (#[.slice none 0 0, .slice none 0 0]) (#[.int .u64 (base : Int), .slice BA box.length bc, .int .u64 (got : Int), .int .i64 sn, .int .u64 (si : Int), .int .i64 peer, .int .u64 (conn : Int), .int .u64 (inc : Int), .int .u64 (known : Int), .bool up, .int .u64 (heard : Int), .int .u64 (sent : Int)]) (BoxT (.slice BA box.length bc) box)) := hI; clear H hI; simp only [putAll, Act.put, List.setIfInBounds_toArray, List.set_cons_zero, List.set_cons_succ, Nat.reduceAdd, q24]; clear q24
     go_wp2_with fail
     go_meet
     case rel => exact ⟨rfl, hS⟩
  case rest =>
   obtain ⟨rfl, hS⟩ := hcut; clear HS2; have HS4 := Lib.hid hS; clear hS; have kl := cA (i := 6) HS4.out rfl 0 rfl
   go_wp2_with fail
   refine (sep_teller HS4.out g (w.heap.size + 1 + 1 + 1 + 1)).mono ?_; rintro e w6 ⟨q1, q0, rfl, h6⟩; have HS6 : Hid (Sep w0 w6 (TKqF w now g q1 q0 X Qs kk ffr fto finc fconn pinc pconn ack seq A body.length c (Rw 51 10 (.slice none 0 0) 0 []) (Bods []) (Rw 49 4 (.slice none 0 0) 0 []) (Bods []) (#[.slice none 0 0, .slice none 0 0]) (#[.int .u64 (base : Int), .slice BA box.length bc, .int .u64 (got : Int), .int .i64 sn, .int .u64 (si : Int), .int .i64 peer, .int .u64 (conn : Int), .int .u64 (inc : Int), .int .u64 (known : Int), .bool up, .int .u64 (heard : Int), .int .u64 (sent : Int)]) (BoxT (.slice BA box.length bc) box))) := Lib.hid ((((((((((((h6).tF 1 rfl).tF 1 rfl).tF 10 rfl).tF 10 rfl).tF 10 rfl).tF 10 rfl).tF 10 rfl).tF 10 rfl).tF 10 rfl).tF 10 rfl).tF 10 rfl); clear h6 HS4 kl
   go_upto_region 7 with fail
   go_cut [87] from 72 to 87 (fun t wx => t = .bool p3 ∧ Sep w0 wx (TKqF w now g q1 q0 X Qs kk ffr fto finc fconn pinc pconn ack seq A body.length c (Rw 51 10 (.slice none 0 0) 0 []) (Bods []) (Rw 49 4 (.slice none 0 0) 0 []) (Bods []) (#[.slice none 0 0, .slice none 0 0]) (#[.int .u64 (base : Int), .slice BA box.length bc, .int .u64 (got : Int), .int .i64 sn, .int .u64 (si : Int), .int .i64 peer, .int .u64 (conn : Int), .int .u64 (inc : Int), .int .u64 (known : Int), .bool up, .int .u64 (heard : Int), .int .u64 (sent : Int)]) (BoxT (.slice BA box.length bc) box)))
   case first =>
      by_cases h1 : finc = inc
      ·have e1 : ((finc : Int) != (inc : Int)) = false := by simp [h1]
       have H1 := Lib.hid h1; clear h1
       by_cases h2 : fconn = known
       ·have e2 : ((fconn : Int) != (known : Int)) = false := by simp [h2]
        have H2 := Lib.hid h2; clear h2
        go_wp2_with fail
        refine wRG (fun dn xv W => Sep w0 W (TKqF w now g q1 q0 X Qs kk ffr fto finc fconn pinc pconn ack seq A body.length c (Rw 51 10 (.slice none 0 0) 0 []) (Bods []) (Rw 49 4 (.slice none 0 0) 0 []) (Bods []) (#[.slice none 0 0, .slice none 0 0]) (#[.int .u64 (base : Int), .slice BA box.length bc, .int .u64 (got : Int), .int .i64 sn, .int .u64 (si : Int), .int .i64 peer, .int .u64 (conn : Int), .int .u64 (inc : Int), .int .u64 (known : Int), .bool up, .int .u64 (heard : Int), .int .u64 (sent : Int)]) (BoxT (.slice BA box.length bc) box))) (fun _ _ => True) [xP_ (w.heap.size + 1 + 1) 3, xV_ (.int .u64 (finc : Int)), xP_ g 0, xP_ g 0, xP_ g 7, xV_ (.int .u64 (inc : Int)), xV_ (.bool false), xV_ (.bool false), xP_ (w.heap.size + 1 + 1) 4, xV_ (.int .u64 (fconn : Int)), xP_ g 0, xP_ g 0, xP_ g 8, xV_ (.int .u64 (known : Int)), xV_ (.bool false), xV_ (.bool false)] (fun xv => by simpa using HS6.out.drew) ?_ ?_
        ·refine Ep 1 5 (w.heap.size + 1 + 1) 0 ?_
         refine Eek 2 72 0 (fun _ _ _ e => cA (i := 11) e rfl 3 rfl) ?_
         refine Epk 3 3 w.heap.size 0 (fun _ _ _ e => cA (i := 6) e rfl 0 rfl) ?_
         refine Ee 4 74 2 ?_
         refine Ee 5 75 3 ?_
         refine Eek 6 76 4 (fun _ _ _ e => cA (i := 7) e rfl 7 rfl) ?_
         refine Eee 7 73 1 77 5 ?_
         refine Ee 8 78 6 ?_
         refine Epeg 9 5 (w.heap.size + 1 + 1) 0 79 7 ?_
         refine Eeegk 10 80 8 79 7 (fun _ _ _ e => cA (i := 11) e rfl 4 rfl) ?_
         refine Epegk 11 3 w.heap.size 0 79 7 (fun _ _ _ e => cA (i := 6) e rfl 0 rfl) ?_
         refine Eeeg 12 82 10 79 7 ?_
         refine Eeeg 13 83 11 79 7 ?_
         refine Eeegk 14 84 12 79 7 (fun _ _ _ e => cA (i := 7) e rfl 8 rfl) ?_
         refine Eeeeg 15 81 9 85 13 79 7 ?_
         refine Eee 16 79 7 86 14 ?_
         exact EN
        ·intro dn xv W hI H; have q15 : xv 15 = .bool false := (H 15 (of_decide_eq_true (by kernel_rfl))).2; have hS : Sep w0 W (TKqF w now g q1 q0 X Qs kk ffr fto finc fconn pinc pconn ack seq A body.length c (Rw 51 10 (.slice none 0 0) 0 []) (Bods []) (Rw 49 4 (.slice none 0 0) 0 []) (Bods []) (#[.slice none 0 0, .slice none 0 0]) (#[.int .u64 (base : Int), .slice BA box.length bc, .int .u64 (got : Int), .int .i64 sn, .int .u64 (si : Int), .int .i64 peer, .int .u64 (conn : Int), .int .u64 (inc : Int), .int .u64 (known : Int), .bool up, .int .u64 (heard : Int), .int .u64 (sent : Int)]) (BoxT (.slice BA box.length bc) box)) := hI; clear H hI; simp only [putAll, Act.put, List.setIfInBounds_toArray, List.set_cons_zero, List.set_cons_succ, Nat.reduceAdd, q15]; clear q15
         go_wp2_with fail
         go_meet
         case rel => exact ⟨by rw [← Hp3.out]; simp [H1.out, H2.out], hS⟩
       ·have e2 : ((fconn : Int) != (known : Int)) = true := by simp; omega
        have H2 := Lib.hid h2; clear h2
        go_wp2_with fail
        refine wRG (fun dn xv W => Sep w0 W (TKqF w now g q1 q0 X Qs kk ffr fto finc fconn pinc pconn ack seq A body.length c (Rw 51 10 (.slice none 0 0) 0 []) (Bods []) (Rw 49 4 (.slice none 0 0) 0 []) (Bods []) (#[.slice none 0 0, .slice none 0 0]) (#[.int .u64 (base : Int), .slice BA box.length bc, .int .u64 (got : Int), .int .i64 sn, .int .u64 (si : Int), .int .i64 peer, .int .u64 (conn : Int), .int .u64 (inc : Int), .int .u64 (known : Int), .bool up, .int .u64 (heard : Int), .int .u64 (sent : Int)]) (BoxT (.slice BA box.length bc) box))) (fun _ _ => True) [xP_ (w.heap.size + 1 + 1) 3, xV_ (.int .u64 (finc : Int)), xP_ g 0, xP_ g 0, xP_ g 7, xV_ (.int .u64 (inc : Int)), xV_ (.bool false), xV_ (.bool false), xP_ (w.heap.size + 1 + 1) 4, xV_ (.int .u64 (fconn : Int)), xP_ g 0, xP_ g 0, xP_ g 8, xV_ (.int .u64 (known : Int)), xV_ (.bool true), xV_ (.bool true)] (fun xv => by simpa using HS6.out.drew) ?_ ?_
        ·refine Ep 1 5 (w.heap.size + 1 + 1) 0 ?_
         refine Eek 2 72 0 (fun _ _ _ e => cA (i := 11) e rfl 3 rfl) ?_
         refine Epk 3 3 w.heap.size 0 (fun _ _ _ e => cA (i := 6) e rfl 0 rfl) ?_
         refine Ee 4 74 2 ?_
         refine Ee 5 75 3 ?_
         refine Eek 6 76 4 (fun _ _ _ e => cA (i := 7) e rfl 7 rfl) ?_
         refine Eee 7 73 1 77 5 ?_
         refine Ee 8 78 6 ?_
         refine Epeg 9 5 (w.heap.size + 1 + 1) 0 79 7 ?_
         refine Eeegk 10 80 8 79 7 (fun _ _ _ e => cA (i := 11) e rfl 4 rfl) ?_
         refine Epegk 11 3 w.heap.size 0 79 7 (fun _ _ _ e => cA (i := 6) e rfl 0 rfl) ?_
         refine Eeeg 12 82 10 79 7 ?_
         refine Eeeg 13 83 11 79 7 ?_
         refine Eeegk 14 84 12 79 7 (fun _ _ _ e => cA (i := 7) e rfl 8 rfl) ?_
         refine Eeeeg 15 81 9 85 13 79 7 ?_
         refine Eee 16 79 7 86 14 ?_
         exact EN
        ·intro dn xv W hI H; have q15 : xv 15 = .bool true := (H 15 (of_decide_eq_true (by kernel_rfl))).2; have hS : Sep w0 W (TKqF w now g q1 q0 X Qs kk ffr fto finc fconn pinc pconn ack seq A body.length c (Rw 51 10 (.slice none 0 0) 0 []) (Bods []) (Rw 49 4 (.slice none 0 0) 0 []) (Bods []) (#[.slice none 0 0, .slice none 0 0]) (#[.int .u64 (base : Int), .slice BA box.length bc, .int .u64 (got : Int), .int .i64 sn, .int .u64 (si : Int), .int .i64 peer, .int .u64 (conn : Int), .int .u64 (inc : Int), .int .u64 (known : Int), .bool up, .int .u64 (heard : Int), .int .u64 (sent : Int)]) (BoxT (.slice BA box.length bc) box)) := hI; clear H hI; simp only [putAll, Act.put, List.setIfInBounds_toArray, List.set_cons_zero, List.set_cons_succ, Nat.reduceAdd, q15]; clear q15
         go_wp2_with fail
         go_meet
         case rel => exact ⟨by rw [← Hp3.out]; simp [H2.out], hS⟩
      ·have e1 : ((finc : Int) != (inc : Int)) = true := by simp; omega
       have H1 := Lib.hid h1; clear h1
       go_wp2_with fail
       refine wRG (fun dn xv W => Sep w0 W (TKqF w now g q1 q0 X Qs kk ffr fto finc fconn pinc pconn ack seq A body.length c (Rw 51 10 (.slice none 0 0) 0 []) (Bods []) (Rw 49 4 (.slice none 0 0) 0 []) (Bods []) (#[.slice none 0 0, .slice none 0 0]) (#[.int .u64 (base : Int), .slice BA box.length bc, .int .u64 (got : Int), .int .i64 sn, .int .u64 (si : Int), .int .i64 peer, .int .u64 (conn : Int), .int .u64 (inc : Int), .int .u64 (known : Int), .bool up, .int .u64 (heard : Int), .int .u64 (sent : Int)]) (BoxT (.slice BA box.length bc) box))) (fun _ _ => True) [xP_ (w.heap.size + 1 + 1) 3, xV_ (.int .u64 (finc : Int)), xP_ g 0, xP_ g 0, xP_ g 7, xV_ (.int .u64 (inc : Int)), xV_ (.bool true), xV_ (.bool true), xV_ undef, xV_ undef, xV_ undef, xV_ undef, xV_ undef, xV_ undef, xV_ undef, xV_ (.bool true)] (fun xv => by simpa using HS6.out.drew) ?_ ?_
       ·refine Ep 1 5 (w.heap.size + 1 + 1) 0 ?_
        refine Eek 2 72 0 (fun _ _ _ e => cA (i := 11) e rfl 3 rfl) ?_
        refine Epk 3 3 w.heap.size 0 (fun _ _ _ e => cA (i := 6) e rfl 0 rfl) ?_
        refine Ee 4 74 2 ?_
        refine Ee 5 75 3 ?_
        refine Eek 6 76 4 (fun _ _ _ e => cA (i := 7) e rfl 7 rfl) ?_
        refine Eee 7 73 1 77 5 ?_
        refine Ee 8 78 6 ?_
        refine Eo 9 79 7 ?_
        refine EC 10 rfl (fun g h W F a b c d e H K f => ?_) ?_
        ·have f79 := gE (a 79) (by kernel_rfl) (H 7) (by kernel_rfl); have k11_4 := cA (i := 11) e rfl 4 rfl; clear H c b d a; refine off_guard rfl (by kernel_rfl) f79 (by decide) ?_; exact f.out _ _ rfl trivial e
        refine EC 11 rfl (fun g h W F a b c d e H K f => ?_) ?_
        ·have f79 := gE (a 79) (by kernel_rfl) (H 7) (by kernel_rfl); have k6_0 := cA (i := 6) e rfl 0 rfl; clear H c b d a; refine off_guard rfl (by kernel_rfl) f79 (by decide) ?_; exact f.out _ _ rfl trivial e
        refine Eo 12 79 7 ?_
        refine Eo 13 79 7 ?_
        refine EC 14 rfl (fun g h W F a b c d e H K f => ?_) ?_
        ·have f79 := gE (a 79) (by kernel_rfl) (H 7) (by kernel_rfl); have k7_8 := cA (i := 7) e rfl 8 rfl; clear H c b d a; refine off_guard rfl (by kernel_rfl) f79 (by decide) ?_; exact f.out _ _ rfl trivial e
        refine Eo 15 79 7 ?_
        refine Eee 16 79 7 86 14 ?_
        exact EN
       ·intro dn xv W hI H; have q15 : xv 15 = .bool true := (H 15 (of_decide_eq_true (by kernel_rfl))).2; have hS : Sep w0 W (TKqF w now g q1 q0 X Qs kk ffr fto finc fconn pinc pconn ack seq A body.length c (Rw 51 10 (.slice none 0 0) 0 []) (Bods []) (Rw 49 4 (.slice none 0 0) 0 []) (Bods []) (#[.slice none 0 0, .slice none 0 0]) (#[.int .u64 (base : Int), .slice BA box.length bc, .int .u64 (got : Int), .int .i64 sn, .int .u64 (si : Int), .int .i64 peer, .int .u64 (conn : Int), .int .u64 (inc : Int), .int .u64 (known : Int), .bool up, .int .u64 (heard : Int), .int .u64 (sent : Int)]) (BoxT (.slice BA box.length bc) box)) := hI; clear H hI; simp only [putAll, Act.put, List.setIfInBounds_toArray, List.set_cons_zero, List.set_cons_succ, Nat.reduceAdd, q15]; clear q15
        go_wp2_with fail
        go_meet
        case rel => exact ⟨by rw [← Hp3.out]; simp [H1.out], hS⟩
   case rest =>
    obtain ⟨rfl, hS⟩ := hcut; clear HS6; have HS7 := Lib.hid hS; clear hS
    go_upto_if 87 with fail
    go_cut [] from 88 to 100 (fun wx => ∃ vF vE bx2 LE, Hid (vF = .slice none 0 0) ∧ LE.map Prod.fst = sS.take1E fF ∧ Sep w0 wx (TKqF w now g q1 q0 X Qs kk ffr fto finc fconn pinc pconn ack seq A body.length c (Rw 51 10 vF 0 []) (Bods []) (Rw 49 4 vE LE.length (eR_ LE)) (Bods (eB_ LE)) (#[vF, vE]) ((sS.turn fF).cells bx2) (BoxT bx2 (sS.turn fF).box)))
    case first =>
       cases p3 with
       | false =>
        go_wp2_with fail
        go_meet
        case rel =>
         refine ⟨.slice none 0 0, .slice none 0 0, .slice BA box.length bc, [], Lib.hid rfl, by rw [LS.take1E, HOTH.out]; rfl, ?_⟩; rw [LS.turn, if_neg (by rw [HOTH.out]; simp), ← HSS.out]; exact HS7.out
       | true =>
        have kl := cA (i := 6) HS7.out rfl 0 rfl
        go_wp2_with fail
        refine (downAny (s := ⟨base, box, got, sn, si, peer, conn, inc, known, up, heard, sent⟩) HS7.out HSN.out).mono ?_; rintro e w8 ⟨rfl, vE, LE, hLE, h8⟩; have HLE := Lib.hid hLE; obtain ⟨mE, HmE⟩ : ∃ x, Hid (LE.length = x) := ⟨_, Lib.hid rfl⟩; obtain ⟨yE, HyE⟩ : ∃ x, Hid (eR_ LE = x) := ⟨_, Lib.hid rfl⟩; obtain ⟨LBE, HLB⟩ : ∃ x, Hid (eB_ LE = x) := ⟨_, Lib.hid rfl⟩; rw [HmE.out, HyE.out, HLB.out] at h8; have HS8 := Lib.hid (show Sep w0 w8 (TKqF w now g q1 q0 X Qs kk ffr fto finc fconn pinc pconn ack seq A body.length c (Rw 51 10 (.slice none 0 0) 0 []) (Bods []) (Rw 49 4 vE mE yE) (Bods LBE) (#[.slice none 0 0, vE]) (#[.int .u64 0, .slice none 0 0, .int .u64 0, .int .i64 sn, .int .u64 (si : Int), .int .i64 peer, .int .u64 (conn : Int), .int .u64 (inc : Int), .int .u64 (known : Int), .bool false, .int .u64 (heard : Int), .int .u64 (sent : Int)]) (BoxT (.slice none 0 0) [])) from h8); clear h8 hLE kl; have HP9 : ∀ (dn : Nat → Bool) (W : World), (if dn 11 = true then Sep w0 W (TKqF w now g q1 q0 X Qs kk ffr fto finc fconn pinc pconn ack seq A body.length c (Rw 51 10 (.slice none 0 0) 0 []) (Bods []) (Rw 49 4 vE mE yE) (Bods LBE) (#[.slice none 0 0, vE]) (#[.int .u64 0, .slice none 0 0, .int .u64 0, .int .i64 sn, .int .u64 (si : Int), .int .i64 peer, .int .u64 (conn : Int), .int .u64 (finc : Int), .int .u64 (fconn : Int), .bool false, .int .u64 (heard : Int), .int .u64 (sent : Int)]) (BoxT (.slice none 0 0) [])) else if dn 8 = true then Sep w0 W (TKqF w now g q1 q0 X Qs kk ffr fto finc fconn pinc pconn ack seq A body.length c (Rw 51 10 (.slice none 0 0) 0 []) (Bods []) (Rw 49 4 vE mE yE) (Bods LBE) (#[.slice none 0 0, vE]) (#[.int .u64 0, .slice none 0 0, .int .u64 0, .int .i64 sn, .int .u64 (si : Int), .int .i64 peer, .int .u64 (conn : Int), .int .u64 (finc : Int), .int .u64 (known : Int), .bool false, .int .u64 (heard : Int), .int .u64 (sent : Int)]) (BoxT (.slice none 0 0) [])) else Sep w0 W (TKqF w now g q1 q0 X Qs kk ffr fto finc fconn pinc pconn ack seq A body.length c (Rw 51 10 (.slice none 0 0) 0 []) (Bods []) (Rw 49 4 vE mE yE) (Bods LBE) (#[.slice none 0 0, vE]) (#[.int .u64 0, .slice none 0 0, .int .u64 0, .int .i64 sn, .int .u64 (si : Int), .int .i64 peer, .int .u64 (conn : Int), .int .u64 (inc : Int), .int .u64 (known : Int), .bool false, .int .u64 (heard : Int), .int .u64 (sent : Int)]) (BoxT (.slice none 0 0) []))) → ∃ cs, Sep w0 W (TKqF w now g q1 q0 X Qs kk ffr fto finc fconn pinc pconn ack seq A body.length c (Rw 51 10 (.slice none 0 0) 0 []) (Bods []) (Rw 49 4 vE mE yE) (Bods LBE) (#[.slice none 0 0, vE]) (cs) (BoxT (.slice none 0 0) [])) := fun dn W h => by
         split at h
         ·exact ⟨_, h⟩
         split at h
         ·exact ⟨_, h⟩
         exact ⟨_, h⟩
        go_wp2_with fail
        refine wRG (fun dn xv W => if dn 11 = true then Sep w0 W (TKqF w now g q1 q0 X Qs kk ffr fto finc fconn pinc pconn ack seq A body.length c (Rw 51 10 (.slice none 0 0) 0 []) (Bods []) (Rw 49 4 vE mE yE) (Bods LBE) (#[.slice none 0 0, vE]) (#[.int .u64 0, .slice none 0 0, .int .u64 0, .int .i64 sn, .int .u64 (si : Int), .int .i64 peer, .int .u64 (conn : Int), .int .u64 (finc : Int), .int .u64 (fconn : Int), .bool false, .int .u64 (heard : Int), .int .u64 (sent : Int)]) (BoxT (.slice none 0 0) [])) else if dn 8 = true then Sep w0 W (TKqF w now g q1 q0 X Qs kk ffr fto finc fconn pinc pconn ack seq A body.length c (Rw 51 10 (.slice none 0 0) 0 []) (Bods []) (Rw 49 4 vE mE yE) (Bods LBE) (#[.slice none 0 0, vE]) (#[.int .u64 0, .slice none 0 0, .int .u64 0, .int .i64 sn, .int .u64 (si : Int), .int .i64 peer, .int .u64 (conn : Int), .int .u64 (finc : Int), .int .u64 (known : Int), .bool false, .int .u64 (heard : Int), .int .u64 (sent : Int)]) (BoxT (.slice none 0 0) [])) else Sep w0 W (TKqF w now g q1 q0 X Qs kk ffr fto finc fconn pinc pconn ack seq A body.length c (Rw 51 10 (.slice none 0 0) 0 []) (Bods []) (Rw 49 4 vE mE yE) (Bods LBE) (#[.slice none 0 0, vE]) (#[.int .u64 0, .slice none 0 0, .int .u64 0, .int .i64 sn, .int .u64 (si : Int), .int .i64 peer, .int .u64 (conn : Int), .int .u64 (inc : Int), .int .u64 (known : Int), .bool false, .int .u64 (heard : Int), .int .u64 (sent : Int)]) (BoxT (.slice none 0 0) []))) (fun _ _ => True) [xP_ g 0, xP_ g 0, xP_ (w.heap.size + 1 + 1) 3, xV_ (.int .u64 (finc : Int)), xP_ (w.heap.size + 1 + 1) 4, xV_ (.int .u64 (fconn : Int)), xP_ g 0, xP_ g 7, fun v _ => True, xP_ g 0, xP_ g 8, fun v _ => True] (fun xv => by simpa using HS8.out.drew) ?_ ?_
        ·refine EC 1 rfl (fun g h W F a b c d e H K f => ?_) ?_
         ·have f3 : F.tmps.getD 3 undef = .pointer (some ⟨w.heap.size, 0, none⟩) := (a 3).trans (by kernel_rfl); obtain ⟨_, hp⟩ := HP9 g W e; have k6_0 := cA (i := 6) hp rfl 0 rfl; clear H c b d a; refine oP rfl ?_; go_simp; exact f.out _ _ rfl trivial e
         refine EC 2 rfl (fun g h W F a b c d e H K f => ?_) ?_
         ·have f3 : F.tmps.getD 3 undef = .pointer (some ⟨w.heap.size, 0, none⟩) := (a 3).trans (by kernel_rfl); obtain ⟨_, hp⟩ := HP9 g W e; have k6_0 := cA (i := 6) hp rfl 0 rfl; clear H c b d a; refine oP rfl ?_; go_simp; exact f.out _ _ rfl trivial e
         refine Ep 3 5 (w.heap.size + 1 + 1) 0 ?_
         refine EC 4 rfl (fun g h W F a b c d e H K f => ?_) ?_
         ·have f93 := gE (a 93) (by kernel_rfl) (H 2) (by kernel_rfl); obtain ⟨_, hp⟩ := HP9 g W e; have k11_3 := cA (i := 11) hp rfl 3 rfl; clear H c b d a; refine oP rfl ?_; go_simp; exact f.out _ _ rfl trivial e
         refine Ep 5 5 (w.heap.size + 1 + 1) 0 ?_
         refine EC 6 rfl (fun g h W F a b c d e H K f => ?_) ?_
         ·have f95 := gE (a 95) (by kernel_rfl) (H 4) (by kernel_rfl); obtain ⟨_, hp⟩ := HP9 g W e; have k11_4 := cA (i := 11) hp rfl 4 rfl; clear H c b d a; refine oP rfl ?_; go_simp; exact f.out _ _ rfl trivial e
         refine Ee 7 91 0 ?_
         refine Ee 8 97 6 ?_
         refine EC 9 rfl (fun j k W F a b d e f H K h => ?_) ?_
         ·have f94 := gE (a 94) (by kernel_rfl) (H 3) (by kernel_rfl); have f98 := gE (a 98) (by kernel_rfl) (H 7) (by kernel_rfl); have q11 := d 11 uE; rw [if_neg (by simp [q11]), if_neg (by simp [b])] at f; have hS := f; clear f d b e a H; refine oP rfl ?_; have kk7 := cA (i := 7) hS rfl 7 rfl; have yy7 := cFz (i := 7) hS rfl 7; have hs : Sep w0 (W.setCell ⟨g, 7, none⟩ (.int .u64 (finc : Int))) (TKqF w now g q1 q0 X Qs kk ffr fto finc fconn pinc pconn ack seq A body.length c (Rw 51 10 (.slice none 0 0) 0 []) (Bods []) (Rw 49 4 vE mE yE) (Bods LBE) (#[.slice none 0 0, vE]) (#[.int .u64 0, .slice none 0 0, .int .u64 0, .int .i64 sn, .int .u64 (si : Int), .int .i64 peer, .int .u64 (conn : Int), .int .u64 (finc : Int), .int .u64 (known : Int), .bool false, .int .u64 (heard : Int), .int .u64 (sent : Int)]) (BoxT (.slice none 0 0) [])) := cS (i := 7) hS rfl 7 (.int .u64 (finc : Int)); go_simp; exact h.out undef _ trivial trivial (by simpa [upB, upd, q11] using hs)
         refine Ee 10 92 1 ?_
         refine Ee 11 99 9 ?_
         refine EC 12 rfl (fun j k W F a b d e f H K h => ?_) ?_
         ·have f96 := gE (a 96) (by kernel_rfl) (H 5) (by kernel_rfl); have f100 := gE (a 100) (by kernel_rfl) (H 10) (by kernel_rfl); have q8 := (H 8 uE).1; rw [if_neg (by simp [b]), if_pos q8] at f; have hS := f; clear f d b e a H; refine oP rfl ?_; have kk8 := cA (i := 7) hS rfl 8 rfl; have yy8 := cFz (i := 7) hS rfl 8; have hs : Sep w0 (W.setCell ⟨g, 8, none⟩ (.int .u64 (fconn : Int))) (TKqF w now g q1 q0 X Qs kk ffr fto finc fconn pinc pconn ack seq A body.length c (Rw 51 10 (.slice none 0 0) 0 []) (Bods []) (Rw 49 4 vE mE yE) (Bods LBE) (#[.slice none 0 0, vE]) (#[.int .u64 0, .slice none 0 0, .int .u64 0, .int .i64 sn, .int .u64 (si : Int), .int .i64 peer, .int .u64 (conn : Int), .int .u64 (finc : Int), .int .u64 (fconn : Int), .bool false, .int .u64 (heard : Int), .int .u64 (sent : Int)]) (BoxT (.slice none 0 0) [])) := cS (i := 7) hS rfl 8 (.int .u64 (fconn : Int)); go_simp; exact h.out undef _ trivial trivial (by simpa [upB, upd] using hs)
         exact EN
        ·intro dn xv W hI H; have qe : dn 11 = true := (H 11 (of_decide_eq_true (by kernel_rfl))).1; rw [if_pos qe] at hI; have hS := hI; clear H hI qe; simp only [putAll, Act.put, List.setIfInBounds_toArray, List.set_cons_zero, List.set_cons_succ, Nat.reduceAdd]; have HS9 := Lib.hid hS; clear hS
         go_wp2_with fail
         go_meet
         case rel =>
          refine ⟨.slice none 0 0, vE, .slice none 0 0, LE, Lib.hid rfl, ?_, ?_⟩
          ·rw [LS.take1E, HOTH.out, HLE.out, ← HSS.out]; simp
          ·rw [LS.turn, if_pos (by rw [HOTH.out]), ← HSS.out, ← HFF.out, HmE.out, HyE.out, HLB.out]; exact HS9.out
    case rest =>
       obtain ⟨vF, vE, bx2, LE, HVF, hLE, hS⟩ := hcut; have HLE := Lib.hid hLE; have hnt : (sS.turn fF).Num := HOS.out.turn fF; clear HS7 HOK Hp1 Hp2 Hp3 HOTH HLOOK HN4 hLE hcc hcm HSN HSS; clear base box got sn si peer conn inc known up heard sent BA bc; obtain ⟨t, Ht⟩ : ∃ t, Hid (sS.turn fF = t) := ⟨_, Lib.hid rfl⟩; rw [Ht.out] at hS hnt; obtain ⟨BA, bc, rfl, hcc, hcm, hbx⟩ := sep_boxForm (i := 8) hS rfl hnt.small; have HOT := Lib.hid hnt; obtain ⟨tT, HTT⟩ : ∃ x, Hid (t = x) := ⟨_, Lib.hid rfl⟩; have HOTT : Hid (tT.Num) := Lib.hid (by rw [← HTT.out]; exact hnt); rw [HTT.out] at Ht; obtain ⟨base, box, got, sn, si, peer, conn, inc, known, up, heard, sent⟩ := t; have hsn : sn ≠ 0 := hnt.sn; have HSN := Lib.hid hsn; have hbb : base + box.length ≤ 34359738367 := hnt.base; have hb48 : box.length ≤ 48 := hnt.box; have hgot : got ≤ 34359738367 := hnt.got; have HFIT : Hid (Fit box) := Lib.hid hnt.fit; obtain ⟨p4, Hp4⟩ : ∃ q, Hid ((!(decide (pinc = si) && decide (pconn = conn))) = q) := ⟨_, Lib.hid rfl⟩; have HKN : Hid ((sS.take1 now fF).knows fF = !p4) := Lib.hid (by
        rw [← Hp4.out, Bool.not_not, LS.take1, Ht.out, ← HTT.out, ← HFF.out]; rfl)
       obtain ⟨mE, HmE⟩ : ∃ x, Hid (LE.length = x) := ⟨_, Lib.hid rfl⟩; obtain ⟨yE, HyE⟩ : ∃ x, Hid (eR_ LE = x) := ⟨_, Lib.hid rfl⟩; obtain ⟨LBE, HLB⟩ : ∃ x, Hid (eB_ LE = x) := ⟨_, Lib.hid rfl⟩; have hmE : mE ≤ 1 := by
        have h1 := congrArg List.length HLE.out; rw [List.length_map, HmE.out] at h1; rw [h1, LS.take1E]; split <;> simp
       rw [HmE.out, HyE.out, HLB.out] at hS; have HS9 := Lib.hid (show Sep w0 wc (TKqF w now g q1 q0 X Qs kk ffr fto finc fconn pinc pconn ack seq A body.length c (Rw 51 10 vF 0 []) (Bods []) (Rw 49 4 vE mE yE) (Bods LBE) (#[vF, vE]) (#[.int .u64 (base : Int), .slice BA box.length bc, .int .u64 (got : Int), .int .i64 sn, .int .u64 (si : Int), .int .i64 peer, .int .u64 (conn : Int), .int .u64 (inc : Int), .int .u64 (known : Int), .bool up, .int .u64 (heard : Int), .int .u64 (sent : Int)]) (BoxT (.slice BA box.length bc) box)) from hS); clear hS hnt hsn hbx; have kl := cA (i := 6) HS9.out rfl 0 rfl; have kn := cA (i := 12) HS9.out rfl 0 rfl; have kh := cA (i := 7) HS9.out rfl 10 rfl; have yh := cFz (i := 7) HS9.out rfl 10; have HS10 := Lib.hid (show Sep w0 (wc.setCell ⟨g, 10, none⟩ (.int .u64 (now : Int))) (TKqF w now g q1 q0 X Qs kk ffr fto finc fconn pinc pconn ack seq A body.length c (Rw 51 10 vF 0 []) (Bods []) (Rw 49 4 vE mE yE) (Bods LBE) (#[vF, vE]) (#[.int .u64 (base : Int), .slice BA box.length bc, .int .u64 (got : Int), .int .i64 sn, .int .u64 (si : Int), .int .i64 peer, .int .u64 (conn : Int), .int .u64 (inc : Int), .int .u64 (known : Int), .bool up, .int .u64 (now : Int), .int .u64 (sent : Int)]) (BoxT (.slice BA box.length bc) box)) from cS (i := 7) HS9.out rfl 10 (.int .u64 (now : Int)))
       go_upto_region 11 with fail
       clear kl kn kh yh; have hp4 : p4 = false := by
        have h := HKN.out; rw [HKN0.out] at h; simpa using h
       subst hp4; have hpp : pinc = si ∧ pconn = conn := by
        have h := Hp4.out; simp only [Bool.not_eq_false', Bool.and_eq_true, decide_eq_true_eq] at h; exact h
       have e1 : ((pinc : Int) != (si : Int)) = false := by simp [hpp.1]
       have e2 : ((pconn : Int) != (conn : Int)) = false := by simp [hpp.2]
       clear hpp
       go_wp2_with fail
       refine wRG (fun dn xv W => Sep w0 W (TKqF w now g q1 q0 X Qs kk ffr fto finc fconn pinc pconn ack seq A body.length c (Rw 51 10 vF 0 []) (Bods []) (Rw 49 4 vE mE yE) (Bods LBE) (#[vF, vE]) (#[.int .u64 (base : Int), .slice BA box.length bc, .int .u64 (got : Int), .int .i64 sn, .int .u64 (si : Int), .int .i64 peer, .int .u64 (conn : Int), .int .u64 (inc : Int), .int .u64 (known : Int), .bool up, .int .u64 (now : Int), .int .u64 (sent : Int)]) (BoxT (.slice BA box.length bc) box))) (fun _ _ => True) [xP_ (w.heap.size + 1 + 1) 5, xV_ (.int .u64 (pinc : Int)), xP_ g 0, xP_ g 0, xP_ g 3, xP_ g 4, xV_ (.int .u64 (si : Int)), xV_ (.bool false), xV_ (.bool false), xP_ (w.heap.size + 1 + 1) 6, xV_ (.int .u64 (pconn : Int)), xP_ g 0, xP_ g 0, xP_ g 6, xV_ (.int .u64 (conn : Int)), xV_ (.bool false), xV_ (.bool false)] (fun xv => by simpa using HS10.out.drew) ?_ ?_
       ·refine Ep 1 5 (w.heap.size + 1 + 1) 0 ?_
        refine Eek 2 105 0 (fun _ _ _ e => cA (i := 11) e rfl 5 rfl) ?_
        refine Epk 3 3 w.heap.size 0 (fun _ _ _ e => cA (i := 6) e rfl 0 rfl) ?_
        refine Ee 4 107 2 ?_
        refine Ee 5 108 3 ?_
        refine Ee 6 109 4 ?_
        refine Eek 7 110 5 (fun _ _ _ e => cA (i := 7) e rfl 4 rfl) ?_
        refine Eee 8 106 1 111 6 ?_
        refine Ee 9 112 7 ?_
        refine Epeg 10 5 (w.heap.size + 1 + 1) 0 113 8 ?_
        refine Eeegk 11 114 9 113 8 (fun _ _ _ e => cA (i := 11) e rfl 6 rfl) ?_
        refine Epegk 12 3 w.heap.size 0 113 8 (fun _ _ _ e => cA (i := 6) e rfl 0 rfl) ?_
        refine Eeeg 13 116 11 113 8 ?_
        refine Eeeg 14 117 12 113 8 ?_
        refine Eeegk 15 118 13 113 8 (fun _ _ _ e => cA (i := 7) e rfl 6 rfl) ?_
        refine Eeeeg 16 115 10 119 14 113 8 ?_
        refine Eee 17 113 8 120 15 ?_
        exact EN
       ·intro dn xv W hI H; have q16 : xv 16 = .bool false := (H 16 (of_decide_eq_true (by kernel_rfl))).2; have hS : Sep w0 W (TKqF w now g q1 q0 X Qs kk ffr fto finc fconn pinc pconn ack seq A body.length c (Rw 51 10 vF 0 []) (Bods []) (Rw 49 4 vE mE yE) (Bods LBE) (#[vF, vE]) (#[.int .u64 (base : Int), .slice BA box.length bc, .int .u64 (got : Int), .int .i64 sn, .int .u64 (si : Int), .int .i64 peer, .int .u64 (conn : Int), .int .u64 (inc : Int), .int .u64 (known : Int), .bool up, .int .u64 (now : Int), .int .u64 (sent : Int)]) (BoxT (.slice BA box.length bc) box)) := hI; clear H hI; simp only [putAll, Act.put, List.setIfInBounds_toArray, List.set_cons_zero, List.set_cons_succ, Nat.reduceAdd, q16]; clear q16; have HS10' := Lib.hid hS; clear hS HS9 HS10 e1 e2; obtain ⟨wc, Hwc⟩ : ∃ x, Hid (W = x) := ⟨_, Lib.hid rfl⟩; rw [Hwc.out] at HS10' ⊢; have hS := HS10'.out; clear HS10'; have HS11 := Lib.hid hS; clear hS; have HHB : Hid (tT.helloBack fF = (decide (kk = 2) || !up)) := Lib.hid (by rw [← HTT.out, ← HFF.out]; rfl)
        have HT2 : Hid (tT.take2E = if up then [] else [tT.ev 1 []]) := Lib.hid (by rw [← HTT.out]; rfl); have kf := cA (v := .int .i64 kk) (i := 11) HS11.out rfl 0 rfl; have kl := cA (i := 6) HS11.out rfl 0 rfl; have ku := cA (v := .bool up) (i := 7) HS11.out rfl 9 rfl
        go_upto_if 137 with fail
        clear kf kl ku
        go_cut [9] from 130 to 142 (fun h9 wx => h9 = .bool (tT.helloBack fF) ∧ ∃ vE LE2, LE2.map Prod.fst = LE.map Prod.fst ++ tT.take2E ∧ Sep w0 wx (TKqF w now g q1 q0 X Qs kk ffr fto finc fconn pinc pconn ack seq A body.length c (Rw 51 10 vF 0 []) (Bods []) (Rw 49 4 vE LE2.length (eR_ LE2)) (Bods (eB_ LE2)) (#[vF, vE]) (#[.int .u64 (base : Int), .slice BA box.length bc, .int .u64 (got : Int), .int .i64 sn, .int .u64 (si : Int), .int .i64 peer, .int .u64 (conn : Int), .int .u64 (inc : Int), .int .u64 (known : Int), .bool true, .int .u64 (now : Int), .int .u64 (sent : Int)]) (BoxT (.slice BA box.length bc) box)))
        case first =>
         cases up with
         | true =>
          go_wp2_with fail
          go_meet
          case rel =>
           refine ⟨by rw [HHB.out]; simp only [Bool.not_true, Bool.or_false]; rfl, vE, LE, by rw [HT2.out]; simp, ?_⟩; rw [HmE.out, HyE.out, HLB.out]; exact HS11.out
         | false =>
          have kl := cA (i := 6) HS11.out rfl 0 rfl; have ku := cA (v := .bool false) (i := 7) HS11.out rfl 9 rfl; have yu := cFz (i := 7) HS11.out rfl 9; have HS12 := Lib.hid (show Sep w0 (wc.setCell ⟨g, 9, none⟩ (.bool true)) (TKqF w now g q1 q0 X Qs kk ffr fto finc fconn pinc pconn ack seq A body.length c (Rw 51 10 vF 0 []) (Bods []) (Rw 49 4 vE mE yE) (Bods LBE) (#[vF, vE]) (#[.int .u64 (base : Int), .slice BA box.length bc, .int .u64 (got : Int), .int .i64 sn, .int .u64 (si : Int), .int .i64 peer, .int .u64 (conn : Int), .int .u64 (inc : Int), .int .u64 (known : Int), .bool true, .int .u64 (now : Int), .int .u64 (sent : Int)]) (BoxT (.slice BA box.length bc) box)) from cS (i := 7) HS11.out rfl 9 (.bool true))
          go_wp2_with fail
          refine (tellTK 1 none 0 0 HS12.out HSN.out (by omega)).mono ?_; rintro e w17 ⟨rfl, vE3, h17⟩; have HS17 := Lib.hid (sep_bodsNone (i := 3) h17 rfl); clear h17 HS12
          go_wp2_with fail
          go_meet
          case rel =>
           refine ⟨by rw [HHB.out]; simp, vE3, LE ++ [(tT.ev 1 [], .slice none 0 0)], by rw [HT2.out, List.map_append]; rfl, ?_⟩; rw [List.length_append, evRow_snoc, evBods_snoc, HmE.out, HyE.out, HLB.out, ← HTT.out]; exact HS17.out
        case rest =>
         obtain ⟨rfl, vE2, LE2, hLE2, hS⟩ := hcut; have HLE2 := Lib.hid hLE2; have hmE2 : LE2.length ≤ 2 := by
          have h1 := congrArg List.length hLE2; rw [List.length_map, List.length_append, List.length_map, HmE.out, HT2.out] at h1; rw [h1]; split <;> simp <;> omega
         obtain ⟨hb9, Hhb⟩ : ∃ x, Hid (tT.helloBack fF = x) := ⟨_, Lib.hid rfl⟩; rw [Hhb.out]; clear HS11 HHB HT2 hLE2 HmE HyE HLB hmE; clear mE yE LBE vE; obtain ⟨vE, HvE⟩ : ∃ x, Hid (vE2 = x) := ⟨_, Lib.hid rfl⟩; obtain ⟨mE, HmE⟩ : ∃ x, Hid (LE2.length = x) := ⟨_, Lib.hid rfl⟩; obtain ⟨yE, HyE⟩ : ∃ x, Hid (eR_ LE2 = x) := ⟨_, Lib.hid rfl⟩; obtain ⟨LBE, HLB⟩ : ∃ x, Hid (eB_ LE2 = x) := ⟨_, Lib.hid rfl⟩; rw [HvE.out, HmE.out, HyE.out, HLB.out] at hS; rw [HmE.out] at hmE2; have HS18 := Lib.hid (show Sep w0 wc (TKqF w now g q1 q0 X Qs kk ffr fto finc fconn pinc pconn ack seq A body.length c (Rw 51 10 vF 0 []) (Bods []) (Rw 49 4 vE mE yE) (Bods LBE) (#[vF, vE]) (#[.int .u64 (base : Int), .slice BA box.length bc, .int .u64 (got : Int), .int .i64 sn, .int .u64 (si : Int), .int .i64 peer, .int .u64 (conn : Int), .int .u64 (inc : Int), .int .u64 (known : Int), .bool true, .int .u64 (now : Int), .int .u64 (sent : Int)]) (BoxT (.slice BA box.length bc) box)) from hS); clear hS; obtain ⟨la0, Hla⟩ : ∃ x, Hid (base + min box.length 8 = x) := ⟨_, Lib.hid rfl⟩; have hla : la0 ≤ 34359738367 := by have := Hla.out; omega
         have HLA := Lib.hid (fun (W : World) k0 k1 => show Calls Try.prog 41 #[.pointer (some ⟨g, 0, none⟩)] W (fun e w' => e = .returned (.int .u64 (la0 : Int)) ∧ Below W.heap.size W w') from by
          have hq := lastG W g base box.length bc BA (by omega) (by omega) k0 k1; rw [← Hla.out]
          push_cast at hq ⊢
          exact hq)
         go_wp2_with fail
         refine wRG (fun dn xv W => CellSt 28 (dn 7) (dn 9) (xv 7) w0 W (TKqF w now g q1 q0 X Qs kk ffr fto finc fconn pinc pconn ack seq A body.length c (Rw 51 10 vF 0 []) (Bods []) (Rw 49 4 vE mE yE) (Bods LBE) (#[vF, vE]) (#[.int .u64 (base : Int), .slice BA box.length bc, .int .u64 (got : Int), .int .i64 sn, .int .u64 (si : Int), .int .i64 peer, .int .u64 (conn : Int), .int .u64 (inc : Int), .int .u64 (known : Int), .bool true, .int .u64 (now : Int), .int .u64 (sent : Int)]) (BoxT (.slice BA box.length bc) box)) (.int .u64 (la0 : Int))) (fun _ _ => True) [xP_ g 0, xP_ g 0, xP_ g 0, xP_ g 0, xV_ (.int .u64 (base : Int)), xP_ g 0, xV_ (.int .u64 (la0 : Int)), fun v _ => True, xV_ (.int .u64 (base : Int)), fun v _ => True] (fun xv => by simpa [CellSt] using HS18.out.drew) ?_ ?_
         ·refine Epk 1 3 w.heap.size 0 (fun _ _ _ e => cA (i := 6) e.sep rfl 0 rfl) ?_
          refine Ee 2 143 0 ?_
          refine Ee 3 144 1 ?_
          refine Ee 4 145 2 ?_
          refine Eek 5 146 3 (fun _ _ _ e => cA (i := 7) e.sep rfl 0 rfl) ?_
          refine Epk 6 3 w.heap.size 0 (fun _ _ _ e => cA (i := 6) e.sep rfl 0 rfl) ?_
          refine EC 7 rfl (fun h j W F a b c d f H K g => ?_) ?_
          ·have f148 := gE (a 148) (by kernel_rfl) (H 5) (by kernel_rfl); clear H c b d a; refine oP rfl ?_; go_simp; refine (HLA.out W (cA (i := 7) f.sep rfl 0 rfl) (cA (i := 7) f.sep rfl 1 rfl)).mono ?_; rintro e W' ⟨rfl, hb⟩; exact g.out _ W' rfl trivial (by simpa [upB, upd] using f.grow hb)
          refine EC 8 rfl (fun g h W F a b c d e H K f => ?_) ?_
          ·have q9 := c 9 uE; rw [b, q9] at e; clear H c b d a; refine oP rfl ?_; go_simp; exact f.out _ _ trivial trivial (by simpa [upB, upd, q9] using e.made)
          refine Ee 9 147 4 ?_
          refine EC 10 rfl (fun g h W F a b c d e H K f => ?_) ?_
          ·have f11 : F.tmps.getD 11 undef = h 7 := (a 11).trans (by kernel_rfl); have f149 := gE (a 149) (by kernel_rfl) (H 6) (by kernel_rfl); have q7 := (H 7 uE).1; rw [q7, b] at e; obtain ⟨la, ela, hs9⟩ := e.have1; rw [ela] at f11; clear H c b d a; refine oP rfl ?_; have k0 := cA (i := 0) hs9 rfl 0 rfl; have y0 := cFz (i := 0) hs9 rfl 0; go_simp; exact f.out undef _ trivial trivial (by simpa [upB, upd, q7, ela] using (CellSt.put (d1 := true) (x := .int .u64 (la0 : Int)) hs9))
          exact EN
         ·intro dn xv W hI H; have q8 : xv 8 = .int .u64 (base : Int) := (H 8 (of_decide_eq_true (by kernel_rfl))).2; have hS : CellSt 28 (dn 7) (dn 9) (xv 7) w0 W (TKqF w now g q1 q0 X Qs kk ffr fto finc fconn pinc pconn ack seq A body.length c (Rw 51 10 vF 0 []) (Bods []) (Rw 49 4 vE mE yE) (Bods LBE) (#[vF, vE]) (#[.int .u64 (base : Int), .slice BA box.length bc, .int .u64 (got : Int), .int .i64 sn, .int .u64 (si : Int), .int .i64 peer, .int .u64 (conn : Int), .int .u64 (inc : Int), .int .u64 (known : Int), .bool true, .int .u64 (now : Int), .int .u64 (sent : Int)]) (BoxT (.slice BA box.length bc) box)) (.int .u64 (la0 : Int)) := hI; have qd : dn 9 = true := (H 9 (of_decide_eq_true (by kernel_rfl))).1; clear H hI; simp only [putAll, Act.put, List.setIfInBounds_toArray, List.set_cons_zero, List.set_cons_succ, Nat.reduceAdd, q8]; clear q8; rw [qd] at hS; obtain ⟨la, ela, hS9⟩ := hS.have2; rw [ela]; clear qd; have HS19 : Hid (Sep w0 W (TKlF w now g q1 q0 la la0 X Qs kk ffr fto finc fconn pinc pconn ack seq A body.length c (Rw 51 10 vF 0 []) (Bods []) (Rw 49 4 vE mE yE) (Bods LBE) (#[vF, vE]) (#[.int .u64 (base : Int), .slice BA box.length bc, .int .u64 (got : Int), .int .i64 sn, .int .u64 (si : Int), .int .i64 peer, .int .u64 (conn : Int), .int .u64 (inc : Int), .int .u64 (known : Int), .bool true, .int .u64 (now : Int), .int .u64 (sent : Int)]) (BoxT (.slice BA box.length bc) box))) := Lib.hid (((((((((((((hS9).tF 0 rfl).tF 11 rfl).tF 11 rfl).tF 11 rfl).tF 11 rfl).tF 11 rfl).tF 11 rfl).tF 11 rfl).tF 11 rfl).tF 11 rfl).tF 11 rfl).tF 11 rfl); clear hS hS9 ela HS18 HLA; obtain ⟨W19, HW19⟩ : ∃ x, Hid (W = x) := ⟨_, Lib.hid rfl⟩; rw [HW19.out] at HS19 ⊢; obtain ⟨base2, Hb2⟩ : ∃ x, Hid (ackV base box ack = x) := ⟨_, Lib.hid rfl⟩; obtain ⟨box2, HB2⟩ : ∃ x, Hid (ackL base box ack = x) := ⟨_, Lib.hid rfl⟩; obtain ⟨okA, HoA⟩ : ∃ x, Hid (ackB base box ack = x) := ⟨_, Lib.hid rfl⟩; have HT1N : Hid ((sS.take1 now fF).Num) := Lib.hid (HOS.out.take1 hnow fF); obtain ⟨uU, HUU⟩ : ∃ x, Hid (LS.mk base2 box2 got sn si peer conn inc known true now sent = x) := ⟨_, Lib.hid rfl⟩; have HU3 : Hid ((sS.take1 now fF).take3 fF = uU) := Lib.hid (by
           rw [← HUU.out, LS.take1, Ht.out, ← HTT.out, ← HFF.out, ← Hb2.out, ← HB2.out]; rfl)
          have HUN : Hid (uU.Num) := Lib.hid (by rw [← HU3.out]; exact HT1N.out.take3 fF); have HSM : Hid (∀ l ∈ box, l.length ≤ 140737488355328) := Lib.hid (fun l hl => by have := HFIT.out.2 l hl; omega); have HSM2 : Hid (∀ l ∈ box2, l.length ≤ 140737488355328) := Lib.hid (by have h := HUN.out.small; rw [← HUU.out] at h; exact h); have HACK := Lib.hid (fun (W : World) (hbx1 : Bx W W.heap.size BA box) => show Calls Try.prog 42 #[.agg #[.int .u64 (base : Int), .slice BA box.length bc], .int .u64 (ack : Int)] W (fun e W' => Below W.heap.size W W' ∧ ∃ v, e = .returned (.tuple #[.agg #[.int .u64 (base2 : Int), v], .bool okA]) ∧ OwnB W' W.heap.size v box2) from by
           rw [← Hb2.out, ← HB2.out, ← HoA.out]; exact acked_any W base ack BA bc box hbx1 (by omega) (by omega) HFIT.out hcc hcm)
          have HP20 : ∀ (dn : Nat → Bool) (xv : Nat → Value) (W : World), (if dn 13 = true then ExL w0 W (fun Au cu => (TKlF w now g q1 q0 la la0 X Qs kk ffr fto finc fconn pinc pconn ack seq A body.length c (Rw 51 10 vF 0 []) (Bods []) (Rw 49 4 vE mE yE) (Bods LBE) (#[vF, vE]) (#[.int .u64 (base2 : Int), .slice Au box2.length cu, .int .u64 (got : Int), .int .i64 sn, .int .u64 (si : Int), .int .i64 peer, .int .u64 (conn : Int), .int .u64 (inc : Int), .int .u64 (known : Int), .bool true, .int .u64 (now : Int), .int .u64 (sent : Int)]) (BoxT (.slice Au box2.length cu) box2))) else if dn 9 = true then AckSt2 (xv 9) w0 W base2 box2 (TKlF w now g q1 q0 la la0 X Qs kk ffr fto finc fconn pinc pconn ack seq A body.length c (Rw 51 10 vF 0 []) (Bods []) (Rw 49 4 vE mE yE) (Bods LBE) (#[vF, vE]) (#[.int .u64 (base : Int), .slice BA box.length bc, .int .u64 (got : Int), .int .i64 sn, .int .u64 (si : Int), .int .i64 peer, .int .u64 (conn : Int), .int .u64 (inc : Int), .int .u64 (known : Int), .bool true, .int .u64 (now : Int), .int .u64 (sent : Int)]) (BoxT (.slice BA box.length bc) box)) else if dn 8 = true then AckSt (xv 8) w0 W base2 okA box2 (TKlF w now g q1 q0 la la0 X Qs kk ffr fto finc fconn pinc pconn ack seq A body.length c (Rw 51 10 vF 0 []) (Bods []) (Rw 49 4 vE mE yE) (Bods LBE) (#[vF, vE]) (#[.int .u64 (base : Int), .slice BA box.length bc, .int .u64 (got : Int), .int .i64 sn, .int .u64 (si : Int), .int .i64 peer, .int .u64 (conn : Int), .int .u64 (inc : Int), .int .u64 (known : Int), .bool true, .int .u64 (now : Int), .int .u64 (sent : Int)]) (BoxT (.slice BA box.length bc) box)) else if dn 7 = true then AckSt (xv 7) w0 W base2 okA box2 (TKlF w now g q1 q0 la la0 X Qs kk ffr fto finc fconn pinc pconn ack seq A body.length c (Rw 51 10 vF 0 []) (Bods []) (Rw 49 4 vE mE yE) (Bods LBE) (#[vF, vE]) (#[.int .u64 (base : Int), .slice BA box.length bc, .int .u64 (got : Int), .int .i64 sn, .int .u64 (si : Int), .int .i64 peer, .int .u64 (conn : Int), .int .u64 (inc : Int), .int .u64 (known : Int), .bool true, .int .u64 (now : Int), .int .u64 (sent : Int)]) (BoxT (.slice BA box.length bc) box)) else Sep w0 W (TKlF w now g q1 q0 la la0 X Qs kk ffr fto finc fconn pinc pconn ack seq A body.length c (Rw 51 10 vF 0 []) (Bods []) (Rw 49 4 vE mE yE) (Bods LBE) (#[vF, vE]) (#[.int .u64 (base : Int), .slice BA box.length bc, .int .u64 (got : Int), .int .i64 sn, .int .u64 (si : Int), .int .i64 peer, .int .u64 (conn : Int), .int .u64 (inc : Int), .int .u64 (known : Int), .bool true, .int .u64 (now : Int), .int .u64 (sent : Int)]) (BoxT (.slice BA box.length bc) box))) → ∃ cs bt, Sep w0 W (TKlF w now g q1 q0 la la0 X Qs kk ffr fto finc fconn pinc pconn ack seq A body.length c (Rw 51 10 vF 0 []) (Bods []) (Rw 49 4 vE mE yE) (Bods LBE) (#[vF, vE]) (cs) (bt)) := fun dn xv W h => by
           split at h
           ·obtain ⟨_, _, h⟩ := h; exact ⟨_, _, h⟩
           split at h
           ·obtain ⟨_, _, h⟩ := h; exact ⟨_, _, h.popF⟩
           split at h
           ·obtain ⟨_, _, h⟩ := h; exact ⟨_, _, h.popF⟩
           split at h
           ·obtain ⟨_, _, h⟩ := h; exact ⟨_, _, h.popF⟩
           exact ⟨_, _, h⟩
          go_wp2_with fail
          refine wRG (fun dn xv W => if dn 13 = true then ExL w0 W (fun Au cu => (TKlF w now g q1 q0 la la0 X Qs kk ffr fto finc fconn pinc pconn ack seq A body.length c (Rw 51 10 vF 0 []) (Bods []) (Rw 49 4 vE mE yE) (Bods LBE) (#[vF, vE]) (#[.int .u64 (base2 : Int), .slice Au box2.length cu, .int .u64 (got : Int), .int .i64 sn, .int .u64 (si : Int), .int .i64 peer, .int .u64 (conn : Int), .int .u64 (inc : Int), .int .u64 (known : Int), .bool true, .int .u64 (now : Int), .int .u64 (sent : Int)]) (BoxT (.slice Au box2.length cu) box2))) else if dn 9 = true then AckSt2 (xv 9) w0 W base2 box2 (TKlF w now g q1 q0 la la0 X Qs kk ffr fto finc fconn pinc pconn ack seq A body.length c (Rw 51 10 vF 0 []) (Bods []) (Rw 49 4 vE mE yE) (Bods LBE) (#[vF, vE]) (#[.int .u64 (base : Int), .slice BA box.length bc, .int .u64 (got : Int), .int .i64 sn, .int .u64 (si : Int), .int .i64 peer, .int .u64 (conn : Int), .int .u64 (inc : Int), .int .u64 (known : Int), .bool true, .int .u64 (now : Int), .int .u64 (sent : Int)]) (BoxT (.slice BA box.length bc) box)) else if dn 8 = true then AckSt (xv 8) w0 W base2 okA box2 (TKlF w now g q1 q0 la la0 X Qs kk ffr fto finc fconn pinc pconn ack seq A body.length c (Rw 51 10 vF 0 []) (Bods []) (Rw 49 4 vE mE yE) (Bods LBE) (#[vF, vE]) (#[.int .u64 (base : Int), .slice BA box.length bc, .int .u64 (got : Int), .int .i64 sn, .int .u64 (si : Int), .int .i64 peer, .int .u64 (conn : Int), .int .u64 (inc : Int), .int .u64 (known : Int), .bool true, .int .u64 (now : Int), .int .u64 (sent : Int)]) (BoxT (.slice BA box.length bc) box)) else if dn 7 = true then AckSt (xv 7) w0 W base2 okA box2 (TKlF w now g q1 q0 la la0 X Qs kk ffr fto finc fconn pinc pconn ack seq A body.length c (Rw 51 10 vF 0 []) (Bods []) (Rw 49 4 vE mE yE) (Bods LBE) (#[vF, vE]) (#[.int .u64 (base : Int), .slice BA box.length bc, .int .u64 (got : Int), .int .i64 sn, .int .u64 (si : Int), .int .i64 peer, .int .u64 (conn : Int), .int .u64 (inc : Int), .int .u64 (known : Int), .bool true, .int .u64 (now : Int), .int .u64 (sent : Int)]) (BoxT (.slice BA box.length bc) box)) else Sep w0 W (TKlF w now g q1 q0 la la0 X Qs kk ffr fto finc fconn pinc pconn ack seq A body.length c (Rw 51 10 vF 0 []) (Bods []) (Rw 49 4 vE mE yE) (Bods LBE) (#[vF, vE]) (#[.int .u64 (base : Int), .slice BA box.length bc, .int .u64 (got : Int), .int .i64 sn, .int .u64 (si : Int), .int .i64 peer, .int .u64 (conn : Int), .int .u64 (inc : Int), .int .u64 (known : Int), .bool true, .int .u64 (now : Int), .int .u64 (sent : Int)]) (BoxT (.slice BA box.length bc) box))) (fun _ _ => True) [xP_ g 0, xP_ g 0, xP_ g 0, xP_ g 0, xV_ (.agg #[.int .u64 (base : Int), .slice BA box.length bc]), xP_ (w.heap.size + 1 + 1) 7, xV_ (.int .u64 (ack : Int)), fun v _ => ∃ u, v = .tuple #[.agg #[.int .u64 (base2 : Int), u], .bool okA], fun v _ => ∃ u, v = .tuple #[.agg #[.int .u64 (base2 : Int), u], .bool okA], fun v _ => True, xV_ (.bool okA), xP_ g 0, xP_ g 0, fun v _ => True] (fun xv => by simpa using HS19.out.drew) ?_ ?_
          ·refine EC 1 rfl (fun g h W F a b c d e H K f => ?_) ?_
           ·have f3 : F.tmps.getD 3 undef = .pointer (some ⟨w.heap.size, 0, none⟩) := (a 3).trans (by kernel_rfl); obtain ⟨_, _, hp⟩ := HP20 g h W e; have k6_0 := cA (i := 6) hp rfl 0 rfl; clear H c b d a; refine oP rfl ?_; go_simp; exact f.out _ _ rfl trivial e
           refine EC 2 rfl (fun g h W F a b c d e H K f => ?_) ?_
           ·have f3 : F.tmps.getD 3 undef = .pointer (some ⟨w.heap.size, 0, none⟩) := (a 3).trans (by kernel_rfl); obtain ⟨_, _, hp⟩ := HP20 g h W e; have k6_0 := cA (i := 6) hp rfl 0 rfl; clear H c b d a; refine oP rfl ?_; go_simp; exact f.out _ _ rfl trivial e
           refine Ee 3 152 1 ?_
           refine Ee 4 153 2 ?_
           refine EC 5 rfl (fun k l W F a b d e f H K h => ?_) ?_
           ·have f154 := gE (a 154) (by kernel_rfl) (H 3) (by kernel_rfl); have q7 := d 7 uE; have q8 := d 8 (uM 7 uE); have q9 := d 9 (uM 8 (uM 7 uE)); have q13 := d 13 (uM 9 (uM 8 (uM 7 uE))); have hI0 : Sep w0 W (TKlF w now g q1 q0 la la0 X Qs kk ffr fto finc fconn pinc pconn ack seq A body.length c (Rw 51 10 vF 0 []) (Bods []) (Rw 49 4 vE mE yE) (Bods LBE) (#[vF, vE]) (#[.int .u64 (base : Int), .slice BA box.length bc, .int .u64 (got : Int), .int .i64 sn, .int .u64 (si : Int), .int .i64 peer, .int .u64 (conn : Int), .int .u64 (inc : Int), .int .u64 (known : Int), .bool true, .int .u64 (now : Int), .int .u64 (sent : Int)]) (BoxT (.slice BA box.length bc) box)) := by simpa [q7, q8, q9, q13] using f
            have kg0 := cA (v := .int .u64 (base : Int)) (i := 7) hI0 rfl 0 rfl; have kg1 := cA (v := .slice BA box.length bc) (i := 7) hI0 rfl 1 rfl; clear hI0; clear H d b e a; refine oP rfl ?_; go_simp; exact h.out _ _ rfl trivial f
           refine Ep 6 5 (w.heap.size + 1 + 1) 0 ?_
           refine EC 7 rfl (fun g h W F a b c d e H K f => ?_) ?_
           ·have f156 := gE (a 156) (by kernel_rfl) (H 5) (by kernel_rfl); obtain ⟨_, _, hp⟩ := HP20 g h W e; have k12_7 := cA (i := 12) hp rfl 7 rfl; clear H c b d a; refine oP rfl ?_; go_simp; exact f.out _ _ rfl trivial e
           refine EC 8 rfl (fun l m W F a b d f h H K k => ?_) ?_
           ·have f155 := gE (a 155) (by kernel_rfl) (H 4) (by kernel_rfl); have f157 := gE (a 157) (by kernel_rfl) (H 6) (by kernel_rfl); have q8 := d 8 uE; have q9 := d 9 (uM 8 uE); have q13 := d 13 (uM 9 (uM 8 uE)); rw [if_neg (by simp [q13]), if_neg (by simp [q9]), if_neg (by simp [q8]), if_neg (by simp [b])] at h; have hS := h; clear h d b f a H; refine oP rfl ?_; obtain ⟨_, hc1, hc2, hbx1⟩ := sep_boxBx (i := 8) hS rfl HSM.out; go_simp; refine (HACK.out W hbx1).mono ?_; rintro e W' ⟨hb, u, rfl, ho⟩; have hs : AckSt (.tuple #[.agg #[.int .u64 (base2 : Int), u], .bool okA]) w0 W' base2 okA box2 (TKlF w now g q1 q0 la la0 X Qs kk ffr fto finc fconn pinc pconn ack seq A body.length c (Rw 51 10 vF 0 []) (Bods []) (Rw 49 4 vE mE yE) (Bods LBE) (#[vF, vE]) (#[.int .u64 (base : Int), .slice BA box.length bc, .int .u64 (got : Int), .int .i64 sn, .int .u64 (si : Int), .int .i64 peer, .int .u64 (conn : Int), .int .u64 (inc : Int), .int .u64 (known : Int), .bool true, .int .u64 (now : Int), .int .u64 (sent : Int)]) (BoxT (.slice BA box.length bc) box)) := ⟨u, rfl, sep_boxNew hS hb ho⟩; exact k.out _ W' ⟨u, rfl⟩ trivial (by simpa [upB, upd, q8, q9, q13] using hs)
           refine EC 9 rfl (fun g h W F a b c d e H K f => ?_) ?_
           ·have h7 := (H 7 uE).2; simp only [Dl] at h7; have f158 : F.tmps.getD 158 undef = h 7 := (a 158).trans (by kernel_rfl); have q7 := (H 7 uE).1; have q9 := c 9 uE; have q13 := c 13 (uM 9 uE); rw [if_neg (by simp [q13]), if_neg (by simp [q9]), if_neg (by simp [b]), if_pos q7] at e; have hS := e; clear e c b d a H; refine oP rfl ?_; go_simp; have hs := hS; exact f.out _ W h7 trivial (by simpa [upB, upd, q9, q13] using hs)
           refine EC 10 rfl (fun i j W F a b d e f H K h => ?_) ?_
           ·have f150 : F.tmps.getD 150 undef = j 8 := (a 150).trans (by kernel_rfl); have q8 := (H 8 uE).1; have q13 := d 13 uE; rw [if_neg (by simp [q13]), if_neg (by simp [b]), if_pos q8] at f; have hS := f; clear f d b e a H; refine oP rfl ?_; obtain ⟨u, e2, hS⟩ := hS; rw [e2] at f150; go_simp; have hs : AckSt2 (.agg #[.int .u64 (base2 : Int), u]) w0 W base2 box2 (TKlF w now g q1 q0 la la0 X Qs kk ffr fto finc fconn pinc pconn ack seq A body.length c (Rw 51 10 vF 0 []) (Bods []) (Rw 49 4 vE mE yE) (Bods LBE) (#[vF, vE]) (#[.int .u64 (base : Int), .slice BA box.length bc, .int .u64 (got : Int), .int .i64 sn, .int .u64 (si : Int), .int .i64 peer, .int .u64 (conn : Int), .int .u64 (inc : Int), .int .u64 (known : Int), .bool true, .int .u64 (now : Int), .int .u64 (sent : Int)]) (BoxT (.slice BA box.length bc) box)) := ⟨u, rfl, hS⟩; exact h.out _ W trivial trivial (by simpa [upB, upd, q13] using hs)
           refine EC 11 rfl (fun g h W F a b c d e H K f => ?_) ?_
           ·have h8 := (H 8 uE).2; simp only [Dl] at h8; have f150 : F.tmps.getD 150 undef = h 8 := (a 150).trans (by kernel_rfl); obtain ⟨u, ev⟩ := h8; rw [ev] at f150; clear H c b d a; refine oP rfl ?_; go_simp; exact f.out _ _ rfl trivial e
           refine Ee 12 151 0 ?_
           refine Ee 13 161 11 ?_
           refine EC 14 rfl (fun j k W F a b d e f H K h => ?_) ?_
           ·have f159 : F.tmps.getD 159 undef = k 9 := (a 159).trans (by kernel_rfl); have f162 := gE (a 162) (by kernel_rfl) (H 12) (by kernel_rfl); have q9 := (H 9 uE).1; rw [if_neg (by simp [b]), if_pos q9] at f; have hS := f; clear f d b e a H; refine oP rfl ?_; obtain ⟨u, e2, hS⟩ := hS; obtain ⟨Au, cu, rfl, _⟩ := sep_boxForm (i := 0) hS rfl HSM2.out; rw [e2] at f159; have hc0 := cA (i := 8) hS rfl 0 rfl; have hc1 := cA (i := 8) hS rfl 1 rfl; have hf0 := cFz (i := 8) hS rfl 0; have hf1 := cFz (i := 8) hS rfl 1; have hs0 := (cS (i := 8) (cS (i := 8) hS rfl 0 (.int .u64 (base2 : Int))) rfl 1 (.slice Au box2.length cu)).drop 9; have hs : ExL w0 ((W.setCell ⟨g, 0, none⟩ (.int .u64 (base2 : Int))).setCell ⟨g, 1, none⟩ (.slice Au box2.length cu)) (fun Au cu => (TKlF w now g q1 q0 la la0 X Qs kk ffr fto finc fconn pinc pconn ack seq A body.length c (Rw 51 10 vF 0 []) (Bods []) (Rw 49 4 vE mE yE) (Bods LBE) (#[vF, vE]) (#[.int .u64 (base2 : Int), .slice Au box2.length cu, .int .u64 (got : Int), .int .i64 sn, .int .u64 (si : Int), .int .i64 peer, .int .u64 (conn : Int), .int .u64 (inc : Int), .int .u64 (known : Int), .bool true, .int .u64 (now : Int), .int .u64 (sent : Int)]) (BoxT (.slice Au box2.length cu) box2))) := ⟨Au, cu, (((((((((hs0).tF 0 rfl).tF 8 rfl).tF 8 rfl).tF 8 rfl).tF 8 rfl).tF 8 rfl).tF 8 rfl).tF 8 rfl).tF 8 rfl⟩; clear hs0; go_simp; exact h.out undef _ trivial trivial (by simpa [upB, upd] using hs)
           exact EN
          ·intro dn xv W hI H; have qe : dn 13 = true := (H 13 (of_decide_eq_true (by kernel_rfl))).1; rw [if_pos qe] at hI; have hS := hI; clear H hI qe; simp only [putAll, Act.put, List.setIfInBounds_toArray, List.set_cons_zero, List.set_cons_succ, Nat.reduceAdd]; obtain ⟨Au, cu, hS⟩ := hS; have HS20 := Lib.hid hS; clear hS HP20 HACK HS19; obtain ⟨W20, HW20⟩ : ∃ x, Hid (W = x) := ⟨_, Lib.hid rfl⟩; rw [HW20.out] at HS20 ⊢; have HTKN : Hid (uU.taken fF = (decide (kk = 2) && takeB got seq)) := Lib.hid (by rw [← HUU.out, ← HFF.out]; rfl); obtain ⟨tb, Htb⟩ : ∃ x, Hid (takeB got seq = x) := ⟨_, Lib.hid rfl⟩; obtain ⟨tv, Htv0⟩ : ∃ x, Hid (takeV got seq = x) := ⟨_, Lib.hid rfl⟩; have Htv : Hid (tb = true → tv = seq) := Lib.hid (fun h => by rw [← Htv0.out, takeV, Htb.out, h]; rfl); have HTK := Lib.hid (fun (W : World) => show Calls Try.prog 43 #[.agg #[.int .u64 (got : Int)], .int .u64 (seq : Int)] W (fun e W' => e = .returned (.tuple #[.agg #[.int .u64 (tv : Int)], .bool tb]) ∧ Below W.heap.size W W') from by
            rw [← Htb.out, ← Htv0.out]; exact take_any W got seq (by omega) hseq)
           have kf := cA (v := .int .i64 kk) (i := 12) HS20.out rfl 0 rfl
           go_upto_if 165 with fail
           clear kf
           go_cut [] from 163 to 185 (fun wx => ∃ vE LE3 bx3, LE3.map Prod.fst = LE2.map Prod.fst ++ uU.take4E fF ∧ Sep w0 wx (TKlF w now g q1 q0 la la0 X Qs kk ffr fto finc fconn pinc pconn ack seq A body.length c (Rw 51 10 vF 0 []) (Bods []) (Rw 49 4 vE LE3.length (eR_ LE3)) (Bods (eB_ LE3)) (#[vF, vE]) ((uU.take4 fF).cells bx3) (BoxT bx3 (uU.take4 fF).box)))
           case first =>
            by_cases hk2 : kk = 2
            ·have ek : (kk == 2) = true := by simp [hk2]
             have Hk2 := Lib.hid hk2; clear hk2
             go_wp2_with fail
             refine wRG (fun dn xv W => CellSt 70 (dn 10) (dn 11) (xv 10) w0 W (TKlF w now g q1 q0 la la0 X Qs kk ffr fto finc fconn pinc pconn ack seq A body.length c (Rw 51 10 vF 0 []) (Bods []) (Rw 49 4 vE mE yE) (Bods LBE) (#[vF, vE]) (#[.int .u64 (base2 : Int), .slice Au box2.length cu, .int .u64 (got : Int), .int .i64 sn, .int .u64 (si : Int), .int .i64 peer, .int .u64 (conn : Int), .int .u64 (inc : Int), .int .u64 (known : Int), .bool true, .int .u64 (now : Int), .int .u64 (sent : Int)]) (BoxT (.slice Au box2.length cu) box2)) (.int .u64 (tv : Int))) (fun _ _ => True) [xP_ g 0, xP_ g 0, xP_ g 2, xV_ (.agg #[.int .u64 (got : Int)]), xP_ (w.heap.size + 1 + 1) 8, xV_ (.int .u64 (seq : Int)), xV_ (.tuple #[.agg #[.int .u64 (tv : Int)], .bool tb]), xV_ (.tuple #[.agg #[.int .u64 (tv : Int)], .bool tb]), xV_ (.agg #[.int .u64 (tv : Int)]), xV_ (.bool tb), fun v _ => True, fun v _ => True, xV_ (.bool tb)] (fun xv => by simpa [CellSt] using HS20.out.drew) ?_ ?_
             ·refine Epk 1 3 w.heap.size 0 (fun _ _ _ e => cA (i := 6) e.sep rfl 0 rfl) ?_
              refine Ee 2 167 0 ?_
              refine Ee 3 168 1 ?_
              refine Eek 4 169 2 (fun _ _ _ e => cA (i := 7) e.sep rfl 2 rfl) ?_
              refine Ep 5 5 (w.heap.size + 1 + 1) 0 ?_
              refine Eek 6 171 4 (fun _ _ _ e => cA (i := 12) e.sep rfl 8 rfl) ?_
              refine EC 7 rfl (fun h i W F a b c d f H K g => ?_) ?_
              ·have f170 := gE (a 170) (by kernel_rfl) (H 3) (by kernel_rfl); have f172 := gE (a 172) (by kernel_rfl) (H 5) (by kernel_rfl); clear H c b d a; refine oP rfl ?_; go_simp; refine (HTK.out W).mono ?_; rintro e W' ⟨rfl, hb⟩; exact g.out _ W' rfl trivial (by simpa [upB, upd] using f.grow hb)
              refine Ee 8 173 6 ?_
              refine Ee 9 166 7 ?_
              refine Ee 10 166 7 ?_
              refine EC 11 rfl (fun g h W F a b c d e H K f => ?_) ?_
              ·have q11 := c 11 uE; rw [b, q11] at e; clear H c b d a; refine oP rfl ?_; go_simp; exact f.out _ _ trivial trivial (by simpa [upB, upd, q11] using e.made)
              refine EC 12 rfl (fun g h W F a b c d e H K f => ?_) ?_
              ·have f12 : F.tmps.getD 12 undef = h 10 := (a 12).trans (by kernel_rfl); have f174 := gE (a 174) (by kernel_rfl) (H 8) (by kernel_rfl); have q10 := (H 10 uE).1; rw [q10, b] at e; obtain ⟨ra, era, hs9⟩ := e.have1; rw [era] at f12; clear H c b d a; refine oP rfl ?_; have k0 := cA (i := 0) hs9 rfl 0 rfl; have y0 := cFz (i := 0) hs9 rfl 0; go_simp; exact f.out undef _ trivial trivial (by simpa [upB, upd, q10, era] using (CellSt.put (d1 := true) (x := .int .u64 (tv : Int)) hs9))
              refine Ee 13 175 9 ?_
              exact EN
             ·intro dn xv W hI H; have q12 : xv 12 = .bool tb := (H 12 (of_decide_eq_true (by kernel_rfl))).2; have hS : CellSt 70 (dn 10) (dn 11) (xv 10) w0 W (TKlF w now g q1 q0 la la0 X Qs kk ffr fto finc fconn pinc pconn ack seq A body.length c (Rw 51 10 vF 0 []) (Bods []) (Rw 49 4 vE mE yE) (Bods LBE) (#[vF, vE]) (#[.int .u64 (base2 : Int), .slice Au box2.length cu, .int .u64 (got : Int), .int .i64 sn, .int .u64 (si : Int), .int .i64 peer, .int .u64 (conn : Int), .int .u64 (inc : Int), .int .u64 (known : Int), .bool true, .int .u64 (now : Int), .int .u64 (sent : Int)]) (BoxT (.slice Au box2.length cu) box2)) (.int .u64 (tv : Int)) := hI; have qd : dn 11 = true := (H 11 (of_decide_eq_true (by kernel_rfl))).1; clear H hI; simp only [putAll, Act.put, List.setIfInBounds_toArray, List.set_cons_zero, List.set_cons_succ, Nat.reduceAdd, q12]; clear q12; rw [qd] at hS; obtain ⟨ra, era, hS9⟩ := hS.have2; rw [era]; clear qd; have HS22 : Hid (Sep w0 W (TKrF w now g q1 q0 la la0 ra tv X Qs kk ffr fto finc fconn pinc pconn ack seq A body.length c (Rw 51 10 vF 0 []) (Bods []) (Rw 49 4 vE mE yE) (Bods LBE) (#[vF, vE]) (#[.int .u64 (base2 : Int), .slice Au box2.length cu, .int .u64 (got : Int), .int .i64 sn, .int .u64 (si : Int), .int .i64 peer, .int .u64 (conn : Int), .int .u64 (inc : Int), .int .u64 (known : Int), .bool true, .int .u64 (now : Int), .int .u64 (sent : Int)]) (BoxT (.slice Au box2.length cu) box2))) := Lib.hid ((((((((((((((hS9).tF 0 rfl).tF 12 rfl).tF 12 rfl).tF 12 rfl).tF 12 rfl).tF 12 rfl).tF 12 rfl).tF 12 rfl).tF 12 rfl).tF 12 rfl).tF 12 rfl).tF 12 rfl).tF 12 rfl); clear hS hS9 era; obtain ⟨W22, HW22⟩ : ∃ x, Hid (W = x) := ⟨_, Lib.hid rfl⟩; rw [HW22.out] at HS22 ⊢; cases tb with
              | false =>
               go_wp2_with fail
               go_meet
               case rel =>
                have htk : uU.taken fF = false := by rw [HTKN.out, Htb.out, Bool.and_false]
                refine ⟨vE, LE2, .slice Au box2.length cu, by rw [LS.take4E, htk]; simp, ?_⟩; rw [LS.take4, htk, HmE.out, HyE.out, HLB.out, ← HUU.out]; exact HS22.out.drop 12
              | true =>
               have kl := cA (i := 6) HS22.out rfl 0 rfl; have kr := cA (i := 12) HS22.out rfl 0 rfl; have k2 := cA (i := 7) HS22.out rfl 2 rfl; have y2 := cFz (i := 7) HS22.out rfl 2; have kb := cA (v := .slice A body.length c) (i := 13) HS22.out rfl 9 rfl; have HS24 := Lib.hid (cS (i := 7) HS22.out rfl 2 (.int .u64 (tv : Int))); have kl' := cA (i := 6) HS24.out rfl 0 rfl; have kb' := cA (v := .slice A body.length c) (i := 13) HS24.out rfl 9 rfl
               go_wp2_with fail
               refine (clone_any _ _ A c body (sep_reads (i := 15) HS24.out rfl HX.out) (Nat.le_refl _) (by omega)).mono ?_; rintro e w25 ⟨v5, rfl, ho5, hb5⟩; obtain ⟨Av, cv, rfl, _⟩ := ho5.form; have HS25 := Lib.hid (sep_bodsAdd (i := 3) HS24.out rfl hb5 ho5); clear ho5 hb5
               go_wp2_with fail
               refine (tellTK (Qs := Ce la 28 #[.int .u64 (la0 : Int)] :: Ce ra 70 #[.int .u64 (tv : Int)] :: Ce (w.heap.size + 1 + 1) 51 #[.int .i64 kk, .int .i64 ffr, .int .i64 fto, .int .u64 (finc : Int), .int .u64 (fconn : Int), .int .u64 (pinc : Int), .int .u64 (pconn : Int), .int .u64 (ack : Int), .int .u64 (seq : Int), .slice A body.length c] :: Ce (w.heap.size + 1) 28 #[.int .u64 (now : Int)] :: X :: Qs) (base := base2) (got := tv) (vF := vF) (vE := vE) (m := mE) (ys := yE) (sn := sn) (si := si) (peer := peer) (conn := conn) (inc := inc) (known := known) (up := true) (heard := now) (sent := sent) (bx := .slice Au box2.length cu) 3 Av body.length cv HS25.out HSN.out (by omega)).mono ?_; rintro e w26 ⟨rfl, vE3, h26⟩; have HS26 := Lib.hid h26; clear h26
               go_wp2_with fail
               go_meet
               case rel =>
                have htk : uU.taken fF = true := by rw [HTKN.out, Htb.out, decide_eq_true Hk2.out]; rfl
                refine ⟨vE3, LE2 ++ [(uU.ev 3 body, .slice Av body.length cv)], .slice Au box2.length cu, by rw [LS.take4E, htk, List.map_append, ← HFF.out]; rfl, ?_⟩; rw [LS.take4, htk, List.length_append, evRow_snoc, evBods_snoc, HmE.out, HyE.out, HLB.out, ← HUU.out]; have hx := HS26.out.drop 12; rw [Htv.out (by trivial)] at hx; rw [← HFF.out]; exact hx
            ·have ek : (kk == 2) = false := by simp [hk2]
             have Hk2 := Lib.hid hk2; clear hk2
             go_wp2_with fail
             go_meet
             case rel =>
              have htk : uU.taken fF = false := by rw [HTKN.out, decide_eq_false Hk2.out, Bool.false_and]
              refine ⟨vE, LE2, .slice Au box2.length cu, by rw [LS.take4E, htk]; simp, ?_⟩; rw [LS.take4, htk, HmE.out, HyE.out, HLB.out, ← HUU.out]; exact HS20.out
           case rest =>
            obtain ⟨vE3, LE3, bx3, hLE3, hS⟩ := hcut; have HVN : Hid ((uU.take4 fF).Num) := Lib.hid (HUN.out.take4 fF); obtain ⟨vV, HVV⟩ : ∃ x, Hid (uU.take4 fF = x) := ⟨_, Lib.hid rfl⟩; have HE5 : Hid (LE3.map Prod.fst = sS.takeE now fF) := Lib.hid (by
             rw [LS.takeE, if_pos HLK.out]; simp only; rw [if_pos (by rw [HKN.out]; rfl), HU3.out, hLE3, HLE2.out, HLE.out, List.append_assoc, LS.take1, Ht.out]; rfl)
            have HF5 : Hid (sS.takeF now fF = (if vV.base ≤ base then [] else (vV.fresh la0).map vV.data) ++ (if hb9 then [vV.hello] else [])) := Lib.hid (by
             rw [LS.takeF, if_pos HLK.out]; simp only; rw [if_pos (by rw [HKN.out]; rfl), LS.take5F]; rw [HU3.out, HVV.out, ← Hhb.out, LS.take1, Ht.out, ← HTT.out, ← Hla.out]; rfl)
            have HS5 : Hid (sS.take now fF = if vV.fresh la0 = [] ∨ vV.base ≤ base then vV else { vV with sent := now }) := Lib.hid (by
             rw [LS.take, if_pos HLK.out]; simp only; rw [if_pos (by rw [HKN.out]; rfl), LS.take5]; rw [HU3.out, HVV.out, LS.take1, Ht.out, ← HTT.out, ← Hla.out]; rfl)
            have hvn := HVN.out; rw [HVV.out] at hvn hS; have hbase : base ≤ 34359738367 := by omega
            rw [HVF.out] at hS; clear HOS HOT HTT HOTT HSN hbb hb48 hgot HFIT Hp4 HKN HLE HLE2 hmE2 Hhb HvE HmE HyE HLB Hla Hb2 HB2 HoA HT1N HUU HU3 HUN HSM HSM2 HS20 HTKN Htb Htv0 Htv HTK hcc hcm Ht HLK HBL hLE3 HVN HVV; clear mE yE LBE vE; obtain ⟨BA, bc, rfl, hcc, hcm, _⟩ := sep_boxForm (i := 8) hS rfl hvn.small; obtain ⟨mE, HmE⟩ : ∃ x, Hid (LE3.length = x) := ⟨_, Lib.hid rfl⟩; obtain ⟨yE, HyE⟩ : ∃ x, Hid (eR_ LE3 = x) := ⟨_, Lib.hid rfl⟩; obtain ⟨LBE, HLB⟩ : ∃ x, Hid (eB_ LE3 = x) := ⟨_, Lib.hid rfl⟩; rw [HmE.out, HyE.out, HLB.out] at hS; obtain ⟨AE, cE, rfl, _⟩ := sep_rwForm (i := 2) hS rfl; obtain ⟨vT, HVT⟩ : ∃ x, Hid (vV = x) := ⟨_, Lib.hid rfl⟩; have HF6 : Hid (sS.takeF now fF = (if vT.base ≤ base then [] else (vT.fresh la0).map vT.data) ++ (if hb9 then [vT.hello] else [])) := Lib.hid (by rw [← HVT.out]; exact HF5.out); have HS6 : Hid (sS.take now fF = if vT.fresh la0 = [] ∨ vT.base ≤ base then vT else { vT with sent := now }) := Lib.hid (by rw [← HVT.out]; exact HS5.out); clear HF5 HS5; obtain ⟨base2, box2, got, sn, si, peer, conn, inc, known, up, heard, st⟩ := vV; have hbb : base2 + box2.length ≤ 34359738367 := hvn.base; have hb48 : box2.length ≤ 48 := hvn.box; have HDU : Hid (dueL base2 box2 = box2.take (min box2.length 8)) := Lib.hid hvn.due; have HFIT : Hid (Fit box2) := Lib.hid hvn.fit; have HS25 := Lib.hid (show Sep w0 wc (TKlF w now g q1 q0 la la0 X Qs kk ffr fto finc fconn pinc pconn ack seq A body.length c (Rw 51 10 (.slice none 0 0) 0 []) (Bods []) (Rw 49 4 (.slice AE mE cE) mE yE) (Bods LBE) (#[.slice none 0 0, (.slice AE mE cE)]) (#[.int .u64 (base2 : Int), .slice BA box2.length bc, .int .u64 (got : Int), .int .i64 sn, .int .u64 (si : Int), .int .i64 peer, .int .u64 (conn : Int), .int .u64 (inc : Int), .int .u64 (known : Int), .bool up, .int .u64 (heard : Int), .int .u64 (st : Int)]) (BoxT (.slice BA box2.length bc) box2)) from hS); clear hS hvn; have kl := cA (i := 6) HS25.out rfl 0 rfl; have kg := cA (v := .int .u64 (base2 : Int)) (i := 7) HS25.out rfl 0 rfl
            by_cases hgt : base < base2
            ·have e26 : decide (base < base2) = true := decide_eq_true hgt; have HGT := Lib.hid hgt; clear hgt; have kx := cA (v := .slice BA box2.length bc) (i := 7) HS25.out rfl 1 rfl; obtain ⟨_, _, _, hbx⟩ := sep_boxBx (i := 8) HS25.out rfl (fun l hl => by have := HFIT.out.2 l hl; omega); have HBX := Lib.hid hbx; clear hbx
             go_wp2_with fail
             refine (due_any wc base2 BA bc box2 HBX.out (by omega) HFIT.out hcc hcm).mono ?_; rintro e XW ⟨hbX, hzX, rfl, d1, v9, d2, ho9⟩; rw [HDU.out] at ho9; obtain ⟨LT, HLT⟩ : ∃ LT, Hid (box2.take (min box2.length 8) = LT) := ⟨_, Lib.hid rfl⟩; rw [HLT.out] at ho9; have hlT : LT.length ≤ 8 := by rw [← HLT.out, List.length_take]; omega
             have hlT2 : LT.length ≤ box2.length := by rw [← HLT.out, List.length_take]; omega
             have HFT : Hid (Fit LT) := Lib.hid (by rw [← HLT.out]; exact HFIT.out.take _); have HFX := Lib.hid (sep_fx HS25.out hbX); obtain ⟨lo, Hlo⟩ : ∃ x, Hid (wc.heap.size = x) := ⟨_, Lib.hid rfl⟩; obtain ⟨hi, Hhi⟩ : ∃ x, Hid (XW.heap.size = x) := ⟨_, Lib.hid rfl⟩; rw [Hlo.out] at HFX d1 d2 ho9 hzX ⊢; clear kl kg kx HBX HS25
             go_wp2_with fail
             refine (wpIn_wide (n := 6)).1 ?_; have hseq2 := due1_s 5 (by omega) XW lo base2 LT v9 (by omega) d1 d2 ho9 HFT.out (.inr (by omega)); rw [Hhi.out] at hseq2 HFX; refine range_s (α := It) (τ := Value × List (Fr × Value) × List (Value × List UInt8) × Nat) rfl (by omega) (gf := 60) rfl trivial (enters_of Try.func60 (by kernel_rfl) rfl)
              hseq2 MidB.trans (fun W l o' h => MidB.putObj W o' (by rw [← Hhi.out]; exact h)) (Below.refl _ _) (fun _ => rfl) (w0 := w0)
              (fun t => (Fx lo hi XW :: TKlF w now g q1 q0 la la0 X Qs kk ffr fto finc fconn pinc pconn ack seq A body.length c (Rw 51 10 t.1 t.2.1.length (fR_ t.2.1)) (Bods t.2.2.1) (Rw 49 4 (.slice AE mE cE) mE yE) (Bods LBE) #[t.1, (.slice AE mE cE)] #[.int .u64 (base2 : Int), .slice BA box2.length bc, .int .u64 (got : Int), .int .i64 sn, .int .u64 (si : Int), .int .i64 peer, .int .u64 (conn : Int), .int .u64 (inc : Int), .int .u64 (known : Int), .bool up, .int .u64 (heard : Int), .int .u64 (t.2.2.2 : Int)] (BoxT (.slice BA box2.length bc) box2)))
              (fun pre t => t.2.2.1 = fB_ t.2.1 ∧ t.2.1.map Prod.fst = ((pre.map prI).filter (fun x => decide (la0 < x.1))).map vT.data ∧ t.2.2.2 = (if t.2.1 = [] then st else now) ∧ t.2.1.length ≤ pre.length)
              (fun pre x t => t.2.2.1 = fB_ t.2.1 ++ [(x.2.2, x.2.1)] ∧ t.2.1.map Prod.fst = ((pre.map prI).filter (fun x => decide (la0 < x.1))).map vT.data ∧ t.2.2.2 = (if t.2.1 = [] then st else now) ∧ t.2.1.length ≤ pre.length ∧ pre.length < 8)
              ⟨(.slice none 0 0, [], [], st), ⟨rfl, rfl, rfl, by simp⟩, HFX.out⟩ ?hnew ?hround ?hdone
             case hnew =>
              rintro pre ⟨mq, lb, v⟩ ⟨vF, LP, LB, st1⟩ B Wp W1 ⟨e1, e2, e3, e4⟩ hS hb hv ho hN; refine ⟨(vF, LP, LB ++ [(v, lb)], st1), ⟨by rw [← e1], e2, e3, e4, by omega⟩, ?_⟩; exact sep_bodsAdd (i := 3) hS rfl hb ho
             case hround =>
              rintro l pre ⟨mq, lb, v⟩ W0; rw [show encI (mq, lb, v) = #[.int .u64 (mq : Int), v] from rfl]
              gi_wp2
              refine ⟨trivial, ?_⟩; rintro Wr ⟨vF, LP, LB, st1⟩ B ⟨e1, e2, e3, e4, e5⟩ hS; simp only at e1 e2 e3 e4 e5; subst e1; obtain ⟨Av, cv, rfl, _, _, _⟩ := sep_bodsAt (i := 3) hS rfl (u := v) (l := lb) (by simp); have hnb : LP.length ≤ 1000000 := by omega
              obtain ⟨n, Hn⟩ : ∃ x, Hid (LP.length = x) := ⟨_, Lib.hid rfl⟩; obtain ⟨xs, Hxs⟩ : ∃ x, Hid (fR_ LP = x) := ⟨_, Lib.hid rfl⟩; obtain ⟨LB, HLBB⟩ : ∃ x, Hid (fB_ LP ++ [(.slice Av lb.length cv, lb)] = x) := ⟨_, Lib.hid rfl⟩; have HE2 := Lib.hid e2; have HE3 := Lib.hid e3; have HE4 := Lib.hid (show LP.length ≤ pre.length from e4); obtain ⟨st0, Hst0⟩ : ∃ x, Hid (st = x) := ⟨_, Lib.hid rfl⟩; rw [Hst0.out] at HE3; clear e2 e3 e4; have HSR := Lib.hid (show Sep w0 Wr (B :: Fx lo hi XW :: (TKlF w now g q1 q0 la la0 X Qs kk ffr fto finc fconn pinc pconn ack seq A body.length c (Rw 51 10 vF n xs) (Bods LB) (Rw 49 4 (.slice AE mE cE) mE yE) (Bods LBE) (#[vF, (.slice AE mE cE)]) (#[.int .u64 (base2 : Int), .slice BA box2.length bc, .int .u64 (got : Int), .int .i64 sn, .int .u64 (si : Int), .int .i64 peer, .int .u64 (conn : Int), .int .u64 (inc : Int), .int .u64 (known : Int), .bool up, .int .u64 (heard : Int), .int .u64 (st1 : Int)]) (BoxT (.slice BA box2.length bc) box2))) by rw [← HLBB.out, ← Hn.out, ← Hxs.out]; exact hS); rw [Hn.out] at hnb; clear hS; have kla := cA (i := 13) HSR.out rfl 0 rfl
              by_cases hq : la0 < mq
              ·have eq : decide (la0 < mq) = true := decide_eq_true hq; have HQ := Lib.hid hq; clear hq; have HDA := Lib.hid (fun (W : World) hh => dataG W g base2 (.slice BA box2.length bc) got sn si peer conn inc known up heard st1 (mq : Int) Av lb.length cv hh); obtain ⟨hx, HDX⟩ : ∃ l, Hid ((daCells got sn si peer conn inc known (mq : Int) Av lb.length cv).toList = l) := ⟨_, Lib.hid rfl⟩; have HX1 : Hid (∀ u ∈ hx, u.oneCell' = true) := Lib.hid (by
                rw [← HDX.out]; intro u hu; simp only [daCells, List.mem_cons, List.not_mem_nil, or_false] at hu
                rcases hu with rfl | rfl | rfl | rfl | rfl | rfl | rfl | rfl | rfl | rfl <;> rfl)
               have HKO : ∀ (dn : Nat → Bool) (xv : Nat → Value) (W : World), (if dn 9 = true then ∃ vF, Sep w0 W (B :: Fx lo hi XW :: (TKlF w now g q1 q0 la la0 X Qs kk ffr fto finc fconn pinc pconn ack seq A body.length c (Rw 51 10 vF (n + 1) (xs ++ hx)) (Bods LB) (Rw 49 4 (.slice AE mE cE) mE yE) (Bods LBE) (#[vF, (.slice AE mE cE)]) (#[.int .u64 (base2 : Int), .slice BA box2.length bc, .int .u64 (got : Int), .int .i64 sn, .int .u64 (si : Int), .int .i64 peer, .int .u64 (conn : Int), .int .u64 (inc : Int), .int .u64 (known : Int), .bool up, .int .u64 (heard : Int), .int .u64 (st1 : Int)]) (BoxT (.slice BA box2.length bc) box2))) else if dn 7 = true then Sep w0 W (B :: Fx lo hi XW :: (TKlF w now g q1 q0 la la0 X Qs kk ffr fto finc fconn pinc pconn ack seq A body.length c (Rw 51 10 (xv 7) (n + 1) (xs ++ hx)) (Bods LB) (Rw 49 4 (.slice AE mE cE) mE yE) (Bods LBE) (#[vF, (.slice AE mE cE)]) (#[.int .u64 (base2 : Int), .slice BA box2.length bc, .int .u64 (got : Int), .int .i64 sn, .int .u64 (si : Int), .int .i64 peer, .int .u64 (conn : Int), .int .u64 (inc : Int), .int .u64 (known : Int), .bool up, .int .u64 (heard : Int), .int .u64 (st1 : Int)]) (BoxT (.slice BA box2.length bc) box2))) else if dn 6 = true then Sep w0 W (B :: Fx lo hi XW :: (TKlF w now g q1 q0 la la0 X Qs kk ffr fto finc fconn pinc pconn ack seq A body.length c (Rw 51 10 vF n xs) (Bods LB) (Rw 49 4 (.slice AE mE cE) mE yE) (Bods LBE) (#[vF, (.slice AE mE cE)]) (#[.int .u64 (base2 : Int), .slice BA box2.length bc, .int .u64 (got : Int), .int .i64 sn, .int .u64 (si : Int), .int .i64 peer, .int .u64 (conn : Int), .int .u64 (inc : Int), .int .u64 (known : Int), .bool up, .int .u64 (heard : Int), .int .u64 (st1 : Int)]) (BoxT (.slice BA box2.length bc) box2))) ∧ OneF hx (xv 6) W else if dn 5 = true then Sep w0 W (B :: Fx lo hi XW :: (TKlF w now g q1 q0 la la0 X Qs kk ffr fto finc fconn pinc pconn ack seq A body.length c (Rw 51 10 vF n xs) (Bods LB) (Rw 49 4 (.slice AE mE cE) mE yE) (Bods LBE) (#[vF, (.slice AE mE cE)]) (#[.int .u64 (base2 : Int), .slice BA box2.length bc, .int .u64 (got : Int), .int .i64 sn, .int .u64 (si : Int), .int .i64 peer, .int .u64 (conn : Int), .int .u64 (inc : Int), .int .u64 (known : Int), .bool up, .int .u64 (heard : Int), .int .u64 (st1 : Int)]) (BoxT (.slice BA box2.length bc) box2))) else Sep w0 W (B :: Fx lo hi XW :: (TKlF w now g q1 q0 la la0 X Qs kk ffr fto finc fconn pinc pconn ack seq A body.length c (Rw 51 10 vF n xs) (Bods LB) (Rw 49 4 (.slice AE mE cE) mE yE) (Bods LBE) (#[vF, (.slice AE mE cE)]) (#[.int .u64 (base2 : Int), .slice BA box2.length bc, .int .u64 (got : Int), .int .i64 sn, .int .u64 (si : Int), .int .i64 peer, .int .u64 (conn : Int), .int .u64 (inc : Int), .int .u64 (known : Int), .bool up, .int .u64 (heard : Int), .int .u64 (st1 : Int)]) (BoxT (.slice BA box2.length bc) box2)))) → dn 9 = false → W.cell? ⟨w.heap.size + 1 + 1 + 1 + 1, 0, none⟩ = some vF := fun dn xv W h h0 => by
                rw [if_neg (by simp [h0])] at h; split at h
                ·exact cA (i := 6) h rfl 0 rfl
                split at h
                ·have h := h.1; exact cA (i := 6) h rfl 0 rfl
                split at h
                ·exact cA (i := 6) h rfl 0 rfl
                exact cA (i := 6) h rfl 0 rfl
               have HKL : ∀ (dn : Nat → Bool) (xv : Nat → Value) (W : World), (if dn 9 = true then ∃ vF, Sep w0 W (B :: Fx lo hi XW :: (TKlF w now g q1 q0 la la0 X Qs kk ffr fto finc fconn pinc pconn ack seq A body.length c (Rw 51 10 vF (n + 1) (xs ++ hx)) (Bods LB) (Rw 49 4 (.slice AE mE cE) mE yE) (Bods LBE) (#[vF, (.slice AE mE cE)]) (#[.int .u64 (base2 : Int), .slice BA box2.length bc, .int .u64 (got : Int), .int .i64 sn, .int .u64 (si : Int), .int .i64 peer, .int .u64 (conn : Int), .int .u64 (inc : Int), .int .u64 (known : Int), .bool up, .int .u64 (heard : Int), .int .u64 (st1 : Int)]) (BoxT (.slice BA box2.length bc) box2))) else if dn 7 = true then Sep w0 W (B :: Fx lo hi XW :: (TKlF w now g q1 q0 la la0 X Qs kk ffr fto finc fconn pinc pconn ack seq A body.length c (Rw 51 10 (xv 7) (n + 1) (xs ++ hx)) (Bods LB) (Rw 49 4 (.slice AE mE cE) mE yE) (Bods LBE) (#[vF, (.slice AE mE cE)]) (#[.int .u64 (base2 : Int), .slice BA box2.length bc, .int .u64 (got : Int), .int .i64 sn, .int .u64 (si : Int), .int .i64 peer, .int .u64 (conn : Int), .int .u64 (inc : Int), .int .u64 (known : Int), .bool up, .int .u64 (heard : Int), .int .u64 (st1 : Int)]) (BoxT (.slice BA box2.length bc) box2))) else if dn 6 = true then Sep w0 W (B :: Fx lo hi XW :: (TKlF w now g q1 q0 la la0 X Qs kk ffr fto finc fconn pinc pconn ack seq A body.length c (Rw 51 10 vF n xs) (Bods LB) (Rw 49 4 (.slice AE mE cE) mE yE) (Bods LBE) (#[vF, (.slice AE mE cE)]) (#[.int .u64 (base2 : Int), .slice BA box2.length bc, .int .u64 (got : Int), .int .i64 sn, .int .u64 (si : Int), .int .i64 peer, .int .u64 (conn : Int), .int .u64 (inc : Int), .int .u64 (known : Int), .bool up, .int .u64 (heard : Int), .int .u64 (st1 : Int)]) (BoxT (.slice BA box2.length bc) box2))) ∧ OneF hx (xv 6) W else if dn 5 = true then Sep w0 W (B :: Fx lo hi XW :: (TKlF w now g q1 q0 la la0 X Qs kk ffr fto finc fconn pinc pconn ack seq A body.length c (Rw 51 10 vF n xs) (Bods LB) (Rw 49 4 (.slice AE mE cE) mE yE) (Bods LBE) (#[vF, (.slice AE mE cE)]) (#[.int .u64 (base2 : Int), .slice BA box2.length bc, .int .u64 (got : Int), .int .i64 sn, .int .u64 (si : Int), .int .i64 peer, .int .u64 (conn : Int), .int .u64 (inc : Int), .int .u64 (known : Int), .bool up, .int .u64 (heard : Int), .int .u64 (st1 : Int)]) (BoxT (.slice BA box2.length bc) box2))) else Sep w0 W (B :: Fx lo hi XW :: (TKlF w now g q1 q0 la la0 X Qs kk ffr fto finc fconn pinc pconn ack seq A body.length c (Rw 51 10 vF n xs) (Bods LB) (Rw 49 4 (.slice AE mE cE) mE yE) (Bods LBE) (#[vF, (.slice AE mE cE)]) (#[.int .u64 (base2 : Int), .slice BA box2.length bc, .int .u64 (got : Int), .int .i64 sn, .int .u64 (si : Int), .int .i64 peer, .int .u64 (conn : Int), .int .u64 (inc : Int), .int .u64 (known : Int), .bool up, .int .u64 (heard : Int), .int .u64 (st1 : Int)]) (BoxT (.slice BA box2.length bc) box2)))) → W.cell? ⟨w.heap.size, 0, none⟩ = some (.pointer (some ⟨g, 0, none⟩)) := fun dn xv W h => by
                split at h
                ·obtain ⟨_, h⟩ := h; exact cA (i := 8) h rfl 0 rfl
                split at h
                ·exact cA (i := 8) h rfl 0 rfl
                split at h
                ·have h := h.1; exact cA (i := 8) h rfl 0 rfl
                split at h
                ·exact cA (i := 8) h rfl 0 rfl
                exact cA (i := 8) h rfl 0 rfl
               gi_wp2
               refine wpIn_region_f (by kernel_rfl) (fun dn xv W => if dn 9 = true then ∃ vF, Sep w0 W (B :: Fx lo hi XW :: (TKlF w now g q1 q0 la la0 X Qs kk ffr fto finc fconn pinc pconn ack seq A body.length c (Rw 51 10 vF (n + 1) (xs ++ hx)) (Bods LB) (Rw 49 4 (.slice AE mE cE) mE yE) (Bods LBE) (#[vF, (.slice AE mE cE)]) (#[.int .u64 (base2 : Int), .slice BA box2.length bc, .int .u64 (got : Int), .int .i64 sn, .int .u64 (si : Int), .int .i64 peer, .int .u64 (conn : Int), .int .u64 (inc : Int), .int .u64 (known : Int), .bool up, .int .u64 (heard : Int), .int .u64 (st1 : Int)]) (BoxT (.slice BA box2.length bc) box2))) else if dn 7 = true then Sep w0 W (B :: Fx lo hi XW :: (TKlF w now g q1 q0 la la0 X Qs kk ffr fto finc fconn pinc pconn ack seq A body.length c (Rw 51 10 (xv 7) (n + 1) (xs ++ hx)) (Bods LB) (Rw 49 4 (.slice AE mE cE) mE yE) (Bods LBE) (#[vF, (.slice AE mE cE)]) (#[.int .u64 (base2 : Int), .slice BA box2.length bc, .int .u64 (got : Int), .int .i64 sn, .int .u64 (si : Int), .int .i64 peer, .int .u64 (conn : Int), .int .u64 (inc : Int), .int .u64 (known : Int), .bool up, .int .u64 (heard : Int), .int .u64 (st1 : Int)]) (BoxT (.slice BA box2.length bc) box2))) else if dn 6 = true then Sep w0 W (B :: Fx lo hi XW :: (TKlF w now g q1 q0 la la0 X Qs kk ffr fto finc fconn pinc pconn ack seq A body.length c (Rw 51 10 vF n xs) (Bods LB) (Rw 49 4 (.slice AE mE cE) mE yE) (Bods LBE) (#[vF, (.slice AE mE cE)]) (#[.int .u64 (base2 : Int), .slice BA box2.length bc, .int .u64 (got : Int), .int .i64 sn, .int .u64 (si : Int), .int .i64 peer, .int .u64 (conn : Int), .int .u64 (inc : Int), .int .u64 (known : Int), .bool up, .int .u64 (heard : Int), .int .u64 (st1 : Int)]) (BoxT (.slice BA box2.length bc) box2))) ∧ OneF hx (xv 6) W else if dn 5 = true then Sep w0 W (B :: Fx lo hi XW :: (TKlF w now g q1 q0 la la0 X Qs kk ffr fto finc fconn pinc pconn ack seq A body.length c (Rw 51 10 vF n xs) (Bods LB) (Rw 49 4 (.slice AE mE cE) mE yE) (Bods LBE) (#[vF, (.slice AE mE cE)]) (#[.int .u64 (base2 : Int), .slice BA box2.length bc, .int .u64 (got : Int), .int .i64 sn, .int .u64 (si : Int), .int .i64 peer, .int .u64 (conn : Int), .int .u64 (inc : Int), .int .u64 (known : Int), .bool up, .int .u64 (heard : Int), .int .u64 (st1 : Int)]) (BoxT (.slice BA box2.length bc) box2))) else Sep w0 W (B :: Fx lo hi XW :: (TKlF w now g q1 q0 la la0 X Qs kk ffr fto finc fconn pinc pconn ack seq A body.length c (Rw 51 10 vF n xs) (Bods LB) (Rw 49 4 (.slice AE mE cE) mE yE) (Bods LBE) (#[vF, (.slice AE mE cE)]) (#[.int .u64 (base2 : Int), .slice BA box2.length bc, .int .u64 (got : Int), .int .i64 sn, .int .u64 (si : Int), .int .i64 peer, .int .u64 (conn : Int), .int .u64 (inc : Int), .int .u64 (known : Int), .bool up, .int .u64 (heard : Int), .int .u64 (st1 : Int)]) (BoxT (.slice BA box2.length bc) box2)))) (fun _ _ => True) [xP_ (w.heap.size + 1 + 1 + 1 + 1) 0, xV_ vF, xP_ g 0, xV_ (.int .u64 (mq : Int)), xV_ (.slice Av lb.length cv), xV_ (.agg #[.int .i64 2, .int .i64 sn, .int .i64 peer, .int .u64 (si : Int), .int .u64 (conn : Int), .int .u64 (inc : Int), .int .u64 (known : Int), .int .u64 (got : Int), .int .u64 (mq : Int), .slice Av lb.length cv]), fun v _ => True, fun v _ => True, xP_ (w.heap.size + 1 + 1 + 1 + 1) 0, fun v _ => True] (by kernel_rfl) (by kernel_rfl) (by kernel_rfl) (by kernel_rfl) (fun xv => by simpa using HSR.out.drew)
                (by repeat (first | exact trivial | refine ⟨fun _ _ _ _ h => h, ?_⟩)) ?_ ?_
               ·refine Ep 1 7 (w.heap.size + 1 + 1 + 1 + 1) 0 ?_
                refine EC 2 rfl (fun g h W F a b c d e H K f => ?_) ?_
                ·have f203 := gE (a 203) (by kernel_rfl) (H 0) (by kernel_rfl); have kk := HKO g h W e (c 9 (uM 7 uE)); clear H c b d a; refine oP rfl ?_; go_simp; exact f.out _ _ rfl trivial e
                refine Epk 3 3 w.heap.size 0 (fun g h W e => HKL g h W e) ?_
                refine Ei 4 14 (.int .u64 (mq : Int)) ?_
                refine Ei 5 15 (.slice Av lb.length cv) ?_
                refine EC 6 rfl (fun l m W F a b d f h H K k => ?_) ?_
                ·have f205 := gE (a 205) (by kernel_rfl) (H 2) (by kernel_rfl); have f206 := gE (a 206) (by kernel_rfl) (H 3) (by kernel_rfl); have f207 := gE (a 207) (by kernel_rfl) (H 4) (by kernel_rfl); have q6 := d 6 uE; have q7 := d 7 (uM 6 uE); have q9 := d 9 (uM 7 (uM 6 uE)); rw [if_neg (by simp [q9]), if_neg (by simp [q7]), if_neg (by simp [q6]), if_neg (by simp [b])] at h; have hS := h; clear h d b f a H; refine oP rfl ?_; go_simp; refine (HDA.out W (cH (i := 9) hS rfl)).mono ?_; rintro e W' ⟨rfl, hb⟩; have hs : Sep w0 W' (B :: Fx lo hi XW :: (TKlF w now g q1 q0 la la0 X Qs kk ffr fto finc fconn pinc pconn ack seq A body.length c (Rw 51 10 vF n xs) (Bods LB) (Rw 49 4 (.slice AE mE cE) mE yE) (Bods LBE) (#[vF, (.slice AE mE cE)]) (#[.int .u64 (base2 : Int), .slice BA box2.length bc, .int .u64 (got : Int), .int .i64 sn, .int .u64 (si : Int), .int .i64 peer, .int .u64 (conn : Int), .int .u64 (inc : Int), .int .u64 (known : Int), .bool up, .int .u64 (heard : Int), .int .u64 (st1 : Int)]) (BoxT (.slice BA box2.length bc) box2))) := hS.grow hb; exact k.out _ W' rfl trivial (by simpa [upB, upd, q6, q7, q9] using hs)
                refine EC 7 rfl (fun i k W F a b d e f H K h => ?_) ?_
                ·have f208 := gE (a 208) (by kernel_rfl) (H 5) (by kernel_rfl); have q5 := (H 5 uE).1; have q7 := d 7 uE; have q9 := d 9 (uM 7 uE); rw [if_neg (by simp [q9]), if_neg (by simp [q7]), if_neg (by simp [b]), if_pos q5] at f; have hS := f; clear f d b e a H; refine oP rfl ?_; have g208 := f208; rw [Array.getD_eq_getD_getElem?] at g208; go_simp; have hb : Below W.heap.size W (W.alloc (.cells #[.int .i64 2, .int .i64 sn, .int .i64 peer, .int .u64 (si : Int), .int .u64 (conn : Int), .int .u64 (inc : Int), .int .u64 (known : Int), .int .u64 (got : Int), .int .u64 (mq : Int), .slice Av lb.length cv] 51)) := (Below.refl _ _).alloc (Nat.le_refl _) _; have hs : Sep w0 (W.alloc (.cells #[.int .i64 2, .int .i64 sn, .int .i64 peer, .int .u64 (si : Int), .int .u64 (conn : Int), .int .u64 (inc : Int), .int .u64 (known : Int), .int .u64 (got : Int), .int .u64 (mq : Int), .slice Av lb.length cv] 51)) (B :: Fx lo hi XW :: (TKlF w now g q1 q0 la la0 X Qs kk ffr fto finc fconn pinc pconn ack seq A body.length c (Rw 51 10 vF n xs) (Bods LB) (Rw 49 4 (.slice AE mE cE) mE yE) (Bods LBE) (#[vF, (.slice AE mE cE)]) (#[.int .u64 (base2 : Int), .slice BA box2.length bc, .int .u64 (got : Int), .int .i64 sn, .int .u64 (si : Int), .int .i64 peer, .int .u64 (conn : Int), .int .u64 (inc : Int), .int .u64 (known : Int), .bool up, .int .u64 (heard : Int), .int .u64 (st1 : Int)]) (BoxT (.slice BA box2.length bc) box2))) ∧ OneF hx (.slice (some ⟨W.heap.size, 0, none⟩) 1 1) (W.alloc (.cells #[.int .i64 2, .int .i64 sn, .int .i64 peer, .int .u64 (si : Int), .int .u64 (conn : Int), .int .u64 (inc : Int), .int .u64 (known : Int), .int .u64 (got : Int), .int .u64 (mq : Int), .slice Av lb.length cv] 51)) := ⟨hS.grow hb, HDX.out ▸ OneF.new W _⟩; exact h.out _ _ trivial trivial (by simpa [upB, upd, q7, q9] using hs)
                refine EC 8 rfl (fun j k W F a b d e f H K h => ?_) ?_
                ·have f204 := gE (a 204) (by kernel_rfl) (H 1) (by kernel_rfl); have f209 : F.tmps.getD 209 undef = k 6 := (a 209).trans (by kernel_rfl); have q6 := (H 6 uE).1; have q9 := d 9 uE; rw [if_neg (by simp [q9]), if_neg (by simp [b]), if_pos q6] at f; have hS := f; clear f d b e a H; refine oP rfl ?_; obtain ⟨s1, A3, c3, e3, hl3, hh3⟩ := hS; have fex := f209.trans e3; refine sep_opAppW rowFrames (i := 2) (s := .tmp 204) (x := .tmp 209) (m := 1) (news := hx) (by rfl) f204 fex s1 rfl (by rw [hl3]) hh3 HX1.out (by unfold maxLen; omega) (by omega) ?_; intro v W' hs0; have hs : Sep w0 W' (B :: Fx lo hi XW :: (TKlF w now g q1 q0 la la0 X Qs kk ffr fto finc fconn pinc pconn ack seq A body.length c (Rw 51 10 v (n + 1) (xs ++ hx)) (Bods LB) (Rw 49 4 (.slice AE mE cE) mE yE) (Bods LBE) (#[vF, (.slice AE mE cE)]) (#[.int .u64 (base2 : Int), .slice BA box2.length bc, .int .u64 (got : Int), .int .i64 sn, .int .u64 (si : Int), .int .i64 peer, .int .u64 (conn : Int), .int .u64 (inc : Int), .int .u64 (known : Int), .bool up, .int .u64 (heard : Int), .int .u64 (st1 : Int)]) (BoxT (.slice BA box2.length bc) box2))) := hs0; exact h.out v W' trivial trivial (by simpa [upB, upd, q9] using hs)
                refine Ep 9 7 (w.heap.size + 1 + 1 + 1 + 1) 0 ?_
                refine EC 10 rfl (fun j k W F a b d e f H K h => ?_) ?_
                ·have f210 : F.tmps.getD 210 undef = k 7 := (a 210).trans (by kernel_rfl); have f211 := gE (a 211) (by kernel_rfl) (H 8) (by kernel_rfl); have q7 := (H 7 uE).1; rw [if_neg (by simp [b]), if_pos q7] at f; have hS := f; clear f d b e a H; refine oP rfl ?_; obtain ⟨A2, c2, e2, _⟩ := sep_rwForm (i := 2) hS rfl; have hc3 := cA (i := 6) hS rfl 0 rfl; have hf3 := cFz (i := 6) hS rfl 0; rw [e2] at hS; have hs0 := cS (i := 6) hS rfl 0 (.slice A2 (n + 1) c2); have hs : ∃ vF, Sep w0 (W.setCell ⟨w.heap.size + 1 + 1 + 1 + 1, 0, none⟩ (.slice A2 (n + 1) c2)) (B :: Fx lo hi XW :: (TKlF w now g q1 q0 la la0 X Qs kk ffr fto finc fconn pinc pconn ack seq A body.length c (Rw 51 10 vF (n + 1) (xs ++ hx)) (Bods LB) (Rw 49 4 (.slice AE mE cE) mE yE) (Bods LBE) (#[vF, (.slice AE mE cE)]) (#[.int .u64 (base2 : Int), .slice BA box2.length bc, .int .u64 (got : Int), .int .i64 sn, .int .u64 (si : Int), .int .i64 peer, .int .u64 (conn : Int), .int .u64 (inc : Int), .int .u64 (known : Int), .bool up, .int .u64 (heard : Int), .int .u64 (st1 : Int)]) (BoxT (.slice BA box2.length bc) box2))) := ⟨_, hs0⟩; clear hs0; go_simp; exact h.out undef _ trivial trivial (by simpa [upB, upd] using hs)
                exact EN
               ·intro dn xv W hI H; have qe : dn 9 = true := (H 9 (of_decide_eq_true (by kernel_rfl))).1; rw [if_pos qe] at hI; have hS := hI; clear H hI qe; simp only [putAll, Act.put, List.setIfInBounds_toArray, List.set_cons_zero, List.set_cons_succ, Nat.reduceAdd]; obtain ⟨vF2, hS⟩ := hS; have HS31 := Lib.hid hS; clear hS HKO HKL; have kl := cA (i := 8) HS31.out rfl 0 rfl; have kn := cA (i := 15) HS31.out rfl 0 rfl; have ks := cA (i := 9) HS31.out rfl 11 rfl; have ys := cFz (i := 9) HS31.out rfl 11; have HS32 := Lib.hid (show Sep w0 (W.setCell ⟨g, 11, none⟩ (.int .u64 (now : Int))) (B :: Fx lo hi XW :: (TKlF w now g q1 q0 la la0 X Qs kk ffr fto finc fconn pinc pconn ack seq A body.length c (Rw 51 10 vF2 (n + 1) (xs ++ hx)) (Bods LB) (Rw 49 4 (.slice AE mE cE) mE yE) (Bods LBE) (#[vF2, (.slice AE mE cE)]) (#[.int .u64 (base2 : Int), .slice BA box2.length bc, .int .u64 (got : Int), .int .i64 sn, .int .u64 (si : Int), .int .i64 peer, .int .u64 (conn : Int), .int .u64 (inc : Int), .int .u64 (known : Int), .bool up, .int .u64 (heard : Int), .int .u64 (now : Int)]) (BoxT (.slice BA box2.length bc) box2))) from cS (i := 9) HS31.out rfl 11 (.int .u64 (now : Int)))
                gi_wp2
                refine ⟨mid_fx (i := 1) (j := 1) HSR.out rfl HS32.out rfl, ⟨(vF2, LP ++ [(vT.data (mq, lb), .slice Av lb.length cv)], LB, now), ⟨?_, ?_, ?_, ?_⟩, ?_⟩⟩
                ·simp only; rw [← HLBB.out, frBods_snoc]; rfl
                ·simp only [List.map_append, List.filter_append, HE2.out, List.map_cons, List.map_nil, prI]; rw [List.filter_cons_of_pos (by simpa using HQ.out)]; rfl
                ·simp only; rw [if_neg (by simp)]
                ·simp only [List.length_append]; have := HE4.out; simp; omega
                ·have e5 : (LP ++ [(vT.data (mq, lb), Value.slice Av lb.length cv)]).length = n + 1 := by rw [List.length_append, Hn.out]; rfl
                 have e6 : fR_ (LP ++ [(vT.data (mq, lb), .slice Av lb.length cv)]) = xs ++ hx := by
                  rw [frRow_snoc, Hxs.out, ← HDX.out, ← HVT.out]; rfl
                 simp only [e5, e6]; exact HS32.out
              ·have eq : decide (la0 < mq) = false := decide_eq_false hq; have HQ := Lib.hid hq; clear hq
               gi_wp2
               have hS2 := sep_bodsLess (i := 3) HSR.out rfl (LC := fB_ LP) (fun x hx => by rw [← HLBB.out]; exact List.mem_append_left _ hx); refine ⟨mid_fx (i := 1) (j := 1) HSR.out rfl hS2 rfl, ⟨(vF, LP, fB_ LP, st1), ⟨rfl, ?_, ?_, ?_⟩, ?_⟩⟩
               ·simp only [List.map_append, List.filter_append, HE2.out, List.map_cons, List.map_nil, prI]; rw [List.filter_cons_of_neg (by simpa using HQ.out)]; simp
               ·rw [Hst0.out]; exact HE3.out
               ·have := HE4.out
                simp; omega
               ·simp only [Hn.out, Hxs.out]; exact hS2
             case hdone =>
              rintro D r xs0 ⟨vF, LP, LB, st1⟩ W hD hat ⟨e1, e2, e3, e4⟩ hS; simp only at e1 e2 e3 e4 hS; subst e1; have hxl := hat.len (Nat.le_refl _); have hnb0 : LP.length ≤ 1000000 := by omega
              have hpr : xs0.map prI = items base2 LT := by
               have := map_items hat (fun x => x)
               simpa using this
              rw [hpr] at e2; have hdue : vT.due = items base2 LT := by
               rw [← HVT.out]; show items base2 (dueL base2 box2) = _; rw [HDU.out, HLT.out]
              have hfr : vT.fresh la0 = (items base2 LT).filter (fun x => decide (la0 < x.1)) := by rw [LS.fresh, hdue]
              have HLPF : Hid (LP.map Prod.fst = (if vT.base ≤ base then [] else (vT.fresh la0).map vT.data)) := Lib.hid (by
               rw [if_neg (by rw [← HVT.out]; have := HGT.out; simp only; omega), e2, hfr])
              have HST : Hid (sS.take now fF = { vT with sent := st1 }) := Lib.hid (by
               rw [HS6.out, e3]
               by_cases hl : LP = []
               ·rw [if_pos hl]; have h0 : vT.fresh la0 = [] := by
                 rw [hl, ← hfr] at e2; simpa using e2.symm
                rw [if_pos (.inl h0), ← HVT.out]
               ·rw [if_neg hl]; have h0 : vT.fresh la0 ≠ [] := by
                 intro h0; rw [← hfr, h0] at e2; simp at e2; exact hl e2
                rw [if_neg]; rintro (h1 | h1)
                ·exact h0 h1
                ·rw [← HVT.out] at h1; have := HGT.out; simp only at h1; omega)
              clear hat e2 e3 e4 hxl hpr hdue hfr HFX hseq2; obtain ⟨n, Hn⟩ : ∃ x, Hid (LP.length = x) := ⟨_, Lib.hid rfl⟩; obtain ⟨xs, Hxs⟩ : ∃ x, Hid (fR_ LP = x) := ⟨_, Lib.hid rfl⟩; obtain ⟨st2, Hst2⟩ : ∃ x, Hid (st1 = x) := ⟨_, Lib.hid rfl⟩; rw [Hn.out, Hxs.out, Hst2.out] at hS; rw [Hst2.out] at HST; have hnb : n ≤ 1000000 := by rw [← Hn.out]; exact hnb0
              have HSW := Lib.hid (show Sep w0 W (Bk D r :: Fx lo hi XW :: (TKlF w now g q1 q0 la la0 X Qs kk ffr fto finc fconn pinc pconn ack seq A body.length c (Rw 51 10 vF n xs) (Bods (fB_ LP)) (Rw 49 4 (.slice AE mE cE) mE yE) (Bods LBE) (#[vF, (.slice AE mE cE)]) (#[.int .u64 (base2 : Int), .slice BA box2.length bc, .int .u64 (got : Int), .int .i64 sn, .int .u64 (si : Int), .int .i64 peer, .int .u64 (conn : Int), .int .u64 (inc : Int), .int .u64 (known : Int), .bool up, .int .u64 (heard : Int), .int .u64 (st2 : Int)]) (BoxT (.slice BA box2.length bc) box2))) from hS); clear hS
              go_upto_region 33 with fail
              cases hb9 with
              | false =>
               obtain ⟨A2, c2, rfl, _⟩ := sep_rwForm (i := 2) HSW.out rfl; have HS35 := HSW; have k0 := cA (i := 6) HS35.out rfl 0 rfl; have k1 := cA (i := 6) HS35.out rfl 1 rfl; have y0 := cFz (i := 7) HS35.out rfl 0; have y1 := cFz (i := 7) HS35.out rfl 1; have z0 := cA (i := 7) HS35.out rfl 0 rfl; have z1 := cA (i := 7) HS35.out rfl 1 rfl; have HSZ := Lib.hid (cS (i := 7) (cS (i := 7) HS35.out rfl 0 (.slice A2 n c2)) rfl 1 (.slice AE mE cE))
               go_wp2_with fail
               have HSG := Lib.hid (sep_bkGone HSZ.out); have k0 := cA (i := 6) HSG.out rfl 0 rfl; have k1 := cA (i := 6) HSG.out rfl 1 rfl; refine ⟨by simp, .inl ⟨_, _, rfl, run_takeDeferred (sep_bkAt' (i := 0) HSZ.out rfl), ?_⟩⟩; refine ⟨.agg #[.slice A2 n c2, .slice AE mE cE], by simp [results, Try.results15, go_sem, k0, k1], ?_⟩; refine ⟨_, _, .slice BA box2.length bc, LP, LE3, rfl, ?_, HE5.out, ?_⟩
               ·rw [HF6.out, ← HLPF.out]; simp
               ·rw [HST.out, HmE.out, HyE.out, HLB.out, ← HVT.out]; have hx := ((((((((HSG.out.popF).drop 4).drop 4).drop 4).drop 6).drop 6).drop 6).drop 6).drop 6; rw [Hn.out, Hxs.out]; exact hx
              | true =>
               have HHE := Lib.hid (fun (W : World) hh => hello_any W g base2 (.slice BA box2.length bc) got sn si peer conn inc known up heard st2 hh); obtain ⟨hx, HXS⟩ : ∃ l, Hid ((heCells got sn si peer conn inc known).toList = l) := ⟨_, Lib.hid rfl⟩; have HX1 : Hid (∀ u ∈ hx, u.oneCell' = true) := Lib.hid (by
                rw [← HXS.out]; intro u hu; simp only [heCells, List.mem_cons, List.not_mem_nil, or_false] at hu
                rcases hu with rfl | rfl | rfl | rfl | rfl | rfl | rfl | rfl | rfl | rfl <;> rfl)
               have HKO : ∀ (dn : Nat → Bool) (xv : Nat → Value) (W : World), (if dn 7 = true then ∃ vF, Sep w0 W (Bk D r :: Fx lo hi XW :: (TKlF w now g q1 q0 la la0 X Qs kk ffr fto finc fconn pinc pconn ack seq A body.length c (Rw 51 10 vF (n + 1) (xs ++ hx)) (Bods (fB_ LP)) (Rw 49 4 (.slice AE mE cE) mE yE) (Bods LBE) (#[vF, (.slice AE mE cE)]) (#[.int .u64 (base2 : Int), .slice BA box2.length bc, .int .u64 (got : Int), .int .i64 sn, .int .u64 (si : Int), .int .i64 peer, .int .u64 (conn : Int), .int .u64 (inc : Int), .int .u64 (known : Int), .bool up, .int .u64 (heard : Int), .int .u64 (st2 : Int)]) (BoxT (.slice BA box2.length bc) box2))) else if dn 5 = true then Sep w0 W (Bk D r :: Fx lo hi XW :: (TKlF w now g q1 q0 la la0 X Qs kk ffr fto finc fconn pinc pconn ack seq A body.length c (Rw 51 10 (xv 5) (n + 1) (xs ++ hx)) (Bods (fB_ LP)) (Rw 49 4 (.slice AE mE cE) mE yE) (Bods LBE) (#[vF, (.slice AE mE cE)]) (#[.int .u64 (base2 : Int), .slice BA box2.length bc, .int .u64 (got : Int), .int .i64 sn, .int .u64 (si : Int), .int .i64 peer, .int .u64 (conn : Int), .int .u64 (inc : Int), .int .u64 (known : Int), .bool up, .int .u64 (heard : Int), .int .u64 (st2 : Int)]) (BoxT (.slice BA box2.length bc) box2))) else if dn 4 = true then Sep w0 W (Bk D r :: Fx lo hi XW :: (TKlF w now g q1 q0 la la0 X Qs kk ffr fto finc fconn pinc pconn ack seq A body.length c (Rw 51 10 vF n xs) (Bods (fB_ LP)) (Rw 49 4 (.slice AE mE cE) mE yE) (Bods LBE) (#[vF, (.slice AE mE cE)]) (#[.int .u64 (base2 : Int), .slice BA box2.length bc, .int .u64 (got : Int), .int .i64 sn, .int .u64 (si : Int), .int .i64 peer, .int .u64 (conn : Int), .int .u64 (inc : Int), .int .u64 (known : Int), .bool up, .int .u64 (heard : Int), .int .u64 (st2 : Int)]) (BoxT (.slice BA box2.length bc) box2))) ∧ OneF hx (xv 4) W else if dn 3 = true then Sep w0 W (Bk D r :: Fx lo hi XW :: (TKlF w now g q1 q0 la la0 X Qs kk ffr fto finc fconn pinc pconn ack seq A body.length c (Rw 51 10 vF n xs) (Bods (fB_ LP)) (Rw 49 4 (.slice AE mE cE) mE yE) (Bods LBE) (#[vF, (.slice AE mE cE)]) (#[.int .u64 (base2 : Int), .slice BA box2.length bc, .int .u64 (got : Int), .int .i64 sn, .int .u64 (si : Int), .int .i64 peer, .int .u64 (conn : Int), .int .u64 (inc : Int), .int .u64 (known : Int), .bool up, .int .u64 (heard : Int), .int .u64 (st2 : Int)]) (BoxT (.slice BA box2.length bc) box2))) else Sep w0 W (Bk D r :: Fx lo hi XW :: (TKlF w now g q1 q0 la la0 X Qs kk ffr fto finc fconn pinc pconn ack seq A body.length c (Rw 51 10 vF n xs) (Bods (fB_ LP)) (Rw 49 4 (.slice AE mE cE) mE yE) (Bods LBE) (#[vF, (.slice AE mE cE)]) (#[.int .u64 (base2 : Int), .slice BA box2.length bc, .int .u64 (got : Int), .int .i64 sn, .int .u64 (si : Int), .int .i64 peer, .int .u64 (conn : Int), .int .u64 (inc : Int), .int .u64 (known : Int), .bool up, .int .u64 (heard : Int), .int .u64 (st2 : Int)]) (BoxT (.slice BA box2.length bc) box2)))) → dn 7 = false → W.cell? ⟨w.heap.size + 1 + 1 + 1 + 1, 0, none⟩ = some vF := fun dn xv W h h0 => by
                rw [if_neg (by simp [h0])] at h; split at h
                ·exact cA (i := 6) h rfl 0 rfl
                split at h
                ·have h := h.1; exact cA (i := 6) h rfl 0 rfl
                split at h
                ·exact cA (i := 6) h rfl 0 rfl
                exact cA (i := 6) h rfl 0 rfl
               have HKL : ∀ (dn : Nat → Bool) (xv : Nat → Value) (W : World), (if dn 7 = true then ∃ vF, Sep w0 W (Bk D r :: Fx lo hi XW :: (TKlF w now g q1 q0 la la0 X Qs kk ffr fto finc fconn pinc pconn ack seq A body.length c (Rw 51 10 vF (n + 1) (xs ++ hx)) (Bods (fB_ LP)) (Rw 49 4 (.slice AE mE cE) mE yE) (Bods LBE) (#[vF, (.slice AE mE cE)]) (#[.int .u64 (base2 : Int), .slice BA box2.length bc, .int .u64 (got : Int), .int .i64 sn, .int .u64 (si : Int), .int .i64 peer, .int .u64 (conn : Int), .int .u64 (inc : Int), .int .u64 (known : Int), .bool up, .int .u64 (heard : Int), .int .u64 (st2 : Int)]) (BoxT (.slice BA box2.length bc) box2))) else if dn 5 = true then Sep w0 W (Bk D r :: Fx lo hi XW :: (TKlF w now g q1 q0 la la0 X Qs kk ffr fto finc fconn pinc pconn ack seq A body.length c (Rw 51 10 (xv 5) (n + 1) (xs ++ hx)) (Bods (fB_ LP)) (Rw 49 4 (.slice AE mE cE) mE yE) (Bods LBE) (#[vF, (.slice AE mE cE)]) (#[.int .u64 (base2 : Int), .slice BA box2.length bc, .int .u64 (got : Int), .int .i64 sn, .int .u64 (si : Int), .int .i64 peer, .int .u64 (conn : Int), .int .u64 (inc : Int), .int .u64 (known : Int), .bool up, .int .u64 (heard : Int), .int .u64 (st2 : Int)]) (BoxT (.slice BA box2.length bc) box2))) else if dn 4 = true then Sep w0 W (Bk D r :: Fx lo hi XW :: (TKlF w now g q1 q0 la la0 X Qs kk ffr fto finc fconn pinc pconn ack seq A body.length c (Rw 51 10 vF n xs) (Bods (fB_ LP)) (Rw 49 4 (.slice AE mE cE) mE yE) (Bods LBE) (#[vF, (.slice AE mE cE)]) (#[.int .u64 (base2 : Int), .slice BA box2.length bc, .int .u64 (got : Int), .int .i64 sn, .int .u64 (si : Int), .int .i64 peer, .int .u64 (conn : Int), .int .u64 (inc : Int), .int .u64 (known : Int), .bool up, .int .u64 (heard : Int), .int .u64 (st2 : Int)]) (BoxT (.slice BA box2.length bc) box2))) ∧ OneF hx (xv 4) W else if dn 3 = true then Sep w0 W (Bk D r :: Fx lo hi XW :: (TKlF w now g q1 q0 la la0 X Qs kk ffr fto finc fconn pinc pconn ack seq A body.length c (Rw 51 10 vF n xs) (Bods (fB_ LP)) (Rw 49 4 (.slice AE mE cE) mE yE) (Bods LBE) (#[vF, (.slice AE mE cE)]) (#[.int .u64 (base2 : Int), .slice BA box2.length bc, .int .u64 (got : Int), .int .i64 sn, .int .u64 (si : Int), .int .i64 peer, .int .u64 (conn : Int), .int .u64 (inc : Int), .int .u64 (known : Int), .bool up, .int .u64 (heard : Int), .int .u64 (st2 : Int)]) (BoxT (.slice BA box2.length bc) box2))) else Sep w0 W (Bk D r :: Fx lo hi XW :: (TKlF w now g q1 q0 la la0 X Qs kk ffr fto finc fconn pinc pconn ack seq A body.length c (Rw 51 10 vF n xs) (Bods (fB_ LP)) (Rw 49 4 (.slice AE mE cE) mE yE) (Bods LBE) (#[vF, (.slice AE mE cE)]) (#[.int .u64 (base2 : Int), .slice BA box2.length bc, .int .u64 (got : Int), .int .i64 sn, .int .u64 (si : Int), .int .i64 peer, .int .u64 (conn : Int), .int .u64 (inc : Int), .int .u64 (known : Int), .bool up, .int .u64 (heard : Int), .int .u64 (st2 : Int)]) (BoxT (.slice BA box2.length bc) box2)))) → W.cell? ⟨w.heap.size, 0, none⟩ = some (.pointer (some ⟨g, 0, none⟩)) := fun dn xv W h => by
                split at h
                ·obtain ⟨_, h⟩ := h; exact cA (i := 8) h rfl 0 rfl
                split at h
                ·exact cA (i := 8) h rfl 0 rfl
                split at h
                ·have h := h.1; exact cA (i := 8) h rfl 0 rfl
                split at h
                ·exact cA (i := 8) h rfl 0 rfl
                exact cA (i := 8) h rfl 0 rfl
               go_wp2_with fail
               refine wRG (fun dn xv W => if dn 7 = true then ∃ vF, Sep w0 W (Bk D r :: Fx lo hi XW :: (TKlF w now g q1 q0 la la0 X Qs kk ffr fto finc fconn pinc pconn ack seq A body.length c (Rw 51 10 vF (n + 1) (xs ++ hx)) (Bods (fB_ LP)) (Rw 49 4 (.slice AE mE cE) mE yE) (Bods LBE) (#[vF, (.slice AE mE cE)]) (#[.int .u64 (base2 : Int), .slice BA box2.length bc, .int .u64 (got : Int), .int .i64 sn, .int .u64 (si : Int), .int .i64 peer, .int .u64 (conn : Int), .int .u64 (inc : Int), .int .u64 (known : Int), .bool up, .int .u64 (heard : Int), .int .u64 (st2 : Int)]) (BoxT (.slice BA box2.length bc) box2))) else if dn 5 = true then Sep w0 W (Bk D r :: Fx lo hi XW :: (TKlF w now g q1 q0 la la0 X Qs kk ffr fto finc fconn pinc pconn ack seq A body.length c (Rw 51 10 (xv 5) (n + 1) (xs ++ hx)) (Bods (fB_ LP)) (Rw 49 4 (.slice AE mE cE) mE yE) (Bods LBE) (#[vF, (.slice AE mE cE)]) (#[.int .u64 (base2 : Int), .slice BA box2.length bc, .int .u64 (got : Int), .int .i64 sn, .int .u64 (si : Int), .int .i64 peer, .int .u64 (conn : Int), .int .u64 (inc : Int), .int .u64 (known : Int), .bool up, .int .u64 (heard : Int), .int .u64 (st2 : Int)]) (BoxT (.slice BA box2.length bc) box2))) else if dn 4 = true then Sep w0 W (Bk D r :: Fx lo hi XW :: (TKlF w now g q1 q0 la la0 X Qs kk ffr fto finc fconn pinc pconn ack seq A body.length c (Rw 51 10 vF n xs) (Bods (fB_ LP)) (Rw 49 4 (.slice AE mE cE) mE yE) (Bods LBE) (#[vF, (.slice AE mE cE)]) (#[.int .u64 (base2 : Int), .slice BA box2.length bc, .int .u64 (got : Int), .int .i64 sn, .int .u64 (si : Int), .int .i64 peer, .int .u64 (conn : Int), .int .u64 (inc : Int), .int .u64 (known : Int), .bool up, .int .u64 (heard : Int), .int .u64 (st2 : Int)]) (BoxT (.slice BA box2.length bc) box2))) ∧ OneF hx (xv 4) W else if dn 3 = true then Sep w0 W (Bk D r :: Fx lo hi XW :: (TKlF w now g q1 q0 la la0 X Qs kk ffr fto finc fconn pinc pconn ack seq A body.length c (Rw 51 10 vF n xs) (Bods (fB_ LP)) (Rw 49 4 (.slice AE mE cE) mE yE) (Bods LBE) (#[vF, (.slice AE mE cE)]) (#[.int .u64 (base2 : Int), .slice BA box2.length bc, .int .u64 (got : Int), .int .i64 sn, .int .u64 (si : Int), .int .i64 peer, .int .u64 (conn : Int), .int .u64 (inc : Int), .int .u64 (known : Int), .bool up, .int .u64 (heard : Int), .int .u64 (st2 : Int)]) (BoxT (.slice BA box2.length bc) box2))) else Sep w0 W (Bk D r :: Fx lo hi XW :: (TKlF w now g q1 q0 la la0 X Qs kk ffr fto finc fconn pinc pconn ack seq A body.length c (Rw 51 10 vF n xs) (Bods (fB_ LP)) (Rw 49 4 (.slice AE mE cE) mE yE) (Bods LBE) (#[vF, (.slice AE mE cE)]) (#[.int .u64 (base2 : Int), .slice BA box2.length bc, .int .u64 (got : Int), .int .i64 sn, .int .u64 (si : Int), .int .i64 peer, .int .u64 (conn : Int), .int .u64 (inc : Int), .int .u64 (known : Int), .bool up, .int .u64 (heard : Int), .int .u64 (st2 : Int)]) (BoxT (.slice BA box2.length bc) box2)))) (fun _ _ => True) [xP_ (w.heap.size + 1 + 1 + 1 + 1) 0, xV_ vF, xP_ g 0, xV_ (.agg #[.int .i64 1, .int .i64 sn, .int .i64 peer, .int .u64 (si : Int), .int .u64 (conn : Int), .int .u64 (inc : Int), .int .u64 (known : Int), .int .u64 (got : Int), .int .u64 0, .slice none 0 0]), fun v _ => True, fun v _ => True, xP_ (w.heap.size + 1 + 1 + 1 + 1) 0, fun v _ => True] (fun xv => by simpa using HSW.out.drew) ?_ ?_
               ·refine Ep 1 7 (w.heap.size + 1 + 1 + 1 + 1) 0 ?_
                refine EC 2 rfl (fun g h W F a b c d e H K f => ?_) ?_
                ·have f217 := gE (a 217) (by kernel_rfl) (H 0) (by kernel_rfl); have kk := HKO g h W e (c 7 (uM 5 uE)); clear H c b d a; refine oP rfl ?_; go_simp; exact f.out _ _ rfl trivial e
                refine Epk 3 3 w.heap.size 0 (fun g h W e => HKL g h W e) ?_
                refine EC 4 rfl (fun l m W F a b d f h H K k => ?_) ?_
                ·have f219 := gE (a 219) (by kernel_rfl) (H 2) (by kernel_rfl); have q4 := d 4 uE; have q5 := d 5 (uM 4 uE); have q7 := d 7 (uM 5 (uM 4 uE)); rw [if_neg (by simp [q7]), if_neg (by simp [q5]), if_neg (by simp [q4]), if_neg (by simp [b])] at h; have hS := h; clear h d b f a H; refine oP rfl ?_; go_simp; refine (HHE.out W (cH (i := 9) hS rfl)).mono ?_; rintro e W' ⟨rfl, hb⟩; have hs : Sep w0 W' (Bk D r :: Fx lo hi XW :: (TKlF w now g q1 q0 la la0 X Qs kk ffr fto finc fconn pinc pconn ack seq A body.length c (Rw 51 10 vF n xs) (Bods (fB_ LP)) (Rw 49 4 (.slice AE mE cE) mE yE) (Bods LBE) (#[vF, (.slice AE mE cE)]) (#[.int .u64 (base2 : Int), .slice BA box2.length bc, .int .u64 (got : Int), .int .i64 sn, .int .u64 (si : Int), .int .i64 peer, .int .u64 (conn : Int), .int .u64 (inc : Int), .int .u64 (known : Int), .bool up, .int .u64 (heard : Int), .int .u64 (st2 : Int)]) (BoxT (.slice BA box2.length bc) box2))) := hS.grow hb; exact k.out _ W' rfl trivial (by simpa [upB, upd, q4, q5, q7] using hs)
                refine EC 5 rfl (fun i k W F a b d e f H K h => ?_) ?_
                ·have f220 := gE (a 220) (by kernel_rfl) (H 3) (by kernel_rfl); have q3 := (H 3 uE).1; have q5 := d 5 uE; have q7 := d 7 (uM 5 uE); rw [if_neg (by simp [q7]), if_neg (by simp [q5]), if_neg (by simp [b]), if_pos q3] at f; have hS := f; clear f d b e a H; refine oP rfl ?_; have g220 := f220; rw [Array.getD_eq_getD_getElem?] at g220; go_simp; have hb : Below W.heap.size W (W.alloc (.cells #[.int .i64 1, .int .i64 sn, .int .i64 peer, .int .u64 (si : Int), .int .u64 (conn : Int), .int .u64 (inc : Int), .int .u64 (known : Int), .int .u64 (got : Int), .int .u64 0, .slice none 0 0] 51)) := (Below.refl _ _).alloc (Nat.le_refl _) _; have hs : Sep w0 (W.alloc (.cells #[.int .i64 1, .int .i64 sn, .int .i64 peer, .int .u64 (si : Int), .int .u64 (conn : Int), .int .u64 (inc : Int), .int .u64 (known : Int), .int .u64 (got : Int), .int .u64 0, .slice none 0 0] 51)) (Bk D r :: Fx lo hi XW :: (TKlF w now g q1 q0 la la0 X Qs kk ffr fto finc fconn pinc pconn ack seq A body.length c (Rw 51 10 vF n xs) (Bods (fB_ LP)) (Rw 49 4 (.slice AE mE cE) mE yE) (Bods LBE) (#[vF, (.slice AE mE cE)]) (#[.int .u64 (base2 : Int), .slice BA box2.length bc, .int .u64 (got : Int), .int .i64 sn, .int .u64 (si : Int), .int .i64 peer, .int .u64 (conn : Int), .int .u64 (inc : Int), .int .u64 (known : Int), .bool up, .int .u64 (heard : Int), .int .u64 (st2 : Int)]) (BoxT (.slice BA box2.length bc) box2))) ∧ OneF hx (.slice (some ⟨W.heap.size, 0, none⟩) 1 1) (W.alloc (.cells #[.int .i64 1, .int .i64 sn, .int .i64 peer, .int .u64 (si : Int), .int .u64 (conn : Int), .int .u64 (inc : Int), .int .u64 (known : Int), .int .u64 (got : Int), .int .u64 0, .slice none 0 0] 51)) := ⟨hS.grow hb, HXS.out ▸ OneF.new W _⟩; exact h.out _ _ trivial trivial (by simpa [upB, upd, q5, q7] using hs)
                refine EC 6 rfl (fun j k W F a b d e f H K h => ?_) ?_
                ·have f218 := gE (a 218) (by kernel_rfl) (H 1) (by kernel_rfl); have f221 : F.tmps.getD 221 undef = k 4 := (a 221).trans (by kernel_rfl); have q4 := (H 4 uE).1; have q7 := d 7 uE; rw [if_neg (by simp [q7]), if_neg (by simp [b]), if_pos q4] at f; have hS := f; clear f d b e a H; refine oP rfl ?_; obtain ⟨s1, A3, c3, e3, hl3, hh3⟩ := hS; have fex := f221.trans e3; refine sep_opAppW rowFrames (i := 2) (s := .tmp 218) (x := .tmp 221) (m := 1) (news := hx) (by rfl) f218 fex s1 rfl (by rw [hl3]) hh3 HX1.out (by unfold maxLen; omega) (by omega) ?_; intro v W' hs0; have hs : Sep w0 W' (Bk D r :: Fx lo hi XW :: (TKlF w now g q1 q0 la la0 X Qs kk ffr fto finc fconn pinc pconn ack seq A body.length c (Rw 51 10 v (n + 1) (xs ++ hx)) (Bods (fB_ LP)) (Rw 49 4 (.slice AE mE cE) mE yE) (Bods LBE) (#[vF, (.slice AE mE cE)]) (#[.int .u64 (base2 : Int), .slice BA box2.length bc, .int .u64 (got : Int), .int .i64 sn, .int .u64 (si : Int), .int .i64 peer, .int .u64 (conn : Int), .int .u64 (inc : Int), .int .u64 (known : Int), .bool up, .int .u64 (heard : Int), .int .u64 (st2 : Int)]) (BoxT (.slice BA box2.length bc) box2))) := hs0; exact h.out v W' trivial trivial (by simpa [upB, upd, q7] using hs)
                refine Ep 7 7 (w.heap.size + 1 + 1 + 1 + 1) 0 ?_
                refine EC 8 rfl (fun j k W F a b d e f H K h => ?_) ?_
                ·have f222 : F.tmps.getD 222 undef = k 5 := (a 222).trans (by kernel_rfl); have f223 := gE (a 223) (by kernel_rfl) (H 6) (by kernel_rfl); have q5 := (H 5 uE).1; rw [if_neg (by simp [b]), if_pos q5] at f; have hS := f; clear f d b e a H; refine oP rfl ?_; obtain ⟨A2, c2, e2, _⟩ := sep_rwForm (i := 2) hS rfl; have hc3 := cA (i := 6) hS rfl 0 rfl; have hf3 := cFz (i := 6) hS rfl 0; rw [e2] at hS; have hs0 := cS (i := 6) hS rfl 0 (.slice A2 (n + 1) c2); have hs : ∃ vF, Sep w0 (W.setCell ⟨w.heap.size + 1 + 1 + 1 + 1, 0, none⟩ (.slice A2 (n + 1) c2)) (Bk D r :: Fx lo hi XW :: (TKlF w now g q1 q0 la la0 X Qs kk ffr fto finc fconn pinc pconn ack seq A body.length c (Rw 51 10 vF (n + 1) (xs ++ hx)) (Bods (fB_ LP)) (Rw 49 4 (.slice AE mE cE) mE yE) (Bods LBE) (#[vF, (.slice AE mE cE)]) (#[.int .u64 (base2 : Int), .slice BA box2.length bc, .int .u64 (got : Int), .int .i64 sn, .int .u64 (si : Int), .int .i64 peer, .int .u64 (conn : Int), .int .u64 (inc : Int), .int .u64 (known : Int), .bool up, .int .u64 (heard : Int), .int .u64 (st2 : Int)]) (BoxT (.slice BA box2.length bc) box2))) := ⟨_, hs0⟩; clear hs0; go_simp; exact h.out undef _ trivial trivial (by simpa [upB, upd] using hs)
                exact EN
               ·intro dn xv W hI H; have qe : dn 7 = true := (H 7 (of_decide_eq_true (by kernel_rfl))).1; rw [if_pos qe] at hI; have hS := hI; clear H hI qe; simp only [putAll, Act.put, List.setIfInBounds_toArray, List.set_cons_zero, List.set_cons_succ, Nat.reduceAdd]; obtain ⟨vF2, hS⟩ := hS; obtain ⟨A2, c2, rfl, _⟩ := sep_rwForm (i := 2) hS rfl; have HS35 := Lib.hid hS; clear hS HKO HKL; have k0 := cA (i := 6) HS35.out rfl 0 rfl; have k1 := cA (i := 6) HS35.out rfl 1 rfl; have y0 := cFz (i := 7) HS35.out rfl 0; have y1 := cFz (i := 7) HS35.out rfl 1; have z0 := cA (i := 7) HS35.out rfl 0 rfl; have z1 := cA (i := 7) HS35.out rfl 1 rfl; have HSZ := Lib.hid (cS (i := 7) (cS (i := 7) HS35.out rfl 0 (.slice A2 (n + 1) c2)) rfl 1 (.slice AE mE cE))
                go_wp2_with fail
                have HSG := Lib.hid (sep_bkGone HSZ.out); have k0 := cA (i := 6) HSG.out rfl 0 rfl; have k1 := cA (i := 6) HSG.out rfl 1 rfl; refine ⟨by simp, .inl ⟨_, _, rfl, run_takeDeferred (sep_bkAt' (i := 0) HSZ.out rfl), ?_⟩⟩; refine ⟨.agg #[.slice A2 (n + 1) c2, .slice AE mE cE], by simp [results, Try.results15, go_sem, k0, k1], ?_⟩; refine ⟨_, _, .slice BA box2.length bc, LP ++ [(vT.hello, .slice none 0 0)], LE3, rfl, ?_, HE5.out, ?_⟩
                ·rw [HF6.out, ← HLPF.out]; rw [List.map_append]; rfl
                ·rw [HST.out, HmE.out, HyE.out, HLB.out, ← HVT.out]; have hx := ((((((((HSG.out.popF).drop 4).drop 4).drop 4).drop 6).drop 6).drop 6).drop 6).drop 6; have hx := sep_bodsNone (i := 1) hx rfl; rw [List.length_append, frRow_snoc, frBods_snoc, Hn.out, Hxs.out]; rw [← HXS.out] at hx; exact hx
            ·have e26 : decide (base < base2) = false := decide_eq_false hgt; have HGT := Lib.hid hgt; clear hgt; obtain ⟨vF, n, xs, LP, Hn, Hxs, HLP0, hSZ⟩ : ∃ (vF : Value) (n : Nat) (xs : List Value) (LP : List (Fr × Value)), Hid (LP.length = n) ∧ Hid (fR_ LP = xs) ∧ Hid (LP = []) ∧ Sep w0 wc (TKlF w now g q1 q0 la la0 X Qs kk ffr fto finc fconn pinc pconn ack seq A body.length c (Rw 51 10 vF n xs) (Bods (fB_ LP)) (Rw 49 4 (.slice AE mE cE) mE yE) (Bods LBE) (#[vF, (.slice AE mE cE)]) (#[.int .u64 (base2 : Int), .slice BA box2.length bc, .int .u64 (got : Int), .int .i64 sn, .int .u64 (si : Int), .int .i64 peer, .int .u64 (conn : Int), .int .u64 (inc : Int), .int .u64 (known : Int), .bool up, .int .u64 (heard : Int), .int .u64 (st : Int)]) (BoxT (.slice BA box2.length bc) box2)) := ⟨.slice none 0 0, 0, [], [], Lib.hid rfl, Lib.hid rfl, Lib.hid rfl, HS25.out⟩; have HSW := Lib.hid hSZ; have hnb : n ≤ 1000000 := by have := Hn.out; rw [HLP0.out] at this; simp at this; omega
             have HLPF : Hid (LP.map Prod.fst = (if vT.base ≤ base then [] else (vT.fresh la0).map vT.data)) := Lib.hid (by rw [HLP0.out, if_pos (by rw [← HVT.out]; have := HGT.out; simp only; omega)]; rfl); have HST : Hid (sS.take now fF = { vT with sent := st }) := Lib.hid (by rw [HS6.out, if_pos (.inr (by rw [← HVT.out]; have := HGT.out; simp only; omega)), ← HVT.out]); clear hSZ
             go_upto_region 33 with fail
             clear kl kg; cases hb9 with
             | false =>
              obtain ⟨A2, c2, rfl, _⟩ := sep_rwForm (i := 0) HSW.out rfl; have HS35 := HSW; have k0 := cA (i := 4) HS35.out rfl 0 rfl; have k1 := cA (i := 4) HS35.out rfl 1 rfl; have y0 := cFz (i := 5) HS35.out rfl 0; have y1 := cFz (i := 5) HS35.out rfl 1; have z0 := cA (i := 5) HS35.out rfl 0 rfl; have z1 := cA (i := 5) HS35.out rfl 1 rfl; have HSZ := Lib.hid (cS (i := 5) (cS (i := 5) HS35.out rfl 0 (.slice A2 n c2)) rfl 1 (.slice AE mE cE))
              go_wp2_with fail
              have k0 := cA (i := 5) HSZ.out rfl 0 rfl; have k1 := cA (i := 5) HSZ.out rfl 1 rfl; refine ⟨.agg #[.slice A2 n c2, .slice AE mE cE], by simp [results, Try.results15, go_sem, k0, k1], ?_⟩; refine ⟨_, _, .slice BA box2.length bc, LP, LE3, rfl, ?_, HE5.out, ?_⟩
              ·rw [HF6.out, ← HLPF.out]; simp
              ·rw [HST.out, HmE.out, HyE.out, HLB.out, ← HVT.out]; have hx := ((((((((HSZ.out).drop 4).drop 4).drop 4).drop 6).drop 6).drop 6).drop 6).drop 6; rw [Hn.out, Hxs.out]; exact hx
             | true =>
              have HHE := Lib.hid (fun (W : World) hh => hello_any W g base2 (.slice BA box2.length bc) got sn si peer conn inc known up heard st hh); obtain ⟨hx, HXS⟩ : ∃ l, Hid ((heCells got sn si peer conn inc known).toList = l) := ⟨_, Lib.hid rfl⟩; have HX1 : Hid (∀ u ∈ hx, u.oneCell' = true) := Lib.hid (by
               rw [← HXS.out]; intro u hu; simp only [heCells, List.mem_cons, List.not_mem_nil, or_false] at hu
               rcases hu with rfl | rfl | rfl | rfl | rfl | rfl | rfl | rfl | rfl | rfl <;> rfl)
              have HKO : ∀ (dn : Nat → Bool) (xv : Nat → Value) (W : World), (if dn 7 = true then ∃ vF, Sep w0 W (TKlF w now g q1 q0 la la0 X Qs kk ffr fto finc fconn pinc pconn ack seq A body.length c (Rw 51 10 vF (n + 1) (xs ++ hx)) (Bods (fB_ LP)) (Rw 49 4 (.slice AE mE cE) mE yE) (Bods LBE) (#[vF, (.slice AE mE cE)]) (#[.int .u64 (base2 : Int), .slice BA box2.length bc, .int .u64 (got : Int), .int .i64 sn, .int .u64 (si : Int), .int .i64 peer, .int .u64 (conn : Int), .int .u64 (inc : Int), .int .u64 (known : Int), .bool up, .int .u64 (heard : Int), .int .u64 (st : Int)]) (BoxT (.slice BA box2.length bc) box2)) else if dn 5 = true then Sep w0 W (TKlF w now g q1 q0 la la0 X Qs kk ffr fto finc fconn pinc pconn ack seq A body.length c (Rw 51 10 (xv 5) (n + 1) (xs ++ hx)) (Bods (fB_ LP)) (Rw 49 4 (.slice AE mE cE) mE yE) (Bods LBE) (#[vF, (.slice AE mE cE)]) (#[.int .u64 (base2 : Int), .slice BA box2.length bc, .int .u64 (got : Int), .int .i64 sn, .int .u64 (si : Int), .int .i64 peer, .int .u64 (conn : Int), .int .u64 (inc : Int), .int .u64 (known : Int), .bool up, .int .u64 (heard : Int), .int .u64 (st : Int)]) (BoxT (.slice BA box2.length bc) box2)) else if dn 4 = true then Sep w0 W (TKlF w now g q1 q0 la la0 X Qs kk ffr fto finc fconn pinc pconn ack seq A body.length c (Rw 51 10 vF n xs) (Bods (fB_ LP)) (Rw 49 4 (.slice AE mE cE) mE yE) (Bods LBE) (#[vF, (.slice AE mE cE)]) (#[.int .u64 (base2 : Int), .slice BA box2.length bc, .int .u64 (got : Int), .int .i64 sn, .int .u64 (si : Int), .int .i64 peer, .int .u64 (conn : Int), .int .u64 (inc : Int), .int .u64 (known : Int), .bool up, .int .u64 (heard : Int), .int .u64 (st : Int)]) (BoxT (.slice BA box2.length bc) box2)) ∧ OneF hx (xv 4) W else if dn 3 = true then Sep w0 W (TKlF w now g q1 q0 la la0 X Qs kk ffr fto finc fconn pinc pconn ack seq A body.length c (Rw 51 10 vF n xs) (Bods (fB_ LP)) (Rw 49 4 (.slice AE mE cE) mE yE) (Bods LBE) (#[vF, (.slice AE mE cE)]) (#[.int .u64 (base2 : Int), .slice BA box2.length bc, .int .u64 (got : Int), .int .i64 sn, .int .u64 (si : Int), .int .i64 peer, .int .u64 (conn : Int), .int .u64 (inc : Int), .int .u64 (known : Int), .bool up, .int .u64 (heard : Int), .int .u64 (st : Int)]) (BoxT (.slice BA box2.length bc) box2)) else Sep w0 W (TKlF w now g q1 q0 la la0 X Qs kk ffr fto finc fconn pinc pconn ack seq A body.length c (Rw 51 10 vF n xs) (Bods (fB_ LP)) (Rw 49 4 (.slice AE mE cE) mE yE) (Bods LBE) (#[vF, (.slice AE mE cE)]) (#[.int .u64 (base2 : Int), .slice BA box2.length bc, .int .u64 (got : Int), .int .i64 sn, .int .u64 (si : Int), .int .i64 peer, .int .u64 (conn : Int), .int .u64 (inc : Int), .int .u64 (known : Int), .bool up, .int .u64 (heard : Int), .int .u64 (st : Int)]) (BoxT (.slice BA box2.length bc) box2))) → dn 7 = false → W.cell? ⟨w.heap.size + 1 + 1 + 1 + 1, 0, none⟩ = some vF := fun dn xv W h h0 => by
               rw [if_neg (by simp [h0])] at h; split at h
               ·exact cA (i := 4) h rfl 0 rfl
               split at h
               ·have h := h.1; exact cA (i := 4) h rfl 0 rfl
               split at h
               ·exact cA (i := 4) h rfl 0 rfl
               exact cA (i := 4) h rfl 0 rfl
              have HKL : ∀ (dn : Nat → Bool) (xv : Nat → Value) (W : World), (if dn 7 = true then ∃ vF, Sep w0 W (TKlF w now g q1 q0 la la0 X Qs kk ffr fto finc fconn pinc pconn ack seq A body.length c (Rw 51 10 vF (n + 1) (xs ++ hx)) (Bods (fB_ LP)) (Rw 49 4 (.slice AE mE cE) mE yE) (Bods LBE) (#[vF, (.slice AE mE cE)]) (#[.int .u64 (base2 : Int), .slice BA box2.length bc, .int .u64 (got : Int), .int .i64 sn, .int .u64 (si : Int), .int .i64 peer, .int .u64 (conn : Int), .int .u64 (inc : Int), .int .u64 (known : Int), .bool up, .int .u64 (heard : Int), .int .u64 (st : Int)]) (BoxT (.slice BA box2.length bc) box2)) else if dn 5 = true then Sep w0 W (TKlF w now g q1 q0 la la0 X Qs kk ffr fto finc fconn pinc pconn ack seq A body.length c (Rw 51 10 (xv 5) (n + 1) (xs ++ hx)) (Bods (fB_ LP)) (Rw 49 4 (.slice AE mE cE) mE yE) (Bods LBE) (#[vF, (.slice AE mE cE)]) (#[.int .u64 (base2 : Int), .slice BA box2.length bc, .int .u64 (got : Int), .int .i64 sn, .int .u64 (si : Int), .int .i64 peer, .int .u64 (conn : Int), .int .u64 (inc : Int), .int .u64 (known : Int), .bool up, .int .u64 (heard : Int), .int .u64 (st : Int)]) (BoxT (.slice BA box2.length bc) box2)) else if dn 4 = true then Sep w0 W (TKlF w now g q1 q0 la la0 X Qs kk ffr fto finc fconn pinc pconn ack seq A body.length c (Rw 51 10 vF n xs) (Bods (fB_ LP)) (Rw 49 4 (.slice AE mE cE) mE yE) (Bods LBE) (#[vF, (.slice AE mE cE)]) (#[.int .u64 (base2 : Int), .slice BA box2.length bc, .int .u64 (got : Int), .int .i64 sn, .int .u64 (si : Int), .int .i64 peer, .int .u64 (conn : Int), .int .u64 (inc : Int), .int .u64 (known : Int), .bool up, .int .u64 (heard : Int), .int .u64 (st : Int)]) (BoxT (.slice BA box2.length bc) box2)) ∧ OneF hx (xv 4) W else if dn 3 = true then Sep w0 W (TKlF w now g q1 q0 la la0 X Qs kk ffr fto finc fconn pinc pconn ack seq A body.length c (Rw 51 10 vF n xs) (Bods (fB_ LP)) (Rw 49 4 (.slice AE mE cE) mE yE) (Bods LBE) (#[vF, (.slice AE mE cE)]) (#[.int .u64 (base2 : Int), .slice BA box2.length bc, .int .u64 (got : Int), .int .i64 sn, .int .u64 (si : Int), .int .i64 peer, .int .u64 (conn : Int), .int .u64 (inc : Int), .int .u64 (known : Int), .bool up, .int .u64 (heard : Int), .int .u64 (st : Int)]) (BoxT (.slice BA box2.length bc) box2)) else Sep w0 W (TKlF w now g q1 q0 la la0 X Qs kk ffr fto finc fconn pinc pconn ack seq A body.length c (Rw 51 10 vF n xs) (Bods (fB_ LP)) (Rw 49 4 (.slice AE mE cE) mE yE) (Bods LBE) (#[vF, (.slice AE mE cE)]) (#[.int .u64 (base2 : Int), .slice BA box2.length bc, .int .u64 (got : Int), .int .i64 sn, .int .u64 (si : Int), .int .i64 peer, .int .u64 (conn : Int), .int .u64 (inc : Int), .int .u64 (known : Int), .bool up, .int .u64 (heard : Int), .int .u64 (st : Int)]) (BoxT (.slice BA box2.length bc) box2))) → W.cell? ⟨w.heap.size, 0, none⟩ = some (.pointer (some ⟨g, 0, none⟩)) := fun dn xv W h => by
               split at h
               ·obtain ⟨_, h⟩ := h; exact cA (i := 6) h rfl 0 rfl
               split at h
               ·exact cA (i := 6) h rfl 0 rfl
               split at h
               ·have h := h.1; exact cA (i := 6) h rfl 0 rfl
               split at h
               ·exact cA (i := 6) h rfl 0 rfl
               exact cA (i := 6) h rfl 0 rfl
              go_wp2_with fail
              refine wRG (fun dn xv W => if dn 7 = true then ∃ vF, Sep w0 W (TKlF w now g q1 q0 la la0 X Qs kk ffr fto finc fconn pinc pconn ack seq A body.length c (Rw 51 10 vF (n + 1) (xs ++ hx)) (Bods (fB_ LP)) (Rw 49 4 (.slice AE mE cE) mE yE) (Bods LBE) (#[vF, (.slice AE mE cE)]) (#[.int .u64 (base2 : Int), .slice BA box2.length bc, .int .u64 (got : Int), .int .i64 sn, .int .u64 (si : Int), .int .i64 peer, .int .u64 (conn : Int), .int .u64 (inc : Int), .int .u64 (known : Int), .bool up, .int .u64 (heard : Int), .int .u64 (st : Int)]) (BoxT (.slice BA box2.length bc) box2)) else if dn 5 = true then Sep w0 W (TKlF w now g q1 q0 la la0 X Qs kk ffr fto finc fconn pinc pconn ack seq A body.length c (Rw 51 10 (xv 5) (n + 1) (xs ++ hx)) (Bods (fB_ LP)) (Rw 49 4 (.slice AE mE cE) mE yE) (Bods LBE) (#[vF, (.slice AE mE cE)]) (#[.int .u64 (base2 : Int), .slice BA box2.length bc, .int .u64 (got : Int), .int .i64 sn, .int .u64 (si : Int), .int .i64 peer, .int .u64 (conn : Int), .int .u64 (inc : Int), .int .u64 (known : Int), .bool up, .int .u64 (heard : Int), .int .u64 (st : Int)]) (BoxT (.slice BA box2.length bc) box2)) else if dn 4 = true then Sep w0 W (TKlF w now g q1 q0 la la0 X Qs kk ffr fto finc fconn pinc pconn ack seq A body.length c (Rw 51 10 vF n xs) (Bods (fB_ LP)) (Rw 49 4 (.slice AE mE cE) mE yE) (Bods LBE) (#[vF, (.slice AE mE cE)]) (#[.int .u64 (base2 : Int), .slice BA box2.length bc, .int .u64 (got : Int), .int .i64 sn, .int .u64 (si : Int), .int .i64 peer, .int .u64 (conn : Int), .int .u64 (inc : Int), .int .u64 (known : Int), .bool up, .int .u64 (heard : Int), .int .u64 (st : Int)]) (BoxT (.slice BA box2.length bc) box2)) ∧ OneF hx (xv 4) W else if dn 3 = true then Sep w0 W (TKlF w now g q1 q0 la la0 X Qs kk ffr fto finc fconn pinc pconn ack seq A body.length c (Rw 51 10 vF n xs) (Bods (fB_ LP)) (Rw 49 4 (.slice AE mE cE) mE yE) (Bods LBE) (#[vF, (.slice AE mE cE)]) (#[.int .u64 (base2 : Int), .slice BA box2.length bc, .int .u64 (got : Int), .int .i64 sn, .int .u64 (si : Int), .int .i64 peer, .int .u64 (conn : Int), .int .u64 (inc : Int), .int .u64 (known : Int), .bool up, .int .u64 (heard : Int), .int .u64 (st : Int)]) (BoxT (.slice BA box2.length bc) box2)) else Sep w0 W (TKlF w now g q1 q0 la la0 X Qs kk ffr fto finc fconn pinc pconn ack seq A body.length c (Rw 51 10 vF n xs) (Bods (fB_ LP)) (Rw 49 4 (.slice AE mE cE) mE yE) (Bods LBE) (#[vF, (.slice AE mE cE)]) (#[.int .u64 (base2 : Int), .slice BA box2.length bc, .int .u64 (got : Int), .int .i64 sn, .int .u64 (si : Int), .int .i64 peer, .int .u64 (conn : Int), .int .u64 (inc : Int), .int .u64 (known : Int), .bool up, .int .u64 (heard : Int), .int .u64 (st : Int)]) (BoxT (.slice BA box2.length bc) box2))) (fun _ _ => True) [xP_ (w.heap.size + 1 + 1 + 1 + 1) 0, xV_ vF, xP_ g 0, xV_ (.agg #[.int .i64 1, .int .i64 sn, .int .i64 peer, .int .u64 (si : Int), .int .u64 (conn : Int), .int .u64 (inc : Int), .int .u64 (known : Int), .int .u64 (got : Int), .int .u64 0, .slice none 0 0]), fun v _ => True, fun v _ => True, xP_ (w.heap.size + 1 + 1 + 1 + 1) 0, fun v _ => True] (fun xv => by simpa using HSW.out.drew) ?_ ?_
              ·refine Ep 1 7 (w.heap.size + 1 + 1 + 1 + 1) 0 ?_
               refine EC 2 rfl (fun g h W F a b c d e H K f => ?_) ?_
               ·have f217 := gE (a 217) (by kernel_rfl) (H 0) (by kernel_rfl); have kk := HKO g h W e (c 7 (uM 5 uE)); clear H c b d a; refine oP rfl ?_; go_simp; exact f.out _ _ rfl trivial e
               refine Epk 3 3 w.heap.size 0 (fun g h W e => HKL g h W e) ?_
               refine EC 4 rfl (fun l m W F a b d f h H K k => ?_) ?_
               ·have f219 := gE (a 219) (by kernel_rfl) (H 2) (by kernel_rfl); have q4 := d 4 uE; have q5 := d 5 (uM 4 uE); have q7 := d 7 (uM 5 (uM 4 uE)); rw [if_neg (by simp [q7]), if_neg (by simp [q5]), if_neg (by simp [q4]), if_neg (by simp [b])] at h; have hS := h; clear h d b f a H; refine oP rfl ?_; go_simp; refine (HHE.out W (cH (i := 7) hS rfl)).mono ?_; rintro e W' ⟨rfl, hb⟩; have hs : Sep w0 W' (TKlF w now g q1 q0 la la0 X Qs kk ffr fto finc fconn pinc pconn ack seq A body.length c (Rw 51 10 vF n xs) (Bods (fB_ LP)) (Rw 49 4 (.slice AE mE cE) mE yE) (Bods LBE) (#[vF, (.slice AE mE cE)]) (#[.int .u64 (base2 : Int), .slice BA box2.length bc, .int .u64 (got : Int), .int .i64 sn, .int .u64 (si : Int), .int .i64 peer, .int .u64 (conn : Int), .int .u64 (inc : Int), .int .u64 (known : Int), .bool up, .int .u64 (heard : Int), .int .u64 (st : Int)]) (BoxT (.slice BA box2.length bc) box2)) := hS.grow hb; exact k.out _ W' rfl trivial (by simpa [upB, upd, q4, q5, q7] using hs)
               refine EC 5 rfl (fun i k W F a b d e f H K h => ?_) ?_
               ·have f220 := gE (a 220) (by kernel_rfl) (H 3) (by kernel_rfl); have q3 := (H 3 uE).1; have q5 := d 5 uE; have q7 := d 7 (uM 5 uE); rw [if_neg (by simp [q7]), if_neg (by simp [q5]), if_neg (by simp [b]), if_pos q3] at f; have hS := f; clear f d b e a H; refine oP rfl ?_; have g220 := f220; rw [Array.getD_eq_getD_getElem?] at g220; go_simp; have hb : Below W.heap.size W (W.alloc (.cells #[.int .i64 1, .int .i64 sn, .int .i64 peer, .int .u64 (si : Int), .int .u64 (conn : Int), .int .u64 (inc : Int), .int .u64 (known : Int), .int .u64 (got : Int), .int .u64 0, .slice none 0 0] 51)) := (Below.refl _ _).alloc (Nat.le_refl _) _; have hs : Sep w0 (W.alloc (.cells #[.int .i64 1, .int .i64 sn, .int .i64 peer, .int .u64 (si : Int), .int .u64 (conn : Int), .int .u64 (inc : Int), .int .u64 (known : Int), .int .u64 (got : Int), .int .u64 0, .slice none 0 0] 51)) (TKlF w now g q1 q0 la la0 X Qs kk ffr fto finc fconn pinc pconn ack seq A body.length c (Rw 51 10 vF n xs) (Bods (fB_ LP)) (Rw 49 4 (.slice AE mE cE) mE yE) (Bods LBE) (#[vF, (.slice AE mE cE)]) (#[.int .u64 (base2 : Int), .slice BA box2.length bc, .int .u64 (got : Int), .int .i64 sn, .int .u64 (si : Int), .int .i64 peer, .int .u64 (conn : Int), .int .u64 (inc : Int), .int .u64 (known : Int), .bool up, .int .u64 (heard : Int), .int .u64 (st : Int)]) (BoxT (.slice BA box2.length bc) box2)) ∧ OneF hx (.slice (some ⟨W.heap.size, 0, none⟩) 1 1) (W.alloc (.cells #[.int .i64 1, .int .i64 sn, .int .i64 peer, .int .u64 (si : Int), .int .u64 (conn : Int), .int .u64 (inc : Int), .int .u64 (known : Int), .int .u64 (got : Int), .int .u64 0, .slice none 0 0] 51)) := ⟨hS.grow hb, HXS.out ▸ OneF.new W _⟩; exact h.out _ _ trivial trivial (by simpa [upB, upd, q5, q7] using hs)
               refine EC 6 rfl (fun j k W F a b d e f H K h => ?_) ?_
               ·have f218 := gE (a 218) (by kernel_rfl) (H 1) (by kernel_rfl); have f221 : F.tmps.getD 221 undef = k 4 := (a 221).trans (by kernel_rfl); have q4 := (H 4 uE).1; have q7 := d 7 uE; rw [if_neg (by simp [q7]), if_neg (by simp [b]), if_pos q4] at f; have hS := f; clear f d b e a H; refine oP rfl ?_; obtain ⟨s1, A3, c3, e3, hl3, hh3⟩ := hS; have fex := f221.trans e3; refine sep_opAppW rowFrames (i := 0) (s := .tmp 218) (x := .tmp 221) (m := 1) (news := hx) (by rfl) f218 fex s1 rfl (by rw [hl3]) hh3 HX1.out (by unfold maxLen; omega) (by omega) ?_; intro v W' hs0; have hs : Sep w0 W' (TKlF w now g q1 q0 la la0 X Qs kk ffr fto finc fconn pinc pconn ack seq A body.length c (Rw 51 10 v (n + 1) (xs ++ hx)) (Bods (fB_ LP)) (Rw 49 4 (.slice AE mE cE) mE yE) (Bods LBE) (#[vF, (.slice AE mE cE)]) (#[.int .u64 (base2 : Int), .slice BA box2.length bc, .int .u64 (got : Int), .int .i64 sn, .int .u64 (si : Int), .int .i64 peer, .int .u64 (conn : Int), .int .u64 (inc : Int), .int .u64 (known : Int), .bool up, .int .u64 (heard : Int), .int .u64 (st : Int)]) (BoxT (.slice BA box2.length bc) box2)) := hs0; exact h.out v W' trivial trivial (by simpa [upB, upd, q7] using hs)
               refine Ep 7 7 (w.heap.size + 1 + 1 + 1 + 1) 0 ?_
               refine EC 8 rfl (fun j k W F a b d e f H K h => ?_) ?_
               ·have f222 : F.tmps.getD 222 undef = k 5 := (a 222).trans (by kernel_rfl); have f223 := gE (a 223) (by kernel_rfl) (H 6) (by kernel_rfl); have q5 := (H 5 uE).1; rw [if_neg (by simp [b]), if_pos q5] at f; have hS := f; clear f d b e a H; refine oP rfl ?_; obtain ⟨A2, c2, e2, _⟩ := sep_rwForm (i := 0) hS rfl; have hc3 := cA (i := 4) hS rfl 0 rfl; have hf3 := cFz (i := 4) hS rfl 0; rw [e2] at hS; have hs0 := cS (i := 4) hS rfl 0 (.slice A2 (n + 1) c2); have hs : ∃ vF, Sep w0 (W.setCell ⟨w.heap.size + 1 + 1 + 1 + 1, 0, none⟩ (.slice A2 (n + 1) c2)) (TKlF w now g q1 q0 la la0 X Qs kk ffr fto finc fconn pinc pconn ack seq A body.length c (Rw 51 10 vF (n + 1) (xs ++ hx)) (Bods (fB_ LP)) (Rw 49 4 (.slice AE mE cE) mE yE) (Bods LBE) (#[vF, (.slice AE mE cE)]) (#[.int .u64 (base2 : Int), .slice BA box2.length bc, .int .u64 (got : Int), .int .i64 sn, .int .u64 (si : Int), .int .i64 peer, .int .u64 (conn : Int), .int .u64 (inc : Int), .int .u64 (known : Int), .bool up, .int .u64 (heard : Int), .int .u64 (st : Int)]) (BoxT (.slice BA box2.length bc) box2)) := ⟨_, hs0⟩; clear hs0; go_simp; exact h.out undef _ trivial trivial (by simpa [upB, upd] using hs)
               exact EN
              ·intro dn xv W hI H; have qe : dn 7 = true := (H 7 (of_decide_eq_true (by kernel_rfl))).1; rw [if_pos qe] at hI; have hS := hI; clear H hI qe; simp only [putAll, Act.put, List.setIfInBounds_toArray, List.set_cons_zero, List.set_cons_succ, Nat.reduceAdd]; obtain ⟨vF2, hS⟩ := hS; obtain ⟨A2, c2, rfl, _⟩ := sep_rwForm (i := 0) hS rfl; have HS35 := Lib.hid hS; clear hS HKO HKL; have k0 := cA (i := 4) HS35.out rfl 0 rfl; have k1 := cA (i := 4) HS35.out rfl 1 rfl; have y0 := cFz (i := 5) HS35.out rfl 0; have y1 := cFz (i := 5) HS35.out rfl 1; have z0 := cA (i := 5) HS35.out rfl 0 rfl; have z1 := cA (i := 5) HS35.out rfl 1 rfl; have HSZ := Lib.hid (cS (i := 5) (cS (i := 5) HS35.out rfl 0 (.slice A2 (n + 1) c2)) rfl 1 (.slice AE mE cE))
               go_wp2_with fail
               have k0 := cA (i := 5) HSZ.out rfl 0 rfl; have k1 := cA (i := 5) HSZ.out rfl 1 rfl; refine ⟨.agg #[.slice A2 (n + 1) c2, .slice AE mE cE], by simp [results, Try.results15, go_sem, k0, k1], ?_⟩; refine ⟨_, _, .slice BA box2.length bc, LP ++ [(vT.hello, .slice none 0 0)], LE3, rfl, ?_, HE5.out, ?_⟩
               ·rw [HF6.out, ← HLPF.out]; rw [List.map_append]; rfl
               ·rw [HST.out, HmE.out, HyE.out, HLB.out, ← HVT.out]; have hx := ((((((((HSZ.out).drop 4).drop 4).drop 4).drop 6).drop 6).drop 6).drop 6).drop 6; have hx := sep_bodsNone (i := 1) hx rfl; rw [List.length_append, frRow_snoc, frBods_snoc, Hn.out, Hxs.out]; rw [← HXS.out] at hx; exact hx
end Go.Proofs.Ytngegjboenfmeaa
/- Take of any link, whatever frame comes. -/
namespace Go.Proofs.Ytngegjboenfmeaa
open Go Go.RowKit Go.Shelf
set_option linter.unusedVariables false

theorem takeG {w0 w : World} {Qs : List SP} {X : SP} {g now : Nat} {s : LS} {f : Fr} {bx : Value} {A : Option Addr} {c : Nat} (h : Sep w0 w (Ce g 72 (s.cells bx) :: BoxT bx s.box :: X :: Qs)) (hX : Reads X A f.body) (hs : s.Num) (hbl : f.body.length ≤ maxLen) (hack : f.ack < 18446744073709551616) (hseq : f.seq < 18446744073709551616) (hnow : now < 18446744073709551616) :
  Calls Try.prog 15 #[.pointer (some ⟨g, 0, none⟩), .int .u64 (now : Int), .agg (f.cells A c)] w (Ans w0 g (X :: Qs) (s.takeF now f) (s.takeE now f) (s.take now f)) := by
 cases hlk : s.looks f with
 | false => exact takeNo h hX hs hbl hack hseq hnow hlk
 | true =>
  cases hkn : (s.take1 now f).knows f with
  | false => exact takeBack h hX hs hbl hack hseq hnow hlk hkn
  | true => exact takeKnows h hX hs hbl hack hseq hnow hlk hkn
end Go.Proofs.Ytngegjboenfmeaa
/- Steps of the two links' harness over the plain machine. -/
namespace Go.Proofs.Ytngegjboenfmeaa
open Go Go.RowKit
set_option linter.unusedVariables false
set_option linter.unusedSimpArgs false
set_option maxRecDepth 100000

def TwA (a0 a1 : Nat) (w0 w : World) (g : Nat) (T : TW) (Qs : List SP) : Prop := ∃ b0 b1 v0 v1 W0 W1 BB bs bt, W0.map Prod.fst = T.way false ∧ W1.map Prod.fst = T.way true ∧ (∀ x ∈ fB_ W0, x ∈ BB) ∧ (∀ x ∈ fB_ W1, x ∈ BB) ∧
 Sep w0 w (TWL g a0 a1 b0 b1 v0 v1 W0 W1 BB bs bt T Qs)
/-- an answer is at hand: frames and events -/
def MidA (a0 a1 : Nat) (v : Value) (w0 w : World) (g : Nat) (T : TW) (F : List Fr) (E : List Ev) (Qs : List SP) : Prop := ∃ vF vE LP LE b0 b1 v0 v1 W0 W1 BB bs bt, v = .agg #[vF, vE] ∧ LP.map Prod.fst = F ∧ LE.map Prod.fst = E ∧
 W0.map Prod.fst = T.way false ∧ W1.map Prod.fst = T.way true ∧ (∀ x ∈ fB_ W0, x ∈ BB) ∧ (∀ x ∈ fB_ W1, x ∈ BB) ∧
 Sep w0 w (Rw 51 10 vF LP.length (fR_ LP) :: Bods (fB_ LP) :: Rw 49 4 vE LE.length (eR_ LE) :: Bods (eB_ LE) :: TWL g a0 a1 b0 b1 v0 v1 W0 W1 BB bs bt T Qs)
def TW.withL (T : TW) (i : Bool) (s : LS) : TW := { T with l := atB T.l i s }
/-- numbers that stay small -/
structure TW.Ok (T : TW) (B : Nat) : Prop where
 num : ∀ i, (T.l i).Num
 ids : ∀ i, (T.l i).si ≤ B ∧ (T.l i).conn ≤ B ∧ (T.l i).inc ≤ B ∧ (T.l i).known ≤ B
 now : ∀ i, T.now i ≤ B
 way : ∀ i, (T.way i).length ≤ B
 frs : ∀ i, ∀ f ∈ T.way i, f.inc ≤ B ∧ f.conn ≤ B ∧ f.ack ≤ 34359738367 ∧ f.seq ≤ 34359738375 ∧ f.body.length ≤ 448
 told : ∀ p, (T.told p).length ≤ B
 sent : ∀ p, (T.sent p).length ≤ B
 n : T.n ≤ B
theorem TW.Ok.prR {T : TW} {B : Nat} (h : T.Ok B) (i : Bool) (hB : B ≤ 1000000000) : prOk (T.rp i) := by
 obtain ⟨h1, h2, h3, h4⟩ := h.ids i; refine ⟨by cases i <;> simp [TW.rp, TW.pr, side], ?_, ?_, ?_, ?_⟩ <;> simp only [TW.rp] <;> omega
theorem TW.Ok.prP {T : TW} {B : Nat} (h : T.Ok B) (i : Bool) (hB : B ≤ 1000000000) : prOk (T.pr i) := by
 obtain ⟨h1, h2, h3, h4⟩ := h.ids i; refine ⟨by cases i <;> simp [TW.rp, TW.pr, side], ?_, ?_, ?_, ?_⟩ <;> simp only [TW.pr] <;> omega
/-- what a link keeps -/
def Same (t s : LS) : Prop := t.sn = s.sn ∧ t.si = s.si ∧ t.peer = s.peer
theorem Same.refl (s : LS) : Same s s := ⟨rfl, rfl, rfl⟩
theorem Same.trans {a b c : LS} (h : Same a b) (h2 : Same b c) : Same a c := ⟨h.1.trans h2.1, h.2.1.trans h2.2.1, h.2.2.trans h2.2.2⟩
theorem tick1_same (s : LS) (now : Nat) : Same (s.tick1 now) s := by
 unfold LS.tick1; split <;> exact ⟨rfl, rfl, rfl⟩
theorem tick_same (s : LS) (now : Nat) : Same (s.tick now) s := by
 unfold LS.tick; simp only; split <;> exact tick1_same s now
theorem turn_same (s : LS) (f : Fr) : Same (s.turn f) s := by
 unfold LS.turn; split <;> exact ⟨rfl, rfl, rfl⟩
theorem take1_same (s : LS) (now : Nat) (f : Fr) : Same (s.take1 now f) s := turn_same s f
theorem take4_same (s : LS) (f : Fr) : Same (s.take4 f) s := by
 unfold LS.take4; split <;> exact ⟨rfl, rfl, rfl⟩
theorem take5_same (s : LS) (now : Nat) (f : Fr) : Same (s.take5 now f) s := by
 unfold LS.take5; simp only; split <;> exact take4_same (s.take3 f) f
theorem take_same (s : LS) (now : Nat) (f : Fr) : Same (s.take now f) s := by
 unfold LS.take; simp only; split
 ·split
  ·exact (take5_same _ now f).trans (take1_same s now f)
  ·exact take1_same s now f
 ·exact Same.refl s
theorem frRow_app (A B : List (Fr × Value)) : fR_ (A ++ B) = fR_ A ++ fR_ B := by simp [fR_]
theorem frBods_app (A B : List (Fr × Value)) : fB_ (A ++ B) = fB_ A ++ fB_ B := by simp [fB_]
theorem send_l (T : TW) (i : Bool) : (T.send i).l = atB T.l i ((T.l i).send (T.now i) (bodyN T.n i)) ∧ (T.send i).now = T.now ∧ (T.send i).told = T.told ∧ (T.send i).n = (if (T.l i).sendE (bodyN T.n i) = 0 then T.n + 1 else T.n) ∧
  (T.send i).sent = (if (T.l i).sendE (bodyN T.n i) = 0 then updM T.sent (T.pr i) (T.sent (T.pr i) ++ [bodyN T.n i]) else T.sent) := by
 unfold TW.send; simp only; split
 ·rename_i h
  have h' : (T.l i).sendE (bodyN T.n i) = 0 := h; refine ⟨rfl, rfl, rfl, rfl, ?_⟩; have hp : ∀ s : LS, s = (T.l i).send (T.now i) (bodyN T.n i) → TW.pr { T with l := atB T.l i s } i = T.pr i := by
   rintro s rfl; obtain ⟨_, _, h3, _, h5, h6, h7⟩ := send_up (s := T.l i) (now := T.now i) (b := bodyN T.n i); unfold TW.pr; simp only [atB_same, h3, h5, h6, h7]
  show updM T.sent _ _ = _; rw [hp _ rfl]
 ·rename_i h
  have h' : ¬ (T.l i).sendE (bodyN T.n i) = 0 := h; exact ⟨rfl, rfl, rfl, rfl, rfl⟩
theorem send_way0 {T : TW} : (T.send false).way = atB T.way (!false) (T.way (!false) ++ (T.l false).sendF (bodyN T.n false)) := by
 unfold TW.send; simp only; split <;> rfl
theorem send_way1 {T : TW} : (T.send true).way = atB T.way (!true) (T.way (!true) ++ (T.l true).sendF (bodyN T.n true)) := by
 unfold TW.send; simp only; split <;> rfl
theorem tickA0 {w0 w : World} {g a0 a1 B : Nat} {T : TW} {Qs : List SP} (h : TwA a0 a1 w0 w g T Qs) (hO : T.Ok B) (hB : B ≤ 1000000000) :
  Calls Try.prog 14 #[.pointer (some ⟨a0, 0, none⟩), .int .u64 ((T.now false : Nat) : Int)] w fun e w' => ∃ v, e = .returned v ∧ MidA a0 a1 v w0 w' g (T.withL false ((T.l false).tick (T.now false))) ((T.l false).tickF (T.now false)) ((T.l false).tickE (T.now false)) Qs := by
 obtain ⟨b0, b1, v0, v1, W0, W1, BB, bs, bt, q1, q2, q3, q4, h⟩ := h; have hn := hO.now false; have hc := (hO.ids false).2.1; have h1 := (show Sep w0 w (Ce a0 72 ((T.l false).cells b0) :: BoxT b0 (T.l false).box :: Ce g 34 (twC (.pointer (some ⟨a0, 0, none⟩)) (.pointer (some ⟨a1, 0, none⟩)) (T.l false).si (T.l true).si (T.now false) (T.now true) v0 v1 bs bt T.n) :: Ce a1 72 ((T.l true).cells b1) :: BoxT b1 (T.l true).box :: RwO 51 10 v0 W0.length (fR_ W0) :: RwO 51 10 v1 W1.length (fR_ W1) :: Bods BB :: MapT bs T.sent :: MapT bt T.told :: Qs) from (((h).tF 0 rfl).tF 2 rfl).tF 2 rfl); refine (tickG h1 (hO.num false) (by omega) (by omega)).mono ?_; rintro e w' ⟨vF, vE, b', LP, LE, rfl, e1, e2, h2⟩; refine ⟨_, rfl, vF, vE, LP, LE, b', b1, v0, v1, W0, W1, BB, bs, bt, rfl, e1, e2, q1, q2, q3, q4, ?_⟩; rw [← (tick_same (T.l false) (T.now false)).2.1] at h2; exact (show Sep w0 w' (Rw 51 10 vF LP.length (fR_ LP) :: Bods (fB_ LP) :: Rw 49 4 vE LE.length (eR_ LE) :: Bods (eB_ LE) :: Ce g 34 (twC (.pointer (some ⟨a0, 0, none⟩)) (.pointer (some ⟨a1, 0, none⟩)) ((T.l false).tick (T.now false)).si (T.l true).si (T.now false) (T.now true) v0 v1 bs bt T.n) :: Ce a0 72 (((T.l false).tick (T.now false)).cells b') :: BoxT b' ((T.l false).tick (T.now false)).box :: Ce a1 72 ((T.l true).cells b1) :: BoxT b1 (T.l true).box :: RwO 51 10 v0 W0.length (fR_ W0) :: RwO 51 10 v1 W1.length (fR_ W1) :: Bods BB :: MapT bs T.sent :: MapT bt T.told :: Qs) from (((((((h2).tF 5 rfl).tF 5 rfl).tF 6 rfl).tF 6 rfl).tF 6 rfl).tF 6 rfl).tF 6 rfl)
set_option maxHeartbeats 1600000 in
theorem takeA0 {w0 w : World} {g a0 a1 B : Nat} {T : TW} {X : SP} {Qs : List SP} {f : Fr} {A : Option Addr} {c : Nat} (h : TwA a0 a1 w0 w g T (X :: Qs)) (hX : Reads X A f.body) (hO : T.Ok B) (hB : B ≤ 1000000000) (hbl : f.body.length ≤ maxLen) (hack : f.ack < 18446744073709551616) (hseq : f.seq < 18446744073709551616) :
  Calls Try.prog 15 #[.pointer (some ⟨a0, 0, none⟩), .int .u64 ((T.now false : Nat) : Int), .agg (f.cells A c)] w fun e w' => ∃ v, e = .returned v ∧ MidA a0 a1 v w0 w' g (T.withL false ((T.l false).take (T.now false) f)) ((T.l false).takeF (T.now false) f) ((T.l false).takeE (T.now false) f) (X :: Qs) := by
 obtain ⟨b0, b1, v0, v1, W0, W1, BB, bs, bt, q1, q2, q3, q4, h⟩ := h; have hn := hO.now false; have h1 := (show Sep w0 w (Ce a0 72 ((T.l false).cells b0) :: BoxT b0 (T.l false).box :: X :: Ce g 34 (twC (.pointer (some ⟨a0, 0, none⟩)) (.pointer (some ⟨a1, 0, none⟩)) (T.l false).si (T.l true).si (T.now false) (T.now true) v0 v1 bs bt T.n) :: Ce a1 72 ((T.l true).cells b1) :: BoxT b1 (T.l true).box :: RwO 51 10 v0 W0.length (fR_ W0) :: RwO 51 10 v1 W1.length (fR_ W1) :: Bods BB :: MapT bs T.sent :: MapT bt T.told :: Qs) from ((((((((((((show Sep w0 w (Ce g 34 (twC (.pointer (some ⟨a0, 0, none⟩)) (.pointer (some ⟨a1, 0, none⟩)) (T.l false).si (T.l true).si (T.now false) (T.now true) v0 v1 bs bt T.n) :: Ce a0 72 ((T.l false).cells b0) :: BoxT b0 (T.l false).box :: Ce a1 72 ((T.l true).cells b1) :: BoxT b1 (T.l true).box :: RwO 51 10 v0 W0.length (fR_ W0) :: RwO 51 10 v1 W1.length (fR_ W1) :: Bods BB :: MapT bs T.sent :: MapT bt T.told :: X :: Qs) from h)).tF 9 rfl).tF 9 rfl).tF 9 rfl).tF 9 rfl).tF 9 rfl).tF 9 rfl).tF 9 rfl).tF 7 rfl).tF 10 rfl).tF 10 rfl).tF 10 rfl); refine (takeG h1 hX (hO.num false) hbl hack hseq (by omega)).mono ?_; rintro e w' ⟨vF, vE, b', LP, LE, rfl, e1, e2, h2⟩; refine ⟨_, rfl, vF, vE, LP, LE, b', b1, v0, v1, W0, W1, BB, bs, bt, rfl, e1, e2, q1, q2, q3, q4, ?_⟩; rw [← (take_same (T.l false) (T.now false) f).2.1] at h2; exact (show Sep w0 w' (Rw 51 10 vF LP.length (fR_ LP) :: Bods (fB_ LP) :: Rw 49 4 vE LE.length (eR_ LE) :: Bods (eB_ LE) :: Ce g 34 (twC (.pointer (some ⟨a0, 0, none⟩)) (.pointer (some ⟨a1, 0, none⟩)) ((T.l false).take (T.now false) f).si (T.l true).si (T.now false) (T.now true) v0 v1 bs bt T.n) :: Ce a0 72 (((T.l false).take (T.now false) f).cells b') :: BoxT b' ((T.l false).take (T.now false) f).box :: Ce a1 72 ((T.l true).cells b1) :: BoxT b1 (T.l true).box :: RwO 51 10 v0 W0.length (fR_ W0) :: RwO 51 10 v1 W1.length (fR_ W1) :: Bods BB :: MapT bs T.sent :: MapT bt T.told :: X :: Qs) from (((((((((((((((h2).tF 6 rfl).tF 14 rfl).tF 14 rfl).tF 14 rfl).tF 14 rfl).tF 14 rfl).tF 14 rfl).tF 14 rfl).tF 13 rfl).tF 13 rfl).tF 14 rfl).tF 14 rfl).tF 14 rfl).tF 14 rfl).tF 14 rfl)
theorem ansA0 {w0 w : World} {g a0 a1 B : Nat} {T : TW} {v : Value} {F : List Fr} {E : List Ev} {Qs : List SP} (h : MidA a0 a1 v w0 w g T F E Qs) (hO : T.Ok B) (hB : B ≤ 1000000000) (hF : F.length ≤ 1000) (hE : E.length ≤ 1000) :
  Calls Try.prog 31 #[.pointer (some ⟨g, 0, none⟩), .int .i64 0, v] w fun e w' => e = .returned (.tuple #[]) ∧ TwA a0 a1 w0 w' g (T.ans false F E) Qs := by
 obtain ⟨vF, vE, LP, LE, b0, b1, v0, v1, W0, W1, BB, bs, bt, rfl, e1, e2, q1, q2, q3, q4, h⟩ := h; have hx1 := frRow_one (i := 1) h rfl; have h1 := (show Sep w0 w (Rw 51 10 vF LP.length (fR_ LP) :: Rw 49 4 vE LE.length (eR_ LE) :: Bods (eB_ LE) :: Ce g 34 (twC (.pointer (some ⟨a0, 0, none⟩)) (.pointer (some ⟨a1, 0, none⟩)) (T.l false).si (T.l true).si (T.now false) (T.now true) v0 v1 bs bt T.n) :: Ce a0 72 ((T.l false).cells b0) :: RwO 51 10 v1 W1.length (fR_ W1) :: MapT bt T.told :: Bods (fB_ LP) :: BoxT b0 (T.l false).box :: Ce a1 72 ((T.l true).cells b1) :: BoxT b1 (T.l true).box :: RwO 51 10 v0 W0.length (fR_ W0) :: Bods BB :: MapT bs T.sent :: Qs) from ((((((((((((((h).tF 12 rfl).tF 12 rfl).tF 11 rfl).tF 11 rfl).tF 11 rfl).tF 11 rfl).tF 7 rfl).tF 13 rfl).tF 13 rfl).tF 13 rfl).tF 13 rfl).tF 13 rfl).tF 13 rfl).tF 13 rfl); have hl := hO.way true; have hLP : LP.length = F.length := by rw [← e1, List.length_map]
 have hLE : LE.length = E.length := by rw [← e2, List.length_map]
 have hW : W1.length = (T.way true).length := by rw [← q2, List.length_map]
 refine (answer0 (v1 := .slice none 0 0) h1 hx1 (hO.num false).sn (hO.prR false hB) (by omega) (by omega) (fun p => by have := hO.told p; omega)).mono ?_; rintro e w' ⟨rfl, v', h2⟩; rw [e2, ← List.length_append, ← frRow_app] at h2; have h3 := sep_bodsJoin ((show Sep w0 w' (Bods (fB_ LP) :: Bods BB :: Ce g 34 (twC (.pointer (some ⟨a0, 0, none⟩)) (.pointer (some ⟨a1, 0, none⟩)) (T.l false).si (T.l true).si (T.now false) (T.now true) v0 v' bs bt T.n) :: Ce a0 72 ((T.l false).cells b0) :: BoxT b0 (T.l false).box :: Ce a1 72 ((T.l true).cells b1) :: BoxT b1 (T.l true).box :: RwO 51 10 v0 W0.length (fR_ W0) :: RwO 51 10 v' (W1 ++ LP).length (fR_ (W1 ++ LP)) :: MapT bs T.sent :: MapT bt (tellE T.told (T.rp false) E) :: Qs) from (((((((((((h2).tF 3 rfl).tF 10 rfl).tF 4 rfl).tF 9 rfl).tF 9 rfl).tF 9 rfl).tF 9 rfl).tF 8 rfl).tF 8 rfl).tF 10 rfl).tF 10 rfl)); have h4 := (show Sep w0 w' (Ce g 34 (twC (.pointer (some ⟨a0, 0, none⟩)) (.pointer (some ⟨a1, 0, none⟩)) (T.l false).si (T.l true).si (T.now false) (T.now true) v0 v' bs bt T.n) :: Ce a0 72 ((T.l false).cells b0) :: BoxT b0 (T.l false).box :: Ce a1 72 ((T.l true).cells b1) :: BoxT b1 (T.l true).box :: RwO 51 10 v0 W0.length (fR_ W0) :: RwO 51 10 v' (W1 ++ LP).length (fR_ (W1 ++ LP)) :: Bods (BB ++ fB_ LP) :: MapT bs T.sent :: MapT bt (tellE T.told (T.rp false) E) :: Qs) from ((((((((h3).tF 0 rfl).tF 7 rfl).tF 7 rfl).tF 7 rfl).tF 7 rfl).tF 7 rfl).tF 7 rfl).tF 7 rfl); refine ⟨rfl, b0, b1, v0, v', W0, W1 ++ LP, BB ++ fB_ LP, bs, bt, q1, by rw [List.map_append, q2, e1]; rfl, fun x hx => List.mem_append_left _ (q3 x hx), fun x hx => by rw [frBods_app] at hx; exact (List.mem_append.1 hx).elim (fun h => List.mem_append_left _ (q4 x h)) (fun h => List.mem_append_right _ h), h4⟩
theorem sendA0 {w0 w : World} {g a0 a1 B : Nat} {T : TW} {Qs : List SP} (h : TwA a0 a1 w0 w g T Qs) (hO : T.Ok B) (hB : B ≤ 1000000000) :
  Calls Try.prog 29 #[.pointer (some ⟨g, 0, none⟩), .int .i64 0] w fun e w' => e = .returned (.tuple #[]) ∧ TwA a0 a1 w0 w' g (T.send false) Qs := by
 obtain ⟨b0, b1, v0, v1, W0, W1, BB, bs, bt, q1, q2, q3, q4, h⟩ := h; have h1 := (show Sep w0 w (Ce g 34 (twC (.pointer (some ⟨a0, 0, none⟩)) (.pointer (some ⟨a1, 0, none⟩)) (T.l false).si (T.l true).si (T.now false) (T.now true) v0 v1 bs bt T.n) :: Ce a0 72 ((T.l false).cells b0) :: BoxT b0 (T.l false).box :: RwO 51 10 v1 W1.length (fR_ W1) :: MapT bs T.sent :: MapT bt T.told :: Ce a1 72 ((T.l true).cells b1) :: BoxT b1 (T.l true).box :: RwO 51 10 v0 W0.length (fR_ W0) :: Bods BB :: Qs) from ((((((((((h).tF 7 rfl).tF 6 rfl).tF 6 rfl).tF 6 rfl).tF 9 rfl).tF 9 rfl).tF 9 rfl).tF 9 rfl).tF 9 rfl).tF 9 rfl); have hl := hO.way true; have hW : W1.length = (T.way true).length := by rw [← q2, List.length_map]
 refine (send0 h1 (hO.num false) (by have := hO.n; omega) (hO.prP false hB) (hO.prR false hB) (by omega) (by have := hO.sent (T.pr false); exact Nat.le_trans this (by omega)) (fun p => Nat.le_trans (hO.told p) (by omega)) (by have := hO.now false; omega)).mono ?_; rintro e w' ⟨rfl, v', b', LP, e1, h2⟩; rw [← List.length_append, ← frRow_app] at h2; have h3 := sep_bodsJoin ((show Sep w0 w' (Bods (fB_ LP) :: Bods BB :: Ce g 34 (twC (.pointer (some ⟨a0, 0, none⟩)) (.pointer (some ⟨a1, 0, none⟩)) (T.l false).si (T.l true).si (T.now false) (T.now true) v0 v' bs bt (if (T.l false).sendE (bodyN T.n false) = 0 then T.n + 1 else T.n)) :: Ce a0 72 (((T.l false).send (T.now false) (bodyN T.n false)).cells b') :: BoxT b' ((T.l false).send (T.now false) (bodyN T.n false)).box :: Ce a1 72 ((T.l true).cells b1) :: BoxT b1 (T.l true).box :: RwO 51 10 v0 W0.length (fR_ W0) :: RwO 51 10 v' (W1 ++ LP).length (fR_ (W1 ++ LP)) :: MapT bs (if (T.l false).sendE (bodyN T.n false) = 0 then updM T.sent (T.pr false) (T.sent (T.pr false) ++ [bodyN T.n false]) else T.sent) :: MapT bt T.told :: Qs) from (((((((((((h2).tF 5 rfl).tF 5 rfl).tF 5 rfl).tF 9 rfl).tF 9 rfl).tF 9 rfl).tF 8 rfl).tF 8 rfl).tF 8 rfl).tF 10 rfl).tF 10 rfl)); have h4 := (show Sep w0 w' (Ce g 34 (twC (.pointer (some ⟨a0, 0, none⟩)) (.pointer (some ⟨a1, 0, none⟩)) (T.l false).si (T.l true).si (T.now false) (T.now true) v0 v' bs bt (if (T.l false).sendE (bodyN T.n false) = 0 then T.n + 1 else T.n)) :: Ce a0 72 (((T.l false).send (T.now false) (bodyN T.n false)).cells b') :: BoxT b' ((T.l false).send (T.now false) (bodyN T.n false)).box :: Ce a1 72 ((T.l true).cells b1) :: BoxT b1 (T.l true).box :: RwO 51 10 v0 W0.length (fR_ W0) :: RwO 51 10 v' (W1 ++ LP).length (fR_ (W1 ++ LP)) :: Bods (BB ++ fB_ LP) :: MapT bs (if (T.l false).sendE (bodyN T.n false) = 0 then updM T.sent (T.pr false) (T.sent (T.pr false) ++ [bodyN T.n false]) else T.sent) :: MapT bt T.told :: Qs) from ((((((((h3).tF 0 rfl).tF 7 rfl).tF 7 rfl).tF 7 rfl).tF 7 rfl).tF 7 rfl).tF 7 rfl).tF 7 rfl); refine ⟨rfl, b', b1, v0, v', W0, W1 ++ LP, BB ++ fB_ LP, bs, bt, ?_, ?_, fun x hx => List.mem_append_left _ (q3 x hx), fun x hx => by rw [frBods_app] at hx; exact (List.mem_append.1 hx).elim (fun h => List.mem_append_left _ (q4 x h)) (fun h => List.mem_append_right _ h), ?_⟩
 ·rw [send_way0]; exact q1
 ·rw [send_way0]; rw [List.map_append, q2, e1]; rfl
 ·obtain ⟨s1, s2, s3, s4, s5⟩ := send_l T false; unfold TWL; rw [s1, s2, s3, s4, s5]; obtain ⟨_, _, u3, _⟩ := send_up (s := T.l false) (now := T.now false) (b := bodyN T.n false); rw [← u3] at h4; exact h4
theorem lifeA0 {w0 w : World} {g a0 a1 B : Nat} {T : TW} {Qs : List SP} (h : TwA a0 a1 w0 w g T Qs) (hO : T.Ok B) (hB : B ≤ 1000000000) :
  Calls Try.prog 30 #[.pointer (some ⟨g, 0, none⟩), .int .i64 0] w fun e w' => e = .returned (.tuple #[]) ∧ ∃ a, TwA a a1 w0 w' g (T.life false) Qs := by
 obtain ⟨b0, b1, v0, v1, W0, W1, BB, bs, bt, q1, q2, q3, q4, h⟩ := h; refine (life0 h (by have := (hO.ids false).1; omega)).mono ?_; rintro e w' ⟨rfl, a, h1⟩; have h2 := (h1.drop 3).drop 3; refine ⟨rfl, a, .slice none 0 0, b1, v0, v1, W0, W1, BB, bs, bt, q1, q2, q3, q4, ?_⟩; exact (show Sep w0 w' (Ce g 34 (twC (.pointer (some ⟨a, 0, none⟩)) (.pointer (some ⟨a1, 0, none⟩)) ((T.l false).si + 1) (T.l true).si (T.now false) (T.now true) v0 v1 bs bt T.n) :: Ce a 72 ((newLk false ((T.l false).si + 1)).cells (.slice none 0 0)) :: BoxT (.slice none 0 0) [] :: Ce a1 72 ((T.l true).cells b1) :: BoxT b1 (T.l true).box :: RwO 51 10 v0 W0.length (fR_ W0) :: RwO 51 10 v1 W1.length (fR_ W1) :: Bods BB :: MapT bs T.sent :: MapT bt T.told :: Qs) from h2)
theorem tickA1 {w0 w : World} {g a0 a1 B : Nat} {T : TW} {Qs : List SP} (h : TwA a0 a1 w0 w g T Qs) (hO : T.Ok B) (hB : B ≤ 1000000000) :
  Calls Try.prog 14 #[.pointer (some ⟨a1, 0, none⟩), .int .u64 ((T.now true : Nat) : Int)] w fun e w' => ∃ v, e = .returned v ∧ MidA a0 a1 v w0 w' g (T.withL true ((T.l true).tick (T.now true))) ((T.l true).tickF (T.now true)) ((T.l true).tickE (T.now true)) Qs := by
 obtain ⟨b0, b1, v0, v1, W0, W1, BB, bs, bt, q1, q2, q3, q4, h⟩ := h; have hn := hO.now true; have hc := (hO.ids true).2.1; have h1 := (show Sep w0 w (Ce a1 72 ((T.l true).cells b1) :: BoxT b1 (T.l true).box :: Ce g 34 (twC (.pointer (some ⟨a0, 0, none⟩)) (.pointer (some ⟨a1, 0, none⟩)) (T.l false).si (T.l true).si (T.now false) (T.now true) v0 v1 bs bt T.n) :: Ce a0 72 ((T.l false).cells b0) :: BoxT b0 (T.l false).box :: RwO 51 10 v0 W0.length (fR_ W0) :: RwO 51 10 v1 W1.length (fR_ W1) :: Bods BB :: MapT bs T.sent :: MapT bt T.told :: Qs) from (((((h).tF 2 rfl).tF 2 rfl).tF 2 rfl).tF 4 rfl).tF 4 rfl); refine (tickG h1 (hO.num true) (by omega) (by omega)).mono ?_; rintro e w' ⟨vF, vE, b', LP, LE, rfl, e1, e2, h2⟩; refine ⟨_, rfl, vF, vE, LP, LE, b0, b', v0, v1, W0, W1, BB, bs, bt, rfl, e1, e2, q1, q2, q3, q4, ?_⟩; rw [← (tick_same (T.l true) (T.now true)).2.1] at h2; exact (show Sep w0 w' (Rw 51 10 vF LP.length (fR_ LP) :: Bods (fB_ LP) :: Rw 49 4 vE LE.length (eR_ LE) :: Bods (eB_ LE) :: Ce g 34 (twC (.pointer (some ⟨a0, 0, none⟩)) (.pointer (some ⟨a1, 0, none⟩)) (T.l false).si ((T.l true).tick (T.now true)).si (T.now false) (T.now true) v0 v1 bs bt T.n) :: Ce a0 72 ((T.l false).cells b0) :: BoxT b0 (T.l false).box :: Ce a1 72 (((T.l true).tick (T.now true)).cells b') :: BoxT b' ((T.l true).tick (T.now true)).box :: RwO 51 10 v0 W0.length (fR_ W0) :: RwO 51 10 v1 W1.length (fR_ W1) :: Bods BB :: MapT bs T.sent :: MapT bt T.told :: Qs) from (((((((((h2).tF 5 rfl).tF 5 rfl).tF 8 rfl).tF 8 rfl).tF 8 rfl).tF 8 rfl).tF 8 rfl).tF 8 rfl).tF 8 rfl)
set_option maxHeartbeats 1600000 in
theorem takeA1 {w0 w : World} {g a0 a1 B : Nat} {T : TW} {X : SP} {Qs : List SP} {f : Fr} {A : Option Addr} {c : Nat} (h : TwA a0 a1 w0 w g T (X :: Qs)) (hX : Reads X A f.body) (hO : T.Ok B) (hB : B ≤ 1000000000) (hbl : f.body.length ≤ maxLen) (hack : f.ack < 18446744073709551616) (hseq : f.seq < 18446744073709551616) :
  Calls Try.prog 15 #[.pointer (some ⟨a1, 0, none⟩), .int .u64 ((T.now true : Nat) : Int), .agg (f.cells A c)] w fun e w' => ∃ v, e = .returned v ∧ MidA a0 a1 v w0 w' g (T.withL true ((T.l true).take (T.now true) f)) ((T.l true).takeF (T.now true) f) ((T.l true).takeE (T.now true) f) (X :: Qs) := by
 obtain ⟨b0, b1, v0, v1, W0, W1, BB, bs, bt, q1, q2, q3, q4, h⟩ := h; have hn := hO.now true; have h1 := (show Sep w0 w (Ce a1 72 ((T.l true).cells b1) :: BoxT b1 (T.l true).box :: X :: Ce g 34 (twC (.pointer (some ⟨a0, 0, none⟩)) (.pointer (some ⟨a1, 0, none⟩)) (T.l false).si (T.l true).si (T.now false) (T.now true) v0 v1 bs bt T.n) :: Ce a0 72 ((T.l false).cells b0) :: BoxT b0 (T.l false).box :: RwO 51 10 v0 W0.length (fR_ W0) :: RwO 51 10 v1 W1.length (fR_ W1) :: Bods BB :: MapT bs T.sent :: MapT bt T.told :: Qs) from ((((((((((((show Sep w0 w (Ce g 34 (twC (.pointer (some ⟨a0, 0, none⟩)) (.pointer (some ⟨a1, 0, none⟩)) (T.l false).si (T.l true).si (T.now false) (T.now true) v0 v1 bs bt T.n) :: Ce a0 72 ((T.l false).cells b0) :: BoxT b0 (T.l false).box :: Ce a1 72 ((T.l true).cells b1) :: BoxT b1 (T.l true).box :: RwO 51 10 v0 W0.length (fR_ W0) :: RwO 51 10 v1 W1.length (fR_ W1) :: Bods BB :: MapT bs T.sent :: MapT bt T.told :: X :: Qs) from h)).tF 9 rfl).tF 9 rfl).tF 9 rfl).tF 9 rfl).tF 9 rfl).tF 7 rfl).tF 7 rfl).tF 7 rfl).tF 10 rfl).tF 10 rfl).tF 10 rfl); refine (takeG h1 hX (hO.num true) hbl hack hseq (by omega)).mono ?_; rintro e w' ⟨vF, vE, b', LP, LE, rfl, e1, e2, h2⟩; refine ⟨_, rfl, vF, vE, LP, LE, b0, b', v0, v1, W0, W1, BB, bs, bt, rfl, e1, e2, q1, q2, q3, q4, ?_⟩; rw [← (take_same (T.l true) (T.now true) f).2.1] at h2; exact (show Sep w0 w' (Rw 51 10 vF LP.length (fR_ LP) :: Bods (fB_ LP) :: Rw 49 4 vE LE.length (eR_ LE) :: Bods (eB_ LE) :: Ce g 34 (twC (.pointer (some ⟨a0, 0, none⟩)) (.pointer (some ⟨a1, 0, none⟩)) (T.l false).si ((T.l true).take (T.now true) f).si (T.now false) (T.now true) v0 v1 bs bt T.n) :: Ce a0 72 ((T.l false).cells b0) :: BoxT b0 (T.l false).box :: Ce a1 72 (((T.l true).take (T.now true) f).cells b') :: BoxT b' ((T.l true).take (T.now true) f).box :: RwO 51 10 v0 W0.length (fR_ W0) :: RwO 51 10 v1 W1.length (fR_ W1) :: Bods BB :: MapT bs T.sent :: MapT bt T.told :: X :: Qs) from (((((((((((((((h2).tF 6 rfl).tF 14 rfl).tF 14 rfl).tF 14 rfl).tF 14 rfl).tF 14 rfl).tF 11 rfl).tF 11 rfl).tF 14 rfl).tF 14 rfl).tF 14 rfl).tF 14 rfl).tF 14 rfl).tF 14 rfl).tF 14 rfl)
theorem ansA1 {w0 w : World} {g a0 a1 B : Nat} {T : TW} {v : Value} {F : List Fr} {E : List Ev} {Qs : List SP} (h : MidA a0 a1 v w0 w g T F E Qs) (hO : T.Ok B) (hB : B ≤ 1000000000) (hF : F.length ≤ 1000) (hE : E.length ≤ 1000) :
  Calls Try.prog 31 #[.pointer (some ⟨g, 0, none⟩), .int .i64 1, v] w fun e w' => e = .returned (.tuple #[]) ∧ TwA a0 a1 w0 w' g (T.ans true F E) Qs := by
 obtain ⟨vF, vE, LP, LE, b0, b1, v0, v1, W0, W1, BB, bs, bt, rfl, e1, e2, q1, q2, q3, q4, h⟩ := h; have hx1 := frRow_one (i := 1) h rfl; have h1 := (show Sep w0 w (Rw 51 10 vF LP.length (fR_ LP) :: Rw 49 4 vE LE.length (eR_ LE) :: Bods (eB_ LE) :: Ce g 34 (twC (.pointer (some ⟨a0, 0, none⟩)) (.pointer (some ⟨a1, 0, none⟩)) (T.l false).si (T.l true).si (T.now false) (T.now true) v0 v1 bs bt T.n) :: Ce a1 72 ((T.l true).cells b1) :: RwO 51 10 v0 W0.length (fR_ W0) :: MapT bt T.told :: Bods (fB_ LP) :: Ce a0 72 ((T.l false).cells b0) :: BoxT b0 (T.l false).box :: BoxT b1 (T.l true).box :: RwO 51 10 v1 W1.length (fR_ W1) :: Bods BB :: MapT bs T.sent :: Qs) from ((((((((((((((h).tF 12 rfl).tF 12 rfl).tF 12 rfl).tF 11 rfl).tF 10 rfl).tF 10 rfl).tF 7 rfl).tF 13 rfl).tF 13 rfl).tF 13 rfl).tF 13 rfl).tF 13 rfl).tF 13 rfl).tF 13 rfl); have hl := hO.way false; have hLP : LP.length = F.length := by rw [← e1, List.length_map]
 have hLE : LE.length = E.length := by rw [← e2, List.length_map]
 have hW : W0.length = (T.way false).length := by rw [← q1, List.length_map]
 refine (answer1 (v0 := .slice none 0 0) h1 hx1 (hO.num true).sn (hO.prR true hB) (by omega) (by omega) (fun p => by have := hO.told p; omega)).mono ?_; rintro e w' ⟨rfl, v', h2⟩; rw [e2, ← List.length_append, ← frRow_app] at h2; have h3 := sep_bodsJoin ((show Sep w0 w' (Bods (fB_ LP) :: Bods BB :: Ce g 34 (twC (.pointer (some ⟨a0, 0, none⟩)) (.pointer (some ⟨a1, 0, none⟩)) (T.l false).si (T.l true).si (T.now false) (T.now true) v' v1 bs bt T.n) :: Ce a0 72 ((T.l false).cells b0) :: BoxT b0 (T.l false).box :: Ce a1 72 ((T.l true).cells b1) :: BoxT b1 (T.l true).box :: RwO 51 10 v' (W0 ++ LP).length (fR_ (W0 ++ LP)) :: RwO 51 10 v1 W1.length (fR_ W1) :: MapT bs T.sent :: MapT bt (tellE T.told (T.rp true) E) :: Qs) from (((((((((((h2).tF 3 rfl).tF 10 rfl).tF 9 rfl).tF 5 rfl).tF 9 rfl).tF 6 rfl).tF 9 rfl).tF 9 rfl).tF 8 rfl).tF 10 rfl).tF 10 rfl)); have h4 := (show Sep w0 w' (Ce g 34 (twC (.pointer (some ⟨a0, 0, none⟩)) (.pointer (some ⟨a1, 0, none⟩)) (T.l false).si (T.l true).si (T.now false) (T.now true) v' v1 bs bt T.n) :: Ce a0 72 ((T.l false).cells b0) :: BoxT b0 (T.l false).box :: Ce a1 72 ((T.l true).cells b1) :: BoxT b1 (T.l true).box :: RwO 51 10 v' (W0 ++ LP).length (fR_ (W0 ++ LP)) :: RwO 51 10 v1 W1.length (fR_ W1) :: Bods (BB ++ fB_ LP) :: MapT bs T.sent :: MapT bt (tellE T.told (T.rp true) E) :: Qs) from ((((((((h3).tF 0 rfl).tF 7 rfl).tF 7 rfl).tF 7 rfl).tF 7 rfl).tF 7 rfl).tF 7 rfl).tF 7 rfl); refine ⟨rfl, b0, b1, v', v1, W0 ++ LP, W1, BB ++ fB_ LP, bs, bt, by rw [List.map_append, q1, e1]; rfl, q2, fun x hx => by rw [frBods_app] at hx; exact (List.mem_append.1 hx).elim (fun h => List.mem_append_left _ (q3 x h)) (fun h => List.mem_append_right _ h), fun x hx => List.mem_append_left _ (q4 x hx), h4⟩
theorem sendA1 {w0 w : World} {g a0 a1 B : Nat} {T : TW} {Qs : List SP} (h : TwA a0 a1 w0 w g T Qs) (hO : T.Ok B) (hB : B ≤ 1000000000) :
  Calls Try.prog 29 #[.pointer (some ⟨g, 0, none⟩), .int .i64 1] w fun e w' => e = .returned (.tuple #[]) ∧ TwA a0 a1 w0 w' g (T.send true) Qs := by
 obtain ⟨b0, b1, v0, v1, W0, W1, BB, bs, bt, q1, q2, q3, q4, h⟩ := h; have h1 := (show Sep w0 w (Ce g 34 (twC (.pointer (some ⟨a0, 0, none⟩)) (.pointer (some ⟨a1, 0, none⟩)) (T.l false).si (T.l true).si (T.now false) (T.now true) v0 v1 bs bt T.n) :: Ce a1 72 ((T.l true).cells b1) :: BoxT b1 (T.l true).box :: RwO 51 10 v0 W0.length (fR_ W0) :: MapT bs T.sent :: MapT bt T.told :: Ce a0 72 ((T.l false).cells b0) :: BoxT b0 (T.l false).box :: RwO 51 10 v1 W1.length (fR_ W1) :: Bods BB :: Qs) from ((((((((((h).tF 7 rfl).tF 7 rfl).tF 4 rfl).tF 4 rfl).tF 9 rfl).tF 9 rfl).tF 9 rfl).tF 9 rfl).tF 9 rfl).tF 9 rfl); have hl := hO.way false; have hW : W0.length = (T.way false).length := by rw [← q1, List.length_map]
 refine (send1 h1 (hO.num true) (by have := hO.n; omega) (hO.prP true hB) (hO.prR true hB) (by omega) (by have := hO.sent (T.pr true); exact Nat.le_trans this (by omega)) (fun p => Nat.le_trans (hO.told p) (by omega)) (by have := hO.now true; omega)).mono ?_; rintro e w' ⟨rfl, v', b', LP, e1, h2⟩; rw [← List.length_append, ← frRow_app] at h2; have h3 := sep_bodsJoin ((show Sep w0 w' (Bods (fB_ LP) :: Bods BB :: Ce g 34 (twC (.pointer (some ⟨a0, 0, none⟩)) (.pointer (some ⟨a1, 0, none⟩)) (T.l false).si (T.l true).si (T.now false) (T.now true) v' v1 bs bt (if (T.l true).sendE (bodyN T.n true) = 0 then T.n + 1 else T.n)) :: Ce a0 72 ((T.l false).cells b0) :: BoxT b0 (T.l false).box :: Ce a1 72 (((T.l true).send (T.now true) (bodyN T.n true)).cells b') :: BoxT b' ((T.l true).send (T.now true) (bodyN T.n true)).box :: RwO 51 10 v' (W0 ++ LP).length (fR_ (W0 ++ LP)) :: RwO 51 10 v1 W1.length (fR_ W1) :: MapT bs (if (T.l true).sendE (bodyN T.n true) = 0 then updM T.sent (T.pr true) (T.sent (T.pr true) ++ [bodyN T.n true]) else T.sent) :: MapT bt T.told :: Qs) from (((((((((((h2).tF 5 rfl).tF 5 rfl).tF 9 rfl).tF 6 rfl).tF 6 rfl).tF 6 rfl).tF 9 rfl).tF 9 rfl).tF 8 rfl).tF 10 rfl).tF 10 rfl)); have h4 := (show Sep w0 w' (Ce g 34 (twC (.pointer (some ⟨a0, 0, none⟩)) (.pointer (some ⟨a1, 0, none⟩)) (T.l false).si (T.l true).si (T.now false) (T.now true) v' v1 bs bt (if (T.l true).sendE (bodyN T.n true) = 0 then T.n + 1 else T.n)) :: Ce a0 72 ((T.l false).cells b0) :: BoxT b0 (T.l false).box :: Ce a1 72 (((T.l true).send (T.now true) (bodyN T.n true)).cells b') :: BoxT b' ((T.l true).send (T.now true) (bodyN T.n true)).box :: RwO 51 10 v' (W0 ++ LP).length (fR_ (W0 ++ LP)) :: RwO 51 10 v1 W1.length (fR_ W1) :: Bods (BB ++ fB_ LP) :: MapT bs (if (T.l true).sendE (bodyN T.n true) = 0 then updM T.sent (T.pr true) (T.sent (T.pr true) ++ [bodyN T.n true]) else T.sent) :: MapT bt T.told :: Qs) from ((((((((h3).tF 0 rfl).tF 7 rfl).tF 7 rfl).tF 7 rfl).tF 7 rfl).tF 7 rfl).tF 7 rfl).tF 7 rfl); refine ⟨rfl, b0, b', v', v1, W0 ++ LP, W1, BB ++ fB_ LP, bs, bt, ?_, ?_, fun x hx => by rw [frBods_app] at hx; exact (List.mem_append.1 hx).elim (fun h => List.mem_append_left _ (q3 x h)) (fun h => List.mem_append_right _ h), fun x hx => List.mem_append_left _ (q4 x hx), ?_⟩
 ·rw [send_way1]; rw [List.map_append, q1, e1]; rfl
 ·rw [send_way1]; exact q2
 ·obtain ⟨s1, s2, s3, s4, s5⟩ := send_l T true; unfold TWL; rw [s1, s2, s3, s4, s5]; obtain ⟨_, _, u3, _⟩ := send_up (s := T.l true) (now := T.now true) (b := bodyN T.n true); rw [← u3] at h4; exact h4
theorem lifeA1 {w0 w : World} {g a0 a1 B : Nat} {T : TW} {Qs : List SP} (h : TwA a0 a1 w0 w g T Qs) (hO : T.Ok B) (hB : B ≤ 1000000000) :
  Calls Try.prog 30 #[.pointer (some ⟨g, 0, none⟩), .int .i64 1] w fun e w' => e = .returned (.tuple #[]) ∧ ∃ a, TwA a0 a w0 w' g (T.life true) Qs := by
 obtain ⟨b0, b1, v0, v1, W0, W1, BB, bs, bt, q1, q2, q3, q4, h⟩ := h; refine (life1 h (by have := (hO.ids true).1; omega)).mono ?_; rintro e w' ⟨rfl, a, h1⟩; have h2 := (h1.drop 5).drop 5; refine ⟨rfl, a, b0, .slice none 0 0, v0, v1, W0, W1, BB, bs, bt, q1, q2, q3, q4, ?_⟩; exact (show Sep w0 w' (Ce g 34 (twC (.pointer (some ⟨a0, 0, none⟩)) (.pointer (some ⟨a, 0, none⟩)) (T.l false).si ((T.l true).si + 1) (T.now false) (T.now true) v0 v1 bs bt T.n) :: Ce a0 72 ((T.l false).cells b0) :: BoxT b0 (T.l false).box :: Ce a 72 ((newLk true ((T.l true).si + 1)).cells (.slice none 0 0)) :: BoxT (.slice none 0 0) [] :: RwO 51 10 v0 W0.length (fR_ W0) :: RwO 51 10 v1 W1.length (fR_ W1) :: Bods BB :: MapT bs T.sent :: MapT bt T.told :: Qs) from (((((h2).tF 2 rfl).tF 2 rfl).tF 4 rfl).tF 4 rfl).tF 4 rfl)
end Go.Proofs.Ytngegjboenfmeaa
/- What an act of the two links' harness uses. No program in sight. -/
namespace Go.Proofs.Ytngegjboenfmeaa
open Go Go.RowKit
set_option linter.unusedVariables false
set_option linter.unusedSimpArgs false
set_option maxRecDepth 100000

theorem and_low (x : Int) (m : Nat) (hm : m < 1000000) : ∃ k : Nat, k ≤ m ∧ bits .and .i64 x (m : Int) = (k : Int) := by
 have e : (BitVec.ofInt 64 (m : Int)).toNat = m := by
  rw [BitVec.toNat_ofInt]; omega
 have hle : (BitVec.ofInt 64 x &&& BitVec.ofInt 64 (m : Int)).toNat ≤ m := by
  rw [BitVec.toNat_and, e]; exact Nat.and_le_right
 refine ⟨(BitVec.ofInt 64 x &&& BitVec.ofInt 64 (m : Int)).toNat, hle, ?_⟩; show IntKind.i64.wrap ((BitVec.ofInt 64 x &&& BitVec.ofInt 64 (m : Int)).toNat : Int) = _; rw [IntKind.wrap_i64]; omega
theorem and_3 (k : Nat) (hk : k < 1000000) : bits .and .i64 (k : Int) 3 = ((k % 4 : Nat) : Int) := by
 have h := bits_mask .i64 62 (by decide) (fun n h0 h1 => by rw [IntKind.wrap_i64]; omega) 2 (by decide) (k : Int) (by omega) (by omega); simpa using h
section
variable {w0 w : World} {g a0 a1 : Nat} {T : TW} {Qs : List SP}
theorem TwA.l0 (h : TwA a0 a1 w0 w g T Qs) : w.cell? ⟨g, 0, none⟩ = some (.pointer (some ⟨a0, 0, none⟩)) := by
 obtain ⟨b0, b1, v0, v1, W0, W1, BB, bs, bt, q1, q2, q3, q4, h⟩ := h; exact cA (i := 0) h rfl 0 rfl
theorem TwA.l1 (h : TwA a0 a1 w0 w g T Qs) : w.cell? ⟨g, 1, none⟩ = some (.pointer (some ⟨a1, 0, none⟩)) := by
 obtain ⟨b0, b1, v0, v1, W0, W1, BB, bs, bt, q1, q2, q3, q4, h⟩ := h; exact cA (i := 0) h rfl 1 rfl
theorem TwA.t0 (h : TwA a0 a1 w0 w g T Qs) : w.cell? ⟨g, 4, none⟩ = some (.int .u64 ((T.now false : Nat) : Int)) := by
 obtain ⟨b0, b1, v0, v1, W0, W1, BB, bs, bt, q1, q2, q3, q4, h⟩ := h; exact cA (i := 0) h rfl 4 rfl
theorem TwA.t1 (h : TwA a0 a1 w0 w g T Qs) : w.cell? ⟨g, 5, none⟩ = some (.int .u64 ((T.now true : Nat) : Int)) := by
 obtain ⟨b0, b1, v0, v1, W0, W1, BB, bs, bt, q1, q2, q3, q4, h⟩ := h; exact cA (i := 0) h rfl 5 rfl
theorem TwA.grow {w' : World} (h : TwA a0 a1 w0 w g T Qs) (hb : Below w.heap.size w w') : TwA a0 a1 w0 w' g T Qs := by
 obtain ⟨b0, b1, v0, v1, W0, W1, BB, bs, bt, q1, q2, q3, q4, h⟩ := h; exact ⟨b0, b1, v0, v1, W0, W1, BB, bs, bt, q1, q2, q3, q4, h.grow hb⟩
theorem TwA.drew (h : TwA a0 a1 w0 w g T Qs) : TwA a0 a1 w0 w.drew g T Qs := h.grow (Below.refl _ _).drew
/-- trimmed at the sides below m -/
def TW.trimTo (T : TW) (m : Nat) : TW := { T with way := fun i => if (if i then 1 else 0) < m then Go.Proofs.Ytngegjboenfmeaa.trim (T.way i) else T.way i }
theorem trimTo_0 (T : TW) : T.trimTo 0 = T := by
 unfold TW.trimTo; simp
theorem trimTo_2 (T : TW) : T.trimTo 2 = T.trim := by
 unfold TW.trimTo TW.trim; congr 1; funext i; cases i <;> simp
theorem trim_short {l : List Fr} (h : l.length ≤ 300) : Go.Proofs.Ytngegjboenfmeaa.trim l = l := by
 unfold Go.Proofs.Ytngegjboenfmeaa.trim; rw [show l.length - 300 = 0 by omega, List.drop_zero]
theorem frRow_drop : ∀ (W : List (Fr × Value)) (n : Nat), fR_ (W.drop n) = (fR_ W).drop (n * 10)
 | W, 0 => by simp
 | [], n + 1 => by simp [fR_]
 | p :: W, n + 1 => by
  rw [List.drop_succ_cons, frRow_drop W n]; show _ = (((p.1.cellsV p.2).toList ++ fR_ W).drop ((n + 1) * 10)); have e1 : ((p.1.cellsV p.2).toList).drop ((n + 1) * 10) = [] := List.drop_eq_nil_of_le (by show 10 ≤ (n + 1) * 10; omega); rw [List.drop_append, e1, List.nil_append]; show (fR_ W).drop (n * 10) = (fR_ W).drop ((n + 1) * 10 - 10); rw [show (n + 1) * 10 - 10 = n * 10 by omega]
theorem run_fromF (W : World) (A : Option Addr) (n c k : Nat) (h : k ≤ n) : (Instr.slice 30 (.slice A n c) (some (.int .i64 (k : Int))) none none).run Try.prog W = .ok (.slice (if c = k then A else A.map (·.add (k * 10))) (n - k) (c - k)) W := by
 rw [run_slice_l W 30 A n c (by kernel_rfl) .i64 (k : Int) (by omega) (by omega), show (sizeOf (Try.prog.elem 30)).run Try.prog W = .ok 10 W by kernel_rfl]; rfl
/-- the ticks at one side go on -/
def TW.later (T : TW) (i : Bool) (q : Nat) : TW := { T with now := atB T.now i (T.now i + q) }
theorem TwA.later0 (h : TwA a0 a1 w0 w g T Qs) (q : Nat) : w.frozen? ⟨g, 4, none⟩ = false ∧ TwA a0 a1 w0 (w.setCell ⟨g, 4, none⟩ (.int .u64 ((T.now false : Nat) + (q : Nat) : Int))) g (T.later false q) Qs := by
 obtain ⟨b0, b1, v0, v1, W0, W1, BB, bs, bt, q1, q2, q3, q4, h⟩ := h; exact ⟨cFz (i := 0) h rfl 4, b0, b1, v0, v1, W0, W1, BB, bs, bt, q1, q2, q3, q4, cS (i := 0) h rfl 4 (.int .u64 ((T.now false : Nat) + (q : Nat) : Int))⟩
theorem TwA.later1 (h : TwA a0 a1 w0 w g T Qs) (q : Nat) : w.frozen? ⟨g, 5, none⟩ = false ∧ TwA a0 a1 w0 (w.setCell ⟨g, 5, none⟩ (.int .u64 ((T.now true : Nat) + (q : Nat) : Int))) g (T.later true q) Qs := by
 obtain ⟨b0, b1, v0, v1, W0, W1, BB, bs, bt, q1, q2, q3, q4, h⟩ := h; exact ⟨cFz (i := 0) h rfl 5, b0, b1, v0, v1, W0, W1, BB, bs, bt, q1, q2, q3, q4, cS (i := 0) h rfl 5 (.int .u64 ((T.now true : Nat) + (q : Nat) : Int))⟩
end
/-- numbers stay small: what one step adds at most -/
theorem TW.Ok.mono {T : TW} {B C : Nat} (h : T.Ok B) (hBC : B ≤ C) : T.Ok C :=
 ⟨h.num, fun i => ⟨Nat.le_trans (h.ids i).1 hBC, Nat.le_trans (h.ids i).2.1 hBC, Nat.le_trans (h.ids i).2.2.1 hBC, Nat.le_trans (h.ids i).2.2.2 hBC⟩, fun i => Nat.le_trans (h.now i) hBC, fun i => Nat.le_trans (h.way i) hBC,
  fun i f hf => ⟨Nat.le_trans (h.frs i f hf).1 hBC, Nat.le_trans (h.frs i f hf).2.1 hBC, (h.frs i f hf).2.2⟩, fun p => Nat.le_trans (h.told p) hBC, fun p => Nat.le_trans (h.sent p) hBC, Nat.le_trans h.n hBC⟩
theorem atB_all {α : Type} {P : Bool → α → Prop} {f : Bool → α} {i : Bool} {x : α} (hf : ∀ j, P j (f j)) (hx : P i x) : ∀ j, P j (atB f i x j) := by
 intro j; unfold atB; split
 ·rename_i e; subst e; exact hx
 ·exact hf j
theorem TW.Ok.later {T : TW} {B : Nat} (h : T.Ok B) (i : Bool) {q : Nat} (hq : q ≤ 3) : (T.later i q).Ok (B + 3) :=
 { h.mono (Nat.le_add_right B 3) with now := atB_all (P := fun _ n => n ≤ B + 3) (fun j => Nat.le_trans (h.now j) (by omega)) (by have := h.now i; omega) }
/-- a frame that a link of small numbers tells -/
def FrOk (B : Nat) (f : Fr) : Prop := f.inc ≤ B ∧ f.conn ≤ B ∧ f.ack ≤ 34359738367 ∧ f.seq ≤ 34359738375 ∧ f.body.length ≤ 448
theorem due_in {s : LS} (hs : s.Num) : ∀ x ∈ s.due, x.1 ≤ 34359738367 ∧ x.2.length ≤ 448 := by
 intro x hx; unfold LS.due at hx; rw [hs.due, items] at hx; obtain ⟨k, hk, rfl⟩ := List.mem_mapIdx.1 hx; have hl := hk; rw [List.length_take] at hl; have h1 := hs.base; refine ⟨by simp only; omega, (bodyB_len (hs.bodies _ ?_)).2⟩; exact List.mem_of_mem_take (List.getElem_mem hk)
theorem due_len (s : LS) : s.due.length ≤ 8 := by
 unfold LS.due; rw [items_len]; unfold dueL; split
 ·rw [List.length_take]; omega
 ·simp
def Ids (s : LS) (B : Nat) : Prop := s.si ≤ B ∧ s.conn ≤ B ∧ s.inc ≤ B ∧ s.known ≤ B
theorem frOk_hello {s : LS} {B : Nat} (hs : s.Num) (h : Ids s B) : FrOk B s.hello := ⟨h.1, h.2.1, hs.got, by simp [LS.hello], by simp [LS.hello]⟩
theorem frOk_data {s : LS} {B : Nat} (hs : s.Num) (h : Ids s B) {x : Nat × List UInt8} (hx : x.1 ≤ 34359738375 ∧ x.2.length ≤ 448) : FrOk B (s.data x) := ⟨h.1, h.2.1, hs.got, hx.1, hx.2⟩
theorem Ids.mono {s : LS} {B C : Nat} (h : Ids s B) (hBC : B ≤ C) : Ids s C := ⟨Nat.le_trans h.1 hBC, Nat.le_trans h.2.1 hBC, Nat.le_trans h.2.2.1 hBC, Nat.le_trans h.2.2.2 hBC⟩
theorem FrOk.mono {f : Fr} {B C : Nat} (h : FrOk B f) (hBC : B ≤ C) : FrOk C f := ⟨Nat.le_trans h.1 hBC, Nat.le_trans h.2.1 hBC, h.2.2⟩
theorem ids_tick1 {s : LS} {B : Nat} (h : Ids s B) (now : Nat) : Ids (s.tick1 now) (B + 1) := by
 unfold LS.tick1; split
 ·exact ⟨Nat.le_trans h.1 (Nat.le_succ _), Nat.succ_le_succ h.2.1, Nat.le_trans h.2.2.1 (Nat.le_succ _), Nat.le_trans h.2.2.2 (Nat.le_succ _)⟩
 ·exact h.mono (Nat.le_succ _)
theorem ids_tick {s : LS} {B : Nat} (h : Ids s B) (now : Nat) : Ids (s.tick now) (B + 1) := by
 have h1 := ids_tick1 h now; unfold LS.tick; simp only; split
 ·exact h1
 ·exact h1
theorem data_ok {s : LS} {B : Nat} (hs : s.Num) (h : Ids s B) : ∀ f ∈ s.due.map s.data, FrOk B f := by
 intro f hf; obtain ⟨x, hx, rfl⟩ := List.mem_map.1 hf; have := due_in hs x hx; exact frOk_data hs h ⟨by omega, this.2⟩
theorem tickF_ok {s : LS} {B : Nat} (hs : s.Num) (h : Ids s B) (now : Nat) : (∀ f ∈ s.tickF now, FrOk (B + 1) f) ∧ (s.tickF now).length ≤ 9 ∧ (s.tickE now).length ≤ 1 := by
 have h1 := ids_tick1 h now; have h2 := hs.tick1 now; have h3 := due_len (s.tick1 now); refine ⟨?_, ?_, ?_⟩
 ·intro f hf; unfold LS.tickF at hf; simp only at hf
  rcases List.mem_cons.1 hf with rfl | hf
  ·exact frOk_hello h2 h1
  ·split at hf
   ·exact data_ok h2 h1 f hf
   ·simp at hf
 ·unfold LS.tickF; simp only; split
  ·rw [List.length_cons, List.length_map]; omega
  ·simp
 ·unfold LS.tickE; split <;> simp
theorem ids_take1 {s : LS} {B : Nat} (h : Ids s B) (now : Nat) {f : Fr} (hf : f.inc ≤ B ∧ f.conn ≤ B) : Ids (s.take1 now f) B := by
 have h1 : Ids (s.turn f) B := by
  unfold LS.turn; split
  ·exact ⟨h.1, h.2.1, hf.1, hf.2⟩
  ·exact h
 exact h1
theorem ids_take34 {s : LS} {B : Nat} (h : Ids s B) (f : Fr) : Ids ((s.take3 f).take4 f) B := by
 unfold LS.take4; split <;> exact h
theorem ids_take {s : LS} {B : Nat} (h : Ids s B) (now : Nat) {f : Fr} (hf : f.inc ≤ B ∧ f.conn ≤ B) : Ids (s.take now f) B := by
 have h1 := ids_take1 h now hf; have h2 := ids_take34 h1 f; unfold LS.take; simp only; split
 ·split
  ·unfold LS.take5; simp only; split
   ·exact h2
   ·exact h2
  ·exact h1
 ·exact h
theorem takeF_ok {s : LS} {B : Nat} (hs : s.Num) (h : Ids s B) {now : Nat} (hn : now < 18446744073709551616) {f : Fr} (hf : f.inc ≤ B ∧ f.conn ≤ B) : (∀ x ∈ s.takeF now f, FrOk B x) ∧ (s.takeF now f).length ≤ 9 ∧ (s.takeE now f).length ≤ 3 := by
 have h1 := ids_take1 h now hf; have h1n := hs.take1 hn f; have h2 := ids_take34 h1 f; have h2n := (h1n.take3 f).take4 f; have h3 := due_len (((s.take1 now f).take3 f).take4 f); refine ⟨?_, ?_, ?_⟩
 ·intro x hx; unfold LS.takeF at hx; simp only at hx; split at hx
  ·split at hx
   ·unfold LS.take5F at hx; simp only at hx
    rcases List.mem_append.1 hx with hx | hx
    ·split at hx
     ·simp at hx
     ·obtain ⟨y, hy, rfl⟩ := List.mem_map.1 hx; have := due_in h2n y (List.mem_filter.1 hy).1; exact frOk_data h2n h2 ⟨by omega, this.2⟩
    ·split at hx
     ·rw [List.mem_singleton.1 hx]; exact frOk_hello h2n h2
     ·simp at hx
   ·rw [List.mem_singleton.1 hx]; exact frOk_hello h1n h1
  ·simp at hx
 ·unfold LS.takeF; simp only; split
  ·split
   ·unfold LS.take5F; simp only; rw [List.length_append]; have h4 : (if (((s.take1 now f).take3 f).take4 f).base ≤ (s.take1 now f).base then [] else ((((s.take1 now f).take3 f).take4 f).fresh (s.take1 now f).last).map (((s.take1 now f).take3 f).take4 f).data).length ≤ 8 := by
     split
     ·simp
     ·rw [List.length_map]; exact Nat.le_trans (List.length_filter_le _ _) h3
    have h5 : (if (s.take1 now f).helloBack f then [(((s.take1 now f).take3 f).take4 f).hello] else []).length ≤ 1 := by split <;> simp
    omega
   ·simp
  ·simp
 ·unfold LS.takeE; simp only; split
  ·rw [List.length_append]; have h4 : (s.take1E f).length ≤ 1 := by unfold LS.take1E; split <;> simp
   have h5 : (if (s.take1 now f).knows f then (s.take1 now f).take2E ++ ((s.take1 now f).take3 f).take4E f else []).length ≤ 2 := by
    split
    ·rw [List.length_append]; have h6 : ((s.take1 now f).take2E).length ≤ 1 := by unfold LS.take2E; split <;> simp
     have h7 : (((s.take1 now f).take3 f).take4E f).length ≤ 1 := by unfold LS.take4E; split <;> simp
     omega
    ·simp
   omega
  ·simp
theorem TW.Ok.withL {T : TW} {B : Nat} (h : T.Ok B) (i : Bool) {s : LS} (hs : s.Num) (hi : Ids s B) : (T.withL i s).Ok B :=
 { h with num := atB_all (P := fun _ s => LS.Num s) h.num hs, ids := atB_all (P := fun _ s => Ids s B) h.ids hi }
theorem TW.Ok.ans {T : TW} {B : Nat} (h : T.Ok B) (i : Bool) {F : List Fr} {E : List Ev} (hF : ∀ f ∈ F, FrOk B f) (h9 : F.length ≤ 9) (h3 : E.length ≤ 3) : (T.ans i F E).Ok (B + 9) := by
 have h0 := h.mono (Nat.le_add_right B 9); refine ⟨h0.num, h0.ids, h0.now, ?_, ?_, ?_, h0.sent, h0.n⟩
 ·refine atB_all (P := fun _ l => List.length l ≤ B + 9) h0.way ?_; rw [List.length_append]; have := h.way (!i); omega
 ·refine atB_all (P := fun _ l => ∀ f ∈ l, FrOk (B + 9) f) h0.frs ?_; intro f hf
  rcases List.mem_append.1 hf with hf | hf
  ·exact h0.frs _ f hf
  ·exact (hF f hf).mono (Nat.le_add_right B 9)
 ·intro p; have h4 := tellE_len (T.rp i) E T.told p; have h5 := h.told p; show (tellE T.told (T.rp i) E p).length ≤ B + 9; omega
theorem TW.Ok.tick {T : TW} {B : Nat} (h : T.Ok B) (hB : B ≤ 1000000000) (i : Bool) : (T.tick i).Ok (B + 10) := by
 have h1 := tickF_ok (h.num i) (h.ids i) (T.now i); have hn := h.now i; have h2 := (h.mono (Nat.le_add_right B 1)).withL i ((h.num i).tick (now := T.now i) (by omega)) (ids_tick (h.ids i) (T.now i)); exact h2.ans i h1.1 h1.2.1 (by omega)
theorem TW.Ok.take {T : TW} {B : Nat} (h : T.Ok B) (hB : B ≤ 1000000000) (i : Bool) {f : Fr} (hf : FrOk B f) : (T.take i f).Ok (B + 9) := by
 have hn := h.now i; have h1 := takeF_ok (h.num i) (h.ids i) (now := T.now i) (by omega) ⟨hf.1, hf.2.1⟩; have h2 := h.withL i ((h.num i).take (now := T.now i) (by omega) f) (ids_take (h.ids i) (T.now i) ⟨hf.1, hf.2.1⟩); exact h2.ans i h1.1 h1.2.1 h1.2.2
theorem sendF_ok {s : LS} {B : Nat} (hs : s.Num) (h : Ids s B) {b : List UInt8} (hb : b.length ≤ 448) : (∀ f ∈ s.sendF b, FrOk B f) ∧ (s.sendF b).length ≤ 1 := by
 unfold LS.sendF; split
 ·rename_i hc
  have h1 := hs.base; refine ⟨fun f hf => ?_, by simp⟩; rw [List.mem_singleton.1 hf]; exact frOk_data hs h ⟨by simp only; omega, hb⟩
 ·exact ⟨fun f hf => by simp at hf, by simp⟩
theorem TW.Ok.send {T : TW} {B : Nat} (h : T.Ok B) (hB : B ≤ 1000000000) (i : Bool) : (T.send i).Ok (B + 10) := by
 have hn := h.now i; have hb : (bodyN T.n i).length ≤ 448 := by simp [bodyN]
 have h1 := sendF_ok (h.num i) (h.ids i) hb; obtain ⟨_, _, u3, _, u5, u6, u7⟩ := send_up (s := T.l i) (now := T.now i) (b := bodyN T.n i); have hi : Ids ((T.l i).send (T.now i) (bodyN T.n i)) B := by
  have := h.ids i
  exact ⟨by rw [u3]; exact this.1, by rw [u5]; exact this.2.1, by rw [u6]; exact this.2.2.1, by rw [u7]; exact this.2.2.2⟩
 have h2 := h.withL i ((h.num i).send (now := T.now i) (by omega) (bodyN T.n i)) hi; have h3 := (h2.mono (Nat.le_add_right B 1)).ans i (F := (T.l i).sendF (bodyN T.n i)) (E := []) (fun f hf => (h1.1 f hf).mono (Nat.le_add_right B 1)) (by omega) (by simp); unfold TW.send; simp only; split
 ·refine ⟨h3.num, h3.ids, h3.now, h3.way, h3.frs, h3.told, ?_, ?_⟩
  ·intro p; show (updM T.sent _ _ p).length ≤ B + 10; unfold updM; split
   ·rw [List.length_append, List.length_singleton]; have := h.sent (TW.pr { T with l := atB T.l i ((T.l i).send (T.now i) (bodyN T.n i)) } i); omega
   ·have := h.sent p; omega
  ·show T.n + 1 ≤ B + 10; have := h.n; omega
 ·exact h3
theorem newLk_num (i : Bool) (si : Nat) : (newLk i si).Num := ⟨by cases i <;> simp [newLk, side], by simp [newLk], by simp [newLk], by simp [newLk], by simp [newLk], by simp [newLk], by simp [newLk]⟩
theorem TW.Ok.life {T : TW} {B : Nat} (h : T.Ok B) (i : Bool) : (T.life i).Ok (B + 1) :=
 (h.mono (Nat.le_add_right B 1)).withL i (newLk_num i _) ⟨Nat.succ_le_succ (h.ids i).1, by simp [newLk], by simp [newLk], by simp [newLk]⟩
theorem TW.Ok.trim {T : TW} {B : Nat} (h : T.Ok B) : T.trim.Ok B :=
 { h with way := fun i => by show (Go.Proofs.Ytngegjboenfmeaa.trim (T.way i)).length ≤ B; unfold Go.Proofs.Ytngegjboenfmeaa.trim; rw [List.length_drop]; have := h.way i; omega, frs := fun i f hf => h.frs i f (List.mem_of_mem_drop hf) }
theorem TW.Ok.lose {T : TW} {B : Nat} (h : T.Ok B) (i : Bool) (j : Nat) : ({ T with way := atB T.way i ((T.way i).eraseIdx j) } : TW).Ok B :=
 { h with way := atB_all (P := fun _ l => List.length l ≤ B) h.way (Nat.le_trans (List.length_eraseIdx_le _ _) (h.way i)), frs := atB_all (P := fun _ l => ∀ f ∈ l, FrOk B f) h.frs (fun f hf => h.frs i f (List.mem_of_mem_eraseIdx hf)) }
/-- a thing that is new is laid behind -/
theorem TwA.add {w0 w w' : World} {g a0 a1 : Nat} {T : TW} {Qs : List SP} {P : SP} {F : Nat → Prop} (h : TwA a0 a1 w0 w g T Qs) (hb : Below w.heap.size w w') (hP : P w' F) (hL : Loc P) (hF : ∀ k, F k → w.heap.size ≤ k) : TwA a0 a1 w0 w' g T (P :: Qs) := by
 obtain ⟨b0, b1, v0, v1, W0, W1, BB, bs, bt, q1, q2, q3, q4, h⟩ := h; have h1 := (h.add hb hP hL hF).lastFront; refine ⟨b0, b1, v0, v1, W0, W1, BB, bs, bt, q1, q2, q3, q4, ?_⟩; exact ((((((((((h1.tF 10 rfl).tF 10 rfl).tF 10 rfl).tF 10 rfl).tF 10 rfl).tF 10 rfl).tF 10 rfl).tF 10 rfl).tF 10 rfl).tF 10 rfl)
theorem TwA.ce {w0 w : World} {g a0 a1 : Nat} {T : TW} {Qs : List SP} (h : TwA a0 a1 w0 w g T Qs) (vs : Array Value) (t : TypeId) : TwA a0 a1 w0 (w.alloc (.cells vs t)) g T (Ce w.heap.size t vs :: Qs) :=
 h.add (F := fun k => k = w.heap.size) ((Below.refl _ _).alloc (Nat.le_refl _) _) ⟨heap_alloc_new w _, fun k => Iff.rfl⟩ (Ce.loc _ _ _) (fun k hk => by omega)
theorem TwA.by_ {w0 w w' : World} {g a0 a1 : Nat} {T : TW} {Qs : List SP} {v : Value} {l : List UInt8} (h : TwA a0 a1 w0 w g T Qs) (hb : Below w.heap.size w w') (ho : Own w' w.heap.size v l) : TwA a0 a1 w0 w' g T (By v l :: Qs) :=
 h.add (F := fun k => v.ownBlock = some k) hb ⟨own_mono ho (Nat.zero_le _), fun k => Iff.rfl⟩ (By.loc _ _) fun k hk => (ho.lt k hk).1
theorem TwA.swap {w0 w : World} {g a0 a1 : Nat} {T : TW} {Qs : List SP} {X Y : SP} (h : TwA a0 a1 w0 w g T (X :: Y :: Qs)) : TwA a0 a1 w0 w g T (Y :: X :: Qs) := by
 obtain ⟨b0, b1, v0, v1, W0, W1, BB, bs, bt, q1, q2, q3, q4, h⟩ := h; refine ⟨b0, b1, v0, v1, W0, W1, BB, bs, bt, q1, q2, q3, q4, ?_⟩; have h1 := h.tF 11 (P := Y) rfl; exact ((((((((((h1.tF 10 rfl).tF 10 rfl).tF 10 rfl).tF 10 rfl).tF 10 rfl).tF 10 rfl).tF 10 rfl).tF 10 rfl).tF 10 rfl).tF 10 rfl)
theorem TwA.pop {w0 w : World} {g a0 a1 : Nat} {T : TW} {Qs : List SP} {X : SP} (h : TwA a0 a1 w0 w g T (X :: Qs)) : TwA a0 a1 w0 w g T Qs := by
 obtain ⟨b0, b1, v0, v1, W0, W1, BB, bs, bt, q1, q2, q3, q4, h⟩ := h; exact ⟨b0, b1, v0, v1, W0, W1, BB, bs, bt, q1, q2, q3, q4, h.drop 10⟩
theorem TwA.q0 {w0 w : World} {g a0 a1 c : Nat} {T : TW} {Qs : List SP} {t : TypeId} {vs : Array Value} (h : TwA a0 a1 w0 w g T (Ce c t vs :: Qs)) (j : Nat) {v : Value} (hv : vs[j]? = some v) : w.cell? ⟨c, j, none⟩ = some v := by
 obtain ⟨b0, b1, v0, v1, W0, W1, BB, bs, bt, q1, q2, q3, q4, h⟩ := h; exact cA (i := 10) h rfl j hv
theorem TwA.q1 {w0 w : World} {g a0 a1 c : Nat} {T : TW} {Qs : List SP} {X : SP} {t : TypeId} {vs : Array Value} (h : TwA a0 a1 w0 w g T (X :: Ce c t vs :: Qs)) (j : Nat) {v : Value} (hv : vs[j]? = some v) : w.cell? ⟨c, j, none⟩ = some v := by
 obtain ⟨b0, b1, v0, v1, W0, W1, BB, bs, bt, q1, q2, q3, q4, h⟩ := h; exact cA (i := 11) h rfl j hv
theorem TwA.q2 {w0 w : World} {g a0 a1 c : Nat} {T : TW} {Qs : List SP} {X Y : SP} {t : TypeId} {vs : Array Value} (h : TwA a0 a1 w0 w g T (X :: Y :: Ce c t vs :: Qs)) (j : Nat) {v : Value} (hv : vs[j]? = some v) : w.cell? ⟨c, j, none⟩ = some v := by
 obtain ⟨b0, b1, v0, v1, W0, W1, BB, bs, bt, q1, q2, q3, q4, h⟩ := h; exact cA (i := 12) h rfl j hv
theorem reads_by {A : Option Addr} {n c : Nat} {l : List UInt8} (hn : n = l.length) : Reads (By (.slice A n c) l) A l := by
 rintro w F ⟨h1, _⟩; obtain ⟨A', c', e, _, _, hh⟩ := h1.form; simp only [Value.slice.injEq] at e; rw [e.1]; exact hh
theorem frRow_take : ∀ (W : List (Fr × Value)) (n : Nat), fR_ (W.take n) = (fR_ W).take (n * 10)
 | W, 0 => by simp [fR_]
 | [], n + 1 => by simp [fR_]
 | p :: W, n + 1 => by
  rw [List.take_succ_cons]; show (p.1.cellsV p.2).toList ++ fR_ (W.take n) = (((p.1.cellsV p.2).toList ++ fR_ W).take ((n + 1) * 10)); have e1 : ((p.1.cellsV p.2).toList).take ((n + 1) * 10) = (p.1.cellsV p.2).toList := List.take_of_length_le (by show 10 ≤ (n + 1) * 10; omega); rw [List.take_append, e1, frRow_take W n]; show _ = _ ++ (fR_ W).take ((n + 1) * 10 - 10); rw [show (n + 1) * 10 - 10 = n * 10 by omega]
theorem frRow_erase (W : List (Fr × Value)) (n : Nat) : fR_ (W.eraseIdx n) = (fR_ W).take (n * 10) ++ (fR_ W).drop ((n + 1) * 10) := by
 rw [List.eraseIdx_eq_take_drop_succ, frRow_app, frRow_take, frRow_drop]
theorem frRow_len (W : List (Fr × Value)) : (fR_ W).length = W.length * 10 := by
 induction W with
 | nil => rfl
 | cons p W ih =>
  show ((p.1.cellsV p.2).toList ++ fR_ W).length = _; rw [List.length_append, ih, List.length_cons]; show 10 + _ = _; omega
theorem frRow_oneB {w0 w : World} {Ps : List SP} {i : Nat} {LP : List (Fr × Value)} {BB : List (Value × List UInt8)} (h : Sep w0 w Ps) (hi : Ps[i]? = some (Bods BB)) (hs : ∀ x ∈ fB_ LP, x ∈ BB) : ∀ u ∈ fR_ LP, u.oneCell' = true := by
 intro u hu; obtain ⟨p, hp, hu⟩ := List.mem_flatMap.1 hu; obtain ⟨A, c, e, _⟩ := sep_bodsAt h hi (u := p.2) (l := p.1.body) (hs _ (List.mem_map.2 ⟨p, hp, rfl⟩)); simp only [Fr.cellsV, e, List.mem_cons, List.not_mem_nil, or_false] at hu
 rcases hu with rfl | rfl | rfl | rfl | rfl | rfl | rfl | rfl | rfl | rfl <;> rfl
theorem frRow_at {W : List (Fr × Value)} {k : Nat} {p : Fr × Value} {r : Nat} {v : Value} (h : W[k]? = some p) (hr : r < 10) (hv : (p.1.cellsV p.2).toList[r]? = some v := by rfl) : (fR_ W)[k * 10 + r]? = some v := by
 rw [fR_, flat_at (n := 10) (fun _ => rfl) W k p r h hr]; exact hv
theorem run_toF (W : World) (A : Option Addr) (n c k : Nat) (h : k ≤ c) : (Instr.slice 30 (.slice A n c) none (some (.int .i64 (k : Int))) none).run Try.prog W = .ok (.slice A k c) W := by
 rw [run_slice_h W 30 A n c (by kernel_rfl) .i64 (k : Int) (by omega) (by omega), show (sizeOf (Try.prog.elem 30)).run Try.prog W = .ok 10 W by kernel_rfl]; simp [sliced, Result.andThen]; intro _; cases A <;> simp [Addr.add]
/-- what comes, is doubled or lost -/
theorem act_mid {T : TW} {d : Int} {i : Bool} {k jj : Nat} {f : Fr} (hd : d = 2 ∨ d = 3 ∨ d = 4) (hj : k % (T.way i).length = jj) (hf : (T.way i)[jj]? = some f) :
  T.act d i k = (let T1 : TW := if d = 3 then T else { T with way := atB T.way i ((T.way i).eraseIdx jj) }; if d = 4 then T1 else T1.take i f).trim := by
 rw [TW.act, if_neg (by omega), if_neg (by omega), if_pos hd]; split
 ·rename_i hw
  rw [hw] at hf; simp at hf
 ·rename_i f0 l hw
  rw [hw] at hf hj; rw [List.length_cons] at hj; simp only [hj, hw]; have e : (f0 :: l).getD jj f0 = f := by rw [List.getD_eq_getElem?_getD, hf]; rfl
  rw [e]
theorem act_none {T : TW} {d : Int} {i : Bool} {k : Nat} (hd : d = 2 ∨ d = 3 ∨ d = 4) (hw : T.way i = []) : T.act d i k = T := by
 rw [TW.act, if_neg (by omega), if_neg (by omega), if_pos hd]; simp only [hw]
end Go.Proofs.Ytngegjboenfmeaa
/- What two links keep to, whatever becomes of their frames: the plain law of parting. No program in sight. -/
namespace Go.Proofs.Ytngegjboenfmeaa
open Go Go.RowKit
set_option linter.unusedVariables false
set_option linter.unusedSimpArgs false
set_option maxRecDepth 100000

def Lx (a b c d : Nat) : Prop := a < c ∨ (a = c ∧ b ≤ d)
theorem Lx.refl (a b : Nat) : Lx a b a b := .inr ⟨rfl, Nat.le_refl _⟩
theorem Lx.trans {a b c d e f : Nat} (h : Lx a b c d) (h2 : Lx c d e f) : Lx a b e f := by
 unfold Lx at *; omega
/-- a frame that a link tells as it stands -/
def OfL (s : LS) (f : Fr) : Prop := f.inc = s.si ∧ f.conn = s.conn ∧ f.pinc = s.inc ∧ f.pconn = s.known
theorem ofL_hello (s : LS) : OfL s s.hello := ⟨rfl, rfl, rfl, rfl⟩
theorem ofL_data (s : LS) (x : Nat × List UInt8) : OfL s (s.data x) := ⟨rfl, rfl, rfl, rfl⟩
theorem OfL.to {s t : LS} {f : Fr} (h : OfL s f) (h1 : t.si = s.si) (h2 : t.conn = s.conn) (h3 : t.inc = s.inc) (h4 : t.known = s.known) : OfL t f := ⟨by rw [h1]; exact h.1, by rw [h2]; exact h.2.1, by rw [h3]; exact h.2.2.1, by rw [h4]; exact h.2.2.2⟩
/-- what a tick leaves of the numbers -/
theorem tick_nums (s : LS) (now : Nat) : (s.tick now).si = s.si ∧ (s.tick now).conn = (s.tick1 now).conn ∧ (s.tick now).inc = s.inc ∧ (s.tick now).known = s.known ∧ (s.tick now).heard = s.heard ∧ (s.tick now).up = (s.tick1 now).up ∧ (s.tick1 now).si = s.si ∧ (s.tick1 now).inc = s.inc ∧ (s.tick1 now).known = s.known := by
 have h1 : (s.tick1 now).si = s.si ∧ (s.tick1 now).inc = s.inc ∧ (s.tick1 now).known = s.known ∧ (s.tick1 now).heard = s.heard := by
  unfold LS.tick1; split <;> exact ⟨rfl, rfl, rfl, rfl⟩
 obtain ⟨e1, e2, e3, e4⟩ := h1; unfold LS.tick; simp only; split
 ·exact ⟨e1, rfl, e2, e3, e4, rfl, e1, e2, e3⟩
 ·exact ⟨e1, rfl, e2, e3, e4, rfl, e1, e2, e3⟩
theorem tick1_conn (s : LS) (now : Nat) : s.conn ≤ (s.tick1 now).conn := by
 unfold LS.tick1; split
 ·exact Nat.le_succ _
 ·exact Nat.le_refl _
theorem ofL_tickF (s : LS) (now : Nat) : ∀ f ∈ s.tickF now, OfL (s.tick now) f := by
 intro f hf; obtain ⟨h1, h2, h3, h4, _, _, h7, h8, h9⟩ := tick_nums s now; have key : OfL (s.tick1 now) f := by
  unfold LS.tickF at hf; simp only at hf
  rcases List.mem_cons.1 hf with rfl | hf
  ·exact ofL_hello _
  ·split at hf
   ·obtain ⟨x, _, rfl⟩ := List.mem_map.1 hf; exact ofL_data _ x
   ·simp at hf
 exact key.to (by rw [h1, h7]) h2 (by rw [h3, h8]) (by rw [h4, h9])
theorem take1_nums (s : LS) (now : Nat) (f : Fr) : (s.take1 now f).si = s.si ∧ (s.take1 now f).conn = s.conn ∧ (s.take1 now f).heard = now ∧ (((s.take1 now f).inc = s.inc ∧ (s.take1 now f).known = s.known) ∨ ((s.take1 now f).inc = f.inc ∧ (s.take1 now f).known = f.conn)) := by
 unfold LS.take1 LS.turn; split
 ·exact ⟨rfl, rfl, rfl, .inr ⟨rfl, rfl⟩⟩
 ·exact ⟨rfl, rfl, rfl, .inl ⟨rfl, rfl⟩⟩
theorem take34_nums (s : LS) (f : Fr) : ((s.take3 f).take4 f).si = s.si ∧ ((s.take3 f).take4 f).conn = s.conn ∧ ((s.take3 f).take4 f).inc = s.inc ∧ ((s.take3 f).take4 f).known = s.known ∧ ((s.take3 f).take4 f).heard = s.heard := by
 unfold LS.take4; split <;> exact ⟨rfl, rfl, rfl, rfl, rfl⟩
theorem take5_nums (s : LS) (now : Nat) (f : Fr) : (s.take5 now f).si = s.si ∧ (s.take5 now f).conn = s.conn ∧ (s.take5 now f).inc = s.inc ∧ (s.take5 now f).known = s.known ∧ (s.take5 now f).heard = s.heard := by
 have h := take34_nums s f; unfold LS.take5; simp only; split
 ·exact h
 ·exact h
theorem take_nums (s : LS) (now : Nat) (f : Fr) : (s.take now f).si = s.si ∧ (s.take now f).conn = s.conn ∧ ((s.take now f).heard = now ∨ (s.take now f).heard = s.heard) ∧ (((s.take now f).inc = s.inc ∧ (s.take now f).known = s.known) ∨ ((s.take now f).inc = f.inc ∧ (s.take now f).known = f.conn)) := by
 obtain ⟨h1, h2, h3, h4⟩ := take1_nums s now f; obtain ⟨g1, g2, g3, g4, g5⟩ := take5_nums (s.take1 now f) now f; unfold LS.take; simp only; split
 ·split
  ·refine ⟨g1.trans h1, g2.trans h2, .inl (g5.trans h3), ?_⟩; rw [g3, g4]; exact h4
  ·exact ⟨h1, h2, .inl h3, h4⟩
 ·exact ⟨rfl, rfl, .inr rfl, .inl ⟨rfl, rfl⟩⟩
theorem ofL_takeF (s : LS) (now : Nat) (f : Fr) : ∀ x ∈ s.takeF now f, OfL (s.take now f) x := by
 intro x hx; unfold LS.takeF at hx; unfold LS.take; simp only at hx ⊢; split at hx
 ·rename_i hl
  rw [if_pos hl]; split at hx
  ·rename_i hk
   rw [if_pos hk]; obtain ⟨g1, g2, g3, g4, _⟩ := take5_nums (s.take1 now f) now f; obtain ⟨k1, k2, k3, k4, _⟩ := take34_nums (s.take1 now f) f; have key : OfL (((s.take1 now f).take3 f).take4 f) x := by
    unfold LS.take5F at hx; simp only at hx
    rcases List.mem_append.1 hx with hx | hx
    ·split at hx
     ·simp at hx
     ·obtain ⟨y, _, rfl⟩ := List.mem_map.1 hx; exact ofL_data _ y
    ·split at hx
     ·rw [List.mem_singleton.1 hx]; exact ofL_hello _
     ·simp at hx
   exact key.to (by rw [g1, k1]) (by rw [g2, k2]) (by rw [g3, k3]) (by rw [g4, k4])
  ·rename_i hk
   rw [if_neg hk, List.mem_singleton.1 hx]; exact ofL_hello _
 ·simp at hx
theorem ofL_sendF (s : LS) (now : Nat) (b : List UInt8) : ∀ f ∈ s.sendF b, OfL (s.send now b) f := by
 intro f hf; obtain ⟨_, _, u3, _, u5, u6, u7⟩ := send_up (s := s) (now := now) (b := b); unfold LS.sendF at hf; split at hf
 ·rw [List.mem_singleton.1 hf]; exact (ofL_data s _).to u3 u5 u6 u7
 ·simp at hf
/-- no link knows more of another than there is, no frame either -/
structure InvP (l : Bool → LS) (now : Bool → Nat) (way : Bool → List Fr) : Prop where
 hd : ∀ i, (l i).heard ≤ now i
 kn : ∀ i, Lx (l (!i)).inc (l (!i)).known (l i).si (l i).conn
 tw : ∀ i, ∀ f ∈ way i, Lx f.pinc f.pconn (l i).si (l i).conn
 fr : ∀ i, ∀ f ∈ way (!i), Lx f.inc f.conn (l i).si (l i).conn
theorem InvP.less {l : Bool → LS} {now now' : Bool → Nat} {way way' : Bool → List Fr} (h : InvP l now way) (hn : ∀ i, now i ≤ now' i) (hw : ∀ i, ∀ f ∈ way' i, f ∈ way i) : InvP l now' way' :=
 ⟨fun i => Nat.le_trans (h.hd i) (hn i), h.kn, fun i f hf => h.tw i f (hw i f hf), fun i f hf => h.fr i f (hw _ f hf)⟩
theorem notnot (i : Bool) : (!(!i)) = i := by cases i <;> rfl
theorem not_ne (i : Bool) : (!i) ≠ i := by cases i <;> simp
/-- one side turns, and tells frames -/
theorem InvP.step {l : Bool → LS} {now : Bool → Nat} {way : Bool → List Fr} (h : InvP l now way) (i : Bool) {s : LS} {F : List Fr} (hg : Lx (l i).si (l i).conn s.si s.conn) (hh : s.heard ≤ now i)
  (hk : Lx s.inc s.known (l (!i)).si (l (!i)).conn) (hF : ∀ f ∈ F, OfL s f) : InvP (atB l i s) now (atB way (!i) (way (!i) ++ F)) := by
 have ei : ∀ j, j = i ∨ j = !i := fun j => by cases i <;> cases j <;> simp
 have a1 : atB l i s i = s := atB_same l i s; have a2 : atB l i s (!i) = l (!i) := by unfold atB; rw [if_neg (not_ne i)]
 have b1 : atB way (!i) (way (!i) ++ F) (!i) = way (!i) ++ F := atB_same way (!i) _; have b2 : atB way (!i) (way (!i) ++ F) i = way i := by unfold atB; rw [if_neg (fun e => not_ne i e.symm)]
 refine ⟨?_, ?_, ?_, ?_⟩
 ·intro j
  rcases ei j with rfl | rfl
  ·rw [a1]; exact hh
  ·rw [a2]; exact h.hd _
 ·intro j
  rcases ei j with rfl | rfl
  ·rw [a1, a2]; exact (h.kn _).trans hg
  ·rw [notnot, a1, a2]; exact hk
 ·intro j f hf
  rcases ei j with rfl | rfl
  ·rw [b2] at hf; rw [a1]; exact (h.tw _ f hf).trans hg
  ·rw [b1] at hf; rw [a2]
   rcases List.mem_append.1 hf with hf | hf
   ·exact h.tw _ f hf
   ·obtain ⟨_, _, e3, e4⟩ := hF f hf; rw [e3, e4]; exact hk
 ·intro j f hf
  rcases ei j with rfl | rfl
  ·rw [b1] at hf; rw [a1]
   rcases List.mem_append.1 hf with hf | hf
   ·exact (h.fr _ f hf).trans hg
   ·obtain ⟨e1, e2, _, _⟩ := hF f hf; rw [e1, e2]; exact Lx.refl _ _
  ·rw [notnot, b2] at hf; rw [a2]; have := h.fr (!i) f (by rw [notnot]; exact hf); exact this
def TW.Inv (T : TW) : Prop := InvP T.l T.now T.way
theorem inv_start : TW.start.Inv := ⟨fun i => by simp [TW.start, newLk], fun i => .inl (by simp [TW.start, newLk]), fun i f hf => by simp [TW.start] at hf, fun i f hf => by simp [TW.start] at hf⟩
theorem start_ok : TW.start.Ok 1 := ⟨fun i => newLk_num i 1, fun i => by simp [TW.start, newLk], fun i => by simp [TW.start], fun i => by simp [TW.start], fun i f hf => by simp [TW.start] at hf, fun p => by simp [TW.start], fun p => by simp [TW.start], by simp [TW.start]⟩
theorem inv_tick {T : TW} (h : T.Inv) (i : Bool) : (T.tick i).Inv := by
 obtain ⟨h1, h2, h3, h4, h5, _⟩ := tick_nums (T.l i) (T.now i); have hh := h.hd i; have hk := h.kn (!i); rw [notnot] at hk; refine InvP.step h i (s := (T.l i).tick (T.now i)) ?_ (by rw [h5]; exact hh) (by rw [h3, h4]; exact hk) (ofL_tickF _ _); rw [h1, h2]; exact .inr ⟨rfl, tick1_conn _ _⟩
theorem inv_take {T : TW} (h : T.Inv) (i : Bool) {f : Fr} (hf : Lx f.inc f.conn (T.l (!i)).si (T.l (!i)).conn) : (T.take i f).Inv := by
 obtain ⟨h1, h2, h3, h4⟩ := take_nums (T.l i) (T.now i) f; have hh := h.hd i; have hk := h.kn (!i); rw [notnot] at hk; refine InvP.step h i (s := (T.l i).take (T.now i) f) ?_ ?_ ?_ (ofL_takeF _ _ _)
 ·rw [h1, h2]; exact Lx.refl _ _
 ·rcases h3 with e | e
  ·rw [e]; exact Nat.le_refl _
  ·rw [e]; exact hh
 ·rcases h4 with ⟨e1, e2⟩ | ⟨e1, e2⟩
  ·rw [e1, e2]; exact hk
  ·rw [e1, e2]; exact hf
theorem inv_send {T : TW} (h : T.Inv) (i : Bool) : (T.send i).Inv := by
 obtain ⟨_, _, u3, _, u5, u6, u7⟩ := send_up (s := T.l i) (now := T.now i) (b := bodyN T.n i); have hd : ((T.l i).send (T.now i) (bodyN T.n i)).heard = (T.l i).heard := by unfold LS.send; split <;> rfl
 have hh := h.hd i; have hk := h.kn (!i); rw [notnot] at hk; have key := InvP.step h i (s := (T.l i).send (T.now i) (bodyN T.n i)) (F := (T.l i).sendF (bodyN T.n i)) (by rw [u3, u5]; exact Lx.refl _ _) (by rw [hd]; exact hh) (by rw [u6, u7]; exact hk) (ofL_sendF _ _ _); unfold TW.Inv; have hw : (T.send i).way = atB T.way (!i) (T.way (!i) ++ (T.l i).sendF (bodyN T.n i)) := by cases i <;> first | exact send_way0 | exact send_way1
 rw [(send_l T i).1, (send_l T i).2.1, hw]; exact key
theorem inv_life {T : TW} (h : T.Inv) (i : Bool) : (T.life i).Inv := by
 have key := InvP.step h i (s := newLk i ((T.l i).si + 1)) (F := []) (.inl (Nat.lt_succ_self _)) (Nat.zero_le _) (by unfold Lx newLk; simp; omega) (by simp); refine InvP.less key (fun _ => Nat.le_refl _) ?_; intro j f hf; unfold atB; split
 ·rename_i e; subst e; exact List.mem_append_left _ hf
 ·exact hf
theorem mem_trim {l : List Fr} {f : Fr} (h : f ∈ Go.Proofs.Ytngegjboenfmeaa.trim l) : f ∈ l := by
 unfold Go.Proofs.Ytngegjboenfmeaa.trim at h; exact List.mem_of_mem_drop h
theorem inv_later {T : TW} (h : T.Inv) (i : Bool) (q : Nat) : (T.later i q).Inv :=
 InvP.less h (fun j => by
  show T.now j ≤ atB T.now i (T.now i + q) j; unfold atB; split
  ·rename_i e; subst e; omega
  ·exact Nat.le_refl _) (fun i f hf => hf)
end Go.Proofs.Ytngegjboenfmeaa
/- What is told by a pair is what was sent by it, in order, each once: the plain law of order. No program in sight. -/
namespace Go.Proofs.Ytngegjboenfmeaa
open Go Go.RowKit
set_option linter.unusedVariables false
set_option linter.unusedSimpArgs false
set_option maxRecDepth 100000

def Lx4 (a b c d a' b' c' d' : Nat) : Prop := a < a' ∨ (a = a' ∧ (b < b' ∨ (b = b' ∧ (c < c' ∨ (c = c' ∧ d ≤ d')))))
def Lt4 (a b c d a' b' c' d' : Nat) : Prop := a < a' ∨ (a = a' ∧ (b < b' ∨ (b = b' ∧ (c < c' ∨ (c = c' ∧ d < d')))))
/-- a link's pair, its own side first; the other side's, as the link knows it -/
def prL (i : Bool) (s : LS) : Pr := (side i, s.si, s.conn, s.inc, s.known)
def rpL (i : Bool) (s : LS) : Pr := (1 - side i, s.inc, s.known, s.si, s.conn)
def frq (i : Bool) (f : Fr) : Pr := (side i, f.inc, f.conn, f.pinc, f.pconn)
/-- a frame's body stands at its number among what was sent -/
def Snt (L : List (List UInt8)) (f : Fr) : Prop := 1 ≤ f.seq ∧ L[f.seq - 1]? = some f.body
theorem Snt.more {L : List (List UInt8)} {f : Fr} (h : Snt L f) (b : List UInt8) : Snt (L ++ [b]) f := ⟨h.1, by
 have hl := (List.getElem?_eq_some_iff.1 h.2).1; rw [List.getElem?_append_left hl]; exact h.2⟩
structure InvO (l : Bool → LS) (way : Bool → List Fr) (sent told : Pr → List (List UInt8)) : Prop where
 pre : ∀ q, told q <+: sent q
 snd : ∀ i, (l i).base ≤ (sent (prL i (l i))).length ∧ (sent (prL i (l i))).drop (l i).base = (l i).box
 rcv : ∀ i, (l i).got ≤ (sent (rpL i (l i))).length ∧ told (rpL i (l i)) = (sent (rpL i (l i))).take (l i).got
 dn : ∀ i, (l i).up = false → (l i).base = 0 ∧ (l i).box = [] ∧ (l i).got = 0
 fs : ∀ i q, q.1 = side i → sent q ≠ [] → Lx4 q.2.1 q.2.2.1 q.2.2.2.1 q.2.2.2.2 (l i).si (l i).conn (l i).inc (l i).known
 ft : ∀ i q, q.1 = 1 - side i → told q ≠ [] → Lx4 q.2.2.2.1 q.2.2.2.2 q.2.1 q.2.2.1 (l i).si (l i).conn (l i).inc (l i).known
 fr : ∀ i, ∀ f ∈ way (!i), f.kind = 2 → Snt (sent (frq i f)) f
theorem side_ne (i : Bool) : side (!i) ≠ side i := by cases i <;> simp [side]
theorem side_not (i : Bool) : 1 - side i = side (!i) := by cases i <;> simp [side]
theorem two_of (i j : Bool) : j = i ∨ j = !i := by cases i <;> cases j <;> simp
theorem atB_not {α : Type} (f : Bool → α) (i : Bool) (x : α) : atB f i x (!i) = f (!i) := atB_other f i x
section
variable {l : Bool → LS} {way : Bool → List Fr} {sent told : Pr → List (List UInt8)}
/-- a side begins anew, by a pair that was not there -/
theorem InvO.reset (h : InvO l way sent told) (i : Bool) {s : LS} (hlt : Lt4 (l i).si (l i).conn (l i).inc (l i).known s.si s.conn s.inc s.known) (hb : s.base = 0) (hx : s.box = []) (hg : s.got = 0) : InvO (atB l i s) way sent told := by
 have a1 : atB l i s i = s := atB_same l i s; have a2 : atB l i s (!i) = l (!i) := atB_not l i s; have e1 : sent (prL i s) = [] := by
  by_cases e : sent (prL i s) = []
  ·exact e
  ·have := h.fs i _ rfl e
   simp only [prL] at this; unfold Lx4 at this; unfold Lt4 at hlt; omega
 have e2 : told (rpL i s) = [] := by
  by_cases e : told (rpL i s) = []
  ·exact e
  ·have := h.ft i _ rfl e
   simp only [rpL] at this; unfold Lx4 at this; unfold Lt4 at hlt; omega
 refine ⟨h.pre, ?_, ?_, ?_, ?_, ?_, h.fr⟩
 ·intro j
  rcases two_of i j with rfl | rfl
  ·rw [a1, e1, hb, hx]; exact ⟨Nat.zero_le _, rfl⟩
  ·rw [a2]; exact h.snd _
 ·intro j
  rcases two_of i j with rfl | rfl
  ·rw [a1, e2, hg]; exact ⟨Nat.zero_le _, by simp⟩
  ·rw [a2]; exact h.rcv _
 ·intro j
  rcases two_of i j with rfl | rfl
  ·rw [a1]; exact fun _ => ⟨hb, hx, hg⟩
  ·rw [a2]; exact h.dn _
 ·intro j q hq hs
  rcases two_of i j with rfl | rfl
  ·rw [a1]; have := h.fs _ q hq hs; unfold Lx4 at *; unfold Lt4 at hlt; omega
  ·rw [a2]; exact h.fs _ q hq hs
 ·intro j q hq hs
  rcases two_of i j with rfl | rfl
  ·rw [a1]; have := h.ft _ q hq hs; unfold Lx4 at *; unfold Lt4 at hlt; omega
  ·rw [a2]; exact h.ft _ q hq hs
/-- the pair stays, what was taken too -/
theorem InvO.same (h : InvO l way sent told) (i : Bool) {s : LS} (h1 : s.si = (l i).si) (h2 : s.conn = (l i).conn) (h3 : s.inc = (l i).inc) (h4 : s.known = (l i).known) (h5 : s.got = (l i).got)
  (h6 : ∀ S : List (List UInt8), (l i).base ≤ S.length → S.drop (l i).base = (l i).box → s.base ≤ S.length ∧ S.drop s.base = s.box) (h7 : s.up = false → s.base = 0 ∧ s.box = [] ∧ s.got = 0) : InvO (atB l i s) way sent told := by
 have a1 : atB l i s i = s := atB_same l i s; have a2 : atB l i s (!i) = l (!i) := atB_not l i s; have e1 : prL i s = prL i (l i) := by unfold prL; rw [h1, h2, h3, h4]
 have e2 : rpL i s = rpL i (l i) := by unfold rpL; rw [h1, h2, h3, h4]
 refine ⟨h.pre, ?_, ?_, ?_, ?_, ?_, h.fr⟩
 ·intro j
  rcases two_of i j with rfl | rfl
  ·rw [a1, e1]; exact h6 _ (h.snd _).1 (h.snd _).2
  ·rw [a2]; exact h.snd _
 ·intro j
  rcases two_of i j with rfl | rfl
  ·rw [a1, e2, h5]; exact h.rcv _
  ·rw [a2]; exact h.rcv _
 ·intro j
  rcases two_of i j with rfl | rfl
  ·rw [a1]; exact h7
  ·rw [a2]; exact h.dn _
 ·intro j q hq hs
  rcases two_of i j with rfl | rfl
  ·rw [a1, h1, h2, h3, h4]; exact h.fs _ q hq hs
  ·rw [a2]; exact h.fs _ q hq hs
 ·intro j q hq hs
  rcases two_of i j with rfl | rfl
  ·rw [a1, h1, h2, h3, h4]; exact h.ft _ q hq hs
  ·rw [a2]; exact h.ft _ q hq hs
theorem updM_same (m : Pr → List (List UInt8)) (q : Pr) (x : List (List UInt8)) : updM m q x q = x := by simp [updM]
theorem updM_ne {m : Pr → List (List UInt8)} {q p : Pr} {x : List (List UInt8)} (h : p ≠ q) : updM m q x p = m p := by simp [updM, h]
/-- the next one is taken -/
theorem InvO.tell (h : InvO l way sent told) (i : Bool) {s : LS} {b : List UInt8} (h1 : s.si = (l i).si) (h2 : s.conn = (l i).conn) (h3 : s.inc = (l i).inc) (h4 : s.known = (l i).known) (h5 : s.got = (l i).got + 1)
  (hb : s.base = (l i).base) (hx : s.box = (l i).box) (hu : s.up = true) (hsb : (sent (rpL i (l i)))[(l i).got]? = some b) : InvO (atB l i s) way sent (updM told (rpL i s) (told (rpL i s) ++ [b])) := by
 have a1 : atB l i s i = s := atB_same l i s; have a2 : atB l i s (!i) = l (!i) := atB_not l i s; have e1 : prL i s = prL i (l i) := by unfold prL; rw [h1, h2, h3, h4]
 have e2 : rpL i s = rpL i (l i) := by unfold rpL; rw [h1, h2, h3, h4]
 have hlt := (List.getElem?_eq_some_iff.1 hsb).1; have ht : told (rpL i (l i)) ++ [b] = (sent (rpL i (l i))).take ((l i).got + 1) := by
  rw [(h.rcv i).2, List.take_add_one, hsb]; rfl
 rw [e2]; have hne : rpL (!i) (l (!i)) ≠ rpL i (l i) := fun e => by
  have := congrArg (fun p : Pr => p.1) e
  simp only [rpL, side_not] at this; rw [notnot] at this; exact side_ne i this.symm
 refine ⟨?_, ?_, ?_, ?_, ?_, ?_, h.fr⟩
 ·intro q
  by_cases e : q = rpL i (l i)
  ·rw [e, updM_same, ht]; exact List.take_prefix _ _
  ·rw [updM_ne e]; exact h.pre q
 ·intro j
  rcases two_of i j with rfl | rfl
  ·rw [a1, e1, hb, hx]; exact h.snd _
  ·rw [a2]; exact h.snd _
 ·intro j
  rcases two_of i j with rfl | rfl
  ·rw [a1, e2, h5, updM_same, ht]; exact ⟨hlt, rfl⟩
  ·rw [a2, updM_ne hne]; exact h.rcv _
 ·intro j
  rcases two_of i j with rfl | rfl
  ·rw [a1, hu]; intro e; cases e
  ·rw [a2]; exact h.dn _
 ·intro j q hq hs
  rcases two_of i j with rfl | rfl
  ·rw [a1, h1, h2, h3, h4]; exact h.fs _ q hq hs
  ·rw [a2]; exact h.fs _ q hq hs
 ·intro j q hq hs
  by_cases e : q = rpL i (l i)
  ·rcases two_of i j with rfl | rfl
   ·rw [a1, h1, h2, h3, h4, e]; simp only [rpL]; unfold Lx4; omega
   ·rw [e] at hq; simp only [rpL, side_not] at hq; rw [notnot] at hq; exact (side_ne i hq).elim
  ·rw [updM_ne e] at hs
   rcases two_of i j with rfl | rfl
   ·rw [a1, h1, h2, h3, h4]; exact h.ft _ q hq hs
   ·rw [a2]; exact h.ft _ q hq hs
/-- a body is sent -/
theorem InvO.push (h : InvO l way sent told) (i : Bool) {s : LS} {b : List UInt8} (h1 : s.si = (l i).si) (h2 : s.conn = (l i).conn) (h3 : s.inc = (l i).inc) (h4 : s.known = (l i).known) (h5 : s.got = (l i).got)
  (hb : s.base = (l i).base) (hx : s.box = (l i).box ++ [b]) (hu : s.up = true) : InvO (atB l i s) way (updM sent (prL i s) (sent (prL i s) ++ [b])) told := by
 have a1 : atB l i s i = s := atB_same l i s; have a2 : atB l i s (!i) = l (!i) := atB_not l i s; have e1 : prL i s = prL i (l i) := by unfold prL; rw [h1, h2, h3, h4]
 have e2 : rpL i s = rpL i (l i) := by unfold rpL; rw [h1, h2, h3, h4]
 rw [e1]; have n1 : rpL i (l i) ≠ prL i (l i) := fun e => by
  have := congrArg (fun p : Pr => p.1) e
  simp only [rpL, prL, side_not] at this; exact side_ne i this
 have n2 : prL (!i) (l (!i)) ≠ prL i (l i) := fun e => by
  have := congrArg (fun p : Pr => p.1) e
  simp only [prL] at this; exact side_ne i this
 have grow : ∀ q, ∃ y, updM sent (prL i (l i)) (sent (prL i (l i)) ++ [b]) q = sent q ++ y := fun q => by
  by_cases e : q = prL i (l i)
  ·rw [e, updM_same]; exact ⟨_, rfl⟩
  ·rw [updM_ne e]; exact ⟨[], by simp⟩
 refine ⟨?_, ?_, ?_, ?_, ?_, ?_, ?_⟩
 ·intro q; obtain ⟨y, hy⟩ := grow q; rw [hy]; exact (h.pre q).trans (List.prefix_append _ _)
 ·intro j
  rcases two_of i j with rfl | rfl
  ·obtain ⟨g1, g2⟩ := h.snd j; rw [a1, e1, updM_same, hb, hx]; refine ⟨by rw [List.length_append]; omega, ?_⟩; rw [List.drop_append_of_le_length g1, g2]
  ·rw [a2, updM_ne n2]; exact h.snd _
 ·intro j
  rcases two_of i j with rfl | rfl
  ·rw [a1, e2, h5, updM_ne n1]; exact h.rcv _
  ·obtain ⟨g1, g2⟩ := h.rcv (!i); obtain ⟨y, hy⟩ := grow (rpL (!i) (l (!i))); rw [a2, hy]; refine ⟨by rw [List.length_append]; omega, ?_⟩; rw [List.take_append_of_le_length g1]; exact g2
 ·intro j
  rcases two_of i j with rfl | rfl
  ·rw [a1, hu]; intro e; cases e
  ·rw [a2]; exact h.dn _
 ·intro j q hq hs
  by_cases e : q = prL i (l i)
  ·rcases two_of i j with rfl | rfl
   ·rw [a1, h1, h2, h3, h4, e]; simp only [prL]; unfold Lx4; omega
   ·rw [e] at hq; simp only [prL] at hq; exact (side_ne i hq.symm).elim
  ·rw [updM_ne e] at hs
   rcases two_of i j with rfl | rfl
   ·rw [a1, h1, h2, h3, h4]; exact h.fs _ q hq hs
   ·rw [a2]; exact h.fs _ q hq hs
 ·intro j q hq hs
  rcases two_of i j with rfl | rfl
  ·rw [a1, h1, h2, h3, h4]; exact h.ft _ q hq hs
  ·rw [a2]; exact h.ft _ q hq hs
 ·intro j f hf hk; have := h.fr j f hf hk
  by_cases e : frq j f = prL i (l i)
  ·rw [e, updM_same, ← e]; exact this.more b
  ·rw [updM_ne e]; exact this
/-- frames go, frames are lost -/
theorem InvO.ways (h : InvO l way sent told) {way' : Bool → List Fr} (hw : ∀ i, ∀ f ∈ way' (!i), f ∈ way (!i) ∨ (f.kind = 2 → Snt (sent (frq i f)) f)) : InvO l way' sent told :=
 ⟨h.pre, h.snd, h.rcv, h.dn, h.fs, h.ft, fun i f hf hk => (hw i f hf).elim (fun h2 => h.fr i f h2 hk) (fun h2 => h2 hk)⟩
theorem InvO.go (h : InvO l way sent told) (i : Bool) {F : List Fr} (hF : ∀ f ∈ F, f.kind = 2 → Snt (sent (frq i f)) f) : InvO l (atB way (!i) (way (!i) ++ F)) sent told := by
 refine h.ways fun j f hf => ?_
 rcases two_of i j with rfl | rfl
 ·rw [atB_same] at hf; exact (List.mem_append.1 hf).imp id (hF f)
 ·rw [notnot] at hf ⊢; have e : atB way (!i) (way (!i) ++ F) i = way i := by unfold atB; rw [if_neg (fun e => not_ne i e.symm)]
  rw [e] at hf; exact .inl hf
end
theorem tellE_app (q : Pr) : ∀ (A B : List Ev) (t : Pr → List (List UInt8)), tellE t q (A ++ B) = tellE (tellE t q A) q B
 | [], B, t => rfl
 | e :: A, B, t => tellE_app q A B _
theorem tellE_no (q : Pr) : ∀ (E : List Ev) (t : Pr → List (List UInt8)), (∀ e ∈ E, e.kind ≠ 3) → tellE t q E = t
 | [], t, _ => rfl
 | e :: E, t, h => by
  unfold tellE; rw [if_neg (h e (by simp))]; exact tellE_no q E t fun x hx => h x (by simp [hx])
/-- what is due stands among what was sent -/
theorem due_snt {s : LS} {S : List (List UInt8)} (h : S.drop s.base = s.box) : ∀ x ∈ s.due, 1 ≤ x.1 ∧ S[x.1 - 1]? = some x.2 := by
 intro x hx; unfold LS.due items at hx; obtain ⟨k, hk, rfl⟩ := List.mem_mapIdx.1 hx; refine ⟨by simp only; omega, ?_⟩; have hd : ∀ y, (dueL s.base s.box)[k]? = some y → s.box[k]? = some y := by
  intro y hy; unfold dueL at hy; split at hy
  ·rw [List.getElem?_take] at hy; split at hy
   ·exact hy
   ·cases hy
  ·simp at hy
 have := hd _ (List.getElem?_eq_getElem hk)
 generalize (dueL s.base s.box)[k] = y at this; rw [← h, List.getElem?_drop] at this; simp only; rw [show s.base + 1 + k - 1 = s.base + k by omega]; exact this
theorem data_snt {s : LS} {S : List (List UInt8)} (h : S.drop s.base = s.box) : ∀ f ∈ s.due.map s.data, Snt S f := by
 intro f hf; obtain ⟨x, hx, rfl⟩ := List.mem_map.1 hf; exact due_snt h x hx
theorem ofL_frq {s : LS} {f : Fr} (i : Bool) (h : OfL s f) : frq i f = prL i s := by
 obtain ⟨h1, h2, h3, h4⟩ := h; unfold frq prL; rw [h1, h2, h3, h4]
def TW.Ord (T : TW) : Prop := InvO T.l T.way T.sent T.told
theorem ord_start : TW.start.Ord := ⟨fun q => List.prefix_refl _, fun i => ⟨Nat.zero_le _, rfl⟩, fun i => ⟨Nat.zero_le _, rfl⟩, fun i _ => ⟨rfl, rfl, rfl⟩, fun i q _ h => (h rfl).elim, fun i q _ h => (h rfl).elim, fun i f hf => by simp [TW.start] at hf⟩
theorem atB_twice {α : Type} (f : Bool → α) (i : Bool) (x y : α) : atB (atB f i x) i y = atB f i y := by
 funext j; unfold atB; split <;> rfl
theorem atB_id {α : Type} (f : Bool → α) (i : Bool) : atB f i (f i) = f := by
 funext j; unfold atB; split
 ·rename_i e; rw [e]
 ·rfl
theorem ord_tick {T : TW} (h : T.Ord) (i : Bool) : (T.tick i).Ord := by
 have hE : ∀ e ∈ (T.l i).tickE (T.now i), e.kind ≠ 3 := by
  intro e he; unfold LS.tickE at he; split at he
  ·rw [List.mem_singleton.1 he]; simp [LS.ev]
  ·simp at he
 -- the first half
 have h1 : InvO (atB T.l i ((T.l i).tick1 (T.now i))) T.way T.sent T.told := by
  unfold LS.tick1; split
  ·exact h.reset i (by unfold Lt4; simp [LS.down]) rfl rfl rfl
  ·rw [atB_id]; exact h
 have e1 : atB T.l i ((T.l i).tick1 (T.now i)) i = (T.l i).tick1 (T.now i) := atB_same _ _ _; have h2 : InvO (atB T.l i ((T.l i).tick (T.now i))) T.way T.sent T.told := by
  have := h1.same i (s := (T.l i).tick (T.now i)) (by rw [e1]; unfold LS.tick; simp only; split <;> rfl) (by rw [e1]; unfold LS.tick; simp only; split <;> rfl) (by rw [e1]; unfold LS.tick; simp only; split <;> rfl) (by rw [e1]; unfold LS.tick; simp only; split <;> rfl) (by rw [e1]; unfold LS.tick; simp only; split <;> rfl)
   (by rw [e1]; unfold LS.tick; simp only; split <;> exact fun S a b => ⟨a, b⟩) (by
    have hd := h1.dn i; rw [e1] at hd; unfold LS.tick; simp only; split <;> exact hd)
  rw [atB_twice] at this; exact this
 have hw := h2.go i (F := (T.l i).tickF (T.now i)) (by
  intro f hf hk; have hq := ofL_frq i (ofL_tickF _ _ f hf); have hs := (h2.snd i); rw [atB_same] at hs; rw [hq]; unfold LS.tickF at hf; simp only at hf
  rcases List.mem_cons.1 hf with rfl | hf
  ·simp [LS.hello] at hk
  ·split at hf
   ·have hs2 := (h1.snd i).2; rw [e1] at hs2; have e3 : prL i ((T.l i).tick (T.now i)) = prL i ((T.l i).tick1 (T.now i)) := by
     unfold LS.tick; simp only; split <;> rfl
    rw [e3]; exact data_snt hs2 f hf
   ·simp at hf)
 unfold TW.Ord TW.tick TW.ans; simp only; rw [tellE_no _ _ _ hE]; exact hw
theorem ord_life {T : TW} (h : T.Ord) (i : Bool) : (T.life i).Ord := InvO.reset h i (by unfold Lt4; simp [newLk]) rfl rfl rfl
theorem ord_send {T : TW} (h : T.Ord) (i : Bool) : (T.send i).Ord := by
 obtain ⟨e1, _, e3, _, e5⟩ := send_l T i; have hw : (T.send i).way = atB T.way (!i) (T.way (!i) ++ (T.l i).sendF (bodyN T.n i)) := by cases i <;> first | exact send_way0 | exact send_way1
 unfold TW.Ord; rw [e1, e3, e5, hw]; obtain ⟨u1, _, u3, _, u5, u6, u7⟩ := send_up (s := T.l i) (now := T.now i) (b := bodyN T.n i)
 by_cases he : (T.l i).sendE (bodyN T.n i) = 0
 ·rw [if_pos he]; have hup : (T.l i).up = true := by
   unfold LS.sendE at he; split at he
   ·assumption
   ·simp at he
  have hbox : ((T.l i).send (T.now i) (bodyN T.n i)).box = (T.l i).box ++ [bodyN T.n i] := by unfold LS.send; rw [if_pos he]
  have hbase : ((T.l i).send (T.now i) (bodyN T.n i)).base = (T.l i).base := by unfold LS.send; rw [if_pos he]
  have hgot : ((T.l i).send (T.now i) (bodyN T.n i)).got = (T.l i).got := by unfold LS.send; rw [if_pos he]
  have hp : prL i ((T.l i).send (T.now i) (bodyN T.n i)) = T.pr i := by unfold prL TW.pr; rw [u3, u5, u6, u7]
  have h1 := InvO.push h i (s := (T.l i).send (T.now i) (bodyN T.n i)) (b := bodyN T.n i) u3 u5 u6 u7 hgot hbase hbox (by rw [u1]; exact hup); rw [hp] at h1; refine h1.go i fun f hf hk => ?_
  rw [ofL_frq i (ofL_sendF (T.l i) (T.now i) _ f hf), hp, updM_same]; unfold LS.sendF at hf; split at hf
  ·rw [List.mem_singleton.1 hf]; obtain ⟨g1, g2⟩ := h.snd i; have hl : (T.sent (T.pr i)).length = (T.l i).base + (T.l i).box.length := by
    have := congrArg List.length g2
    rw [List.length_drop] at this; have e : T.pr i = prL i (T.l i) := rfl; rw [e]; omega
   refine ⟨by simp only [LS.data]; omega, ?_⟩; simp only [LS.data]; rw [show (T.l i).base + ((T.l i).box.length + 1) - 1 = (T.sent (T.pr i)).length by omega]; simp
  ·simp at hf
 ·rw [if_neg he]; have hF : (T.l i).sendF (bodyN T.n i) = [] := by unfold LS.sendF; rw [if_neg (fun e => he e.1)]
  have hs : (T.l i).send (T.now i) (bodyN T.n i) = T.l i := by unfold LS.send; rw [if_neg he]
  rw [hF, hs, atB_id, List.append_nil, atB_id]; exact h
theorem ord_take {T : TW} (h : T.Ord) (i : Bool) {f : Fr} (hf : f.kind = 2 → Snt (T.sent (frq (!i) f)) f) : (T.take i f).Ord := by
 unfold TW.Ord TW.take TW.ans; simp only
 by_cases hl : (T.l i).looks f = true
 ·-- it turns to another connection, or not
  have h1 : InvO (atB T.l i ((T.l i).turn f)) T.way T.sent T.told := by
   unfold LS.turn; split
   ·rename_i ho
    refine h.reset i ?_ rfl rfl rfl; simp only [LS.looks, Bool.and_eq_true, Bool.not_eq_true', Bool.or_eq_false_iff, decide_eq_false_iff_not, Bool.and_eq_false_iff] at hl; simp only [LS.other, Bool.or_eq_true, decide_eq_true_eq] at ho; show Lt4 (T.l i).si (T.l i).conn (T.l i).inc (T.l i).known (T.l i).si (T.l i).conn f.inc f.conn; unfold Lt4; omega
   ·rw [atB_id]; exact h
  have e1 : atB T.l i ((T.l i).turn f) i = (T.l i).turn f := atB_same _ _ _; have h2 : InvO (atB T.l i ((T.l i).take1 (T.now i) f)) T.way T.sent T.told := by
   have hd := h1.dn i; rw [e1] at hd; have := h1.same i (s := (T.l i).take1 (T.now i) f) (by rw [e1]; rfl) (by rw [e1]; rfl) (by rw [e1]; rfl) (by rw [e1]; rfl) (by rw [e1]; rfl) (by rw [e1]; exact fun S a b => ⟨a, b⟩) hd; rw [atB_twice] at this; exact this
  have hT1 : ∀ e ∈ (T.l i).take1E f, e.kind ≠ 3 := by
   intro e he; unfold LS.take1E at he; split at he
   ·rw [List.mem_singleton.1 he]; simp [LS.ev]
   ·simp at he
  have et : (T.l i).take (T.now i) f = (if ((T.l i).take1 (T.now i) f).knows f then ((T.l i).take1 (T.now i) f).take5 (T.now i) f else (T.l i).take1 (T.now i) f) := by unfold LS.take; rw [if_pos hl]
  have eF : (T.l i).takeF (T.now i) f = (if ((T.l i).take1 (T.now i) f).knows f then ((T.l i).take1 (T.now i) f).take5F f else [((T.l i).take1 (T.now i) f).hello]) := by unfold LS.takeF; rw [if_pos hl]
  have eE : (T.l i).takeE (T.now i) f = (T.l i).take1E f ++ (if ((T.l i).take1 (T.now i) f).knows f then ((T.l i).take1 (T.now i) f).take2E ++ (((T.l i).take1 (T.now i) f).take3 f).take4E f else []) := by unfold LS.takeE; rw [if_pos hl]
  rw [et, eF, eE]
  -- what it knows of the other one is the frame's
  have hinc : ((T.l i).take1 (T.now i) f).inc = f.inc ∧ ((T.l i).take1 (T.now i) f).known = f.conn := by
   unfold LS.take1 LS.turn; split
   ·exact ⟨rfl, rfl⟩
   ·rename_i ho
    simp only [LS.other, Bool.or_eq_true, decide_eq_true_eq, not_or, Decidable.not_not] at ho; exact ⟨ho.1.symm, ho.2.symm⟩
  obtain ⟨t, Ht⟩ : ∃ t, (T.l i).take1 (T.now i) f = t := ⟨_, rfl⟩; rw [Ht] at h2 hinc ⊢
  by_cases hk : t.knows f = true
  ·rw [if_pos hk, if_pos hk, if_pos hk]; have e2 : atB T.l i t i = t := atB_same _ _ _
   -- acknowledged
   have h3 : InvO (atB T.l i (t.take3 f)) T.way T.sent T.told := by
    have := h2.same i (s := t.take3 f) (by rw [e2]; rfl) (by rw [e2]; rfl) (by rw [e2]; rfl) (by rw [e2]; rfl) (by rw [e2]; rfl) (by
     rw [e2]; intro S a b; show ackV t.base t.box f.ack ≤ S.length ∧ S.drop (ackV t.base t.box f.ack) = ackL t.base t.box f.ack
     by_cases ha : ackB t.base t.box f.ack = true
     ·obtain ⟨k1, k2⟩ := ack_yes ha; simp only [ackB, Bool.and_eq_true, decide_eq_true_eq] at ha; have hbl := congrArg List.length b; rw [List.length_drop] at hbl; rw [k1, k2, ← b, List.drop_drop]; exact ⟨by omega, by rw [show t.base + (f.ack - t.base) = f.ack by omega]⟩
     ·simp only [Bool.not_eq_true] at ha; obtain ⟨k1, k2⟩ := ack_no ha; rw [k1, k2]; exact ⟨a, b⟩) (by intro e; simp [LS.take3] at e)
    rw [atB_twice] at this; exact this
   have e3 : atB T.l i (t.take3 f) i = t.take3 f := atB_same _ _ _; have hrp : rpL i (t.take3 f) = frq (!i) f := by
    simp only [LS.knows, Bool.and_eq_true, decide_eq_true_eq] at hk; unfold rpL frq; rw [side_not, hk.1, hk.2]; show (side (!i), t.inc, t.known, t.si, t.conn) = _; rw [hinc.1, hinc.2]
   -- taken
   have hT2 : ∀ e ∈ t.take2E, e.kind ≠ 3 := by
    intro e he; unfold LS.take2E at he; split at he
    ·simp at he
    ·rw [List.mem_singleton.1 he]; simp [LS.ev]
   have h4 : InvO (atB T.l i ((t.take3 f).take4 f)) T.way T.sent (tellE T.told (rpL i ((t.take3 f).take4 f)) ((T.l i).take1E f ++ (t.take2E ++ (t.take3 f).take4E f))) := by
    rw [tellE_app, tellE_no _ _ _ hT1, tellE_app, tellE_no _ _ _ hT2]
    by_cases hta : (t.take3 f).taken f = true
    ·have e5 : (t.take3 f).take4 f = { t.take3 f with got := f.seq } := by unfold LS.take4; rw [if_pos hta]
     have e6 : (t.take3 f).take4E f = [(t.take3 f).ev 3 f.body] := by unfold LS.take4E; rw [if_pos hta]
     rw [e5, e6]; simp only [LS.taken, takeB, Bool.and_eq_true, decide_eq_true_eq] at hta; obtain ⟨hk2, _, hsq⟩ := hta; have hsn := hf hk2; rw [← hrp] at hsn; have := h3.tell i (s := { t.take3 f with got := f.seq }) (b := f.body) (by rw [e3]) (by rw [e3]) (by rw [e3]) (by rw [e3]) (by rw [e3]; exact hsq) (by rw [e3]) (by rw [e3]) rfl (by
      rw [e3]; have h9 := hsn.2; rw [hsq] at h9; exact h9)
     rw [atB_twice] at this; exact this
    ·simp only [Bool.not_eq_true] at hta; have e5 : (t.take3 f).take4 f = t.take3 f := by unfold LS.take4; rw [if_neg (by rw [hta]; simp)]
     have e6 : (t.take3 f).take4E f = [] := by unfold LS.take4E; rw [if_neg (by rw [hta]; simp)]
     rw [e5, e6]; exact h3
   obtain ⟨u, Hu⟩ : ∃ u, (t.take3 f).take4 f = u := ⟨_, rfl⟩; have h5e : (t.take5 (T.now i) f) = u ∨ (t.take5 (T.now i) f) = { u with sent := T.now i } := by
    unfold LS.take5; simp only; rw [Hu]; split
    ·exact .inl rfl
    ·exact .inr rfl
   have hrp5 : rpL i (t.take5 (T.now i) f) = rpL i u := by rcases h5e with e | e <;> rw [e] <;> rfl
   have hpr5 : prL i (t.take5 (T.now i) f) = prL i u := by rcases h5e with e | e <;> rw [e] <;> rfl
   rw [Hu] at h4; have e4 : atB T.l i u i = u := atB_same _ _ _; have hT : TW.rp { T with l := atB T.l i (t.take5 (T.now i) f) } i = rpL i u := by
    rw [← hrp5]; unfold TW.rp rpL; simp only [atB_same]
   rw [hT]; have h5 : InvO (atB T.l i (t.take5 (T.now i) f)) T.way T.sent (tellE T.told (rpL i u) ((T.l i).take1E f ++ (t.take2E ++ (t.take3 f).take4E f))) := by
    have hd := h4.dn i; rw [e4] at hd; have := h4.same i (s := t.take5 (T.now i) f) (by rw [e4]; rcases h5e with e | e <;> rw [e]) (by rw [e4]; rcases h5e with e | e <;> rw [e]) (by rw [e4]; rcases h5e with e | e <;> rw [e]) (by rw [e4]; rcases h5e with e | e <;> rw [e]) (by rw [e4]; rcases h5e with e | e <;> rw [e])
     (by rw [e4]; rcases h5e with e | e <;> rw [e] <;> exact fun S a b => ⟨a, b⟩) (by rcases h5e with e | e <;> rw [e] <;> exact hd)
    rw [atB_twice] at this; exact this
   refine h5.go i fun x hx hk2 => ?_
   have hsn := (h4.snd i).2; rw [e4] at hsn; have hof : OfL u x := by
    unfold LS.take5F at hx; simp only at hx; rw [Hu] at hx
    rcases List.mem_append.1 hx with hx | hx
    ·split at hx
     ·simp at hx
     ·obtain ⟨y, _, rfl⟩ := List.mem_map.1 hx; exact ofL_data _ y
    ·split at hx
     ·rw [List.mem_singleton.1 hx]; exact ofL_hello _
     ·simp at hx
   rw [ofL_frq i hof]; unfold LS.take5F at hx; simp only at hx; rw [Hu] at hx
   rcases List.mem_append.1 hx with hx | hx
   ·split at hx
    ·simp at hx
    ·obtain ⟨y, hy, rfl⟩ := List.mem_map.1 hx; exact due_snt hsn y (List.mem_filter.1 hy).1
   ·split at hx
    ·rw [List.mem_singleton.1 hx] at hk2; simp [LS.hello] at hk2
    ·simp at hx
  ·rw [if_neg hk, if_neg hk, if_neg hk, List.append_nil, tellE_no _ _ _ hT1]; refine h2.go i fun x hx hk2 => ?_
   rw [List.mem_singleton.1 hx] at hk2; simp [LS.hello] at hk2
 ·have e1 : (T.l i).take (T.now i) f = T.l i := by unfold LS.take; rw [if_neg hl]
  have e2 : (T.l i).takeF (T.now i) f = [] := by unfold LS.takeF; rw [if_neg hl]
  have e3 : (T.l i).takeE (T.now i) f = [] := by unfold LS.takeE; rw [if_neg hl]
  rw [e1, e2, e3, atB_id, List.append_nil, atB_id]; exact h
end Go.Proofs.Ytngegjboenfmeaa
/- What a call leaves of a link, in one formula each; frames that may be; what is acknowledged. No program in sight. -/
namespace Go.Proofs.Ytngegjboenfmeaa
open Go Go.RowKit
set_option linter.unusedVariables false
set_option linter.unusedSimpArgs false
set_option maxRecDepth 100000

theorem looks_parts {s : LS} {f : Fr} (hl : s.looks f = true) : mayB f.kind f.fr f.to f.inc f.conn f.pinc f.pconn f.ack f.seq f.body.length = true ∧ f.fr = s.peer ∧ f.to = s.sn ∧ Lx s.inc s.known f.inc f.conn := by
 simp only [LS.looks, Bool.and_eq_true, Bool.not_eq_true', Bool.or_eq_false_iff, decide_eq_false_iff_not, Bool.and_eq_false_iff, decide_eq_true_eq] at hl; refine ⟨hl.1.1.1, hl.1.1.2, hl.1.2, ?_⟩; unfold Lx; omega
theorem looks_of {s : LS} {f : Fr} (h1 : mayB f.kind f.fr f.to f.inc f.conn f.pinc f.pconn f.ack f.seq f.body.length = true) (h2 : f.fr = s.peer) (h3 : f.to = s.sn) (h4 : Lx s.inc s.known f.inc f.conn) : s.looks f = true := by
 simp only [LS.looks, Bool.and_eq_true, Bool.not_eq_true', Bool.or_eq_false_iff, decide_eq_false_iff_not, Bool.and_eq_false_iff, decide_eq_true_eq]; unfold Lx at h4; exact ⟨⟨⟨h1, h2⟩, h3⟩, by omega, by omega⟩
/-- the first half of a take -/
theorem take1_form {s : LS} {now : Nat} {f : Fr} : ((s.take1 now f).inc = f.inc ∧ (s.take1 now f).known = f.conn ∧ (s.take1 now f).si = s.si ∧ (s.take1 now f).conn = s.conn ∧ (s.take1 now f).sn = s.sn ∧ (s.take1 now f).peer = s.peer ∧ (s.take1 now f).heard = now ∧ (s.take1 now f).sent = s.sent) ∧
  ((s.other f = true ∧ (s.take1 now f).up = false ∧ (s.take1 now f).base = 0 ∧ (s.take1 now f).box = [] ∧ (s.take1 now f).got = 0) ∨
  (s.other f = false ∧ s.inc = f.inc ∧ s.known = f.conn ∧ (s.take1 now f).up = s.up ∧ (s.take1 now f).base = s.base ∧ (s.take1 now f).box = s.box ∧ (s.take1 now f).got = s.got)) := by
 unfold LS.take1 LS.turn; cases ho : s.other f with
 | true => rw [if_pos rfl]; exact ⟨⟨rfl, rfl, rfl, rfl, rfl, rfl, rfl, rfl⟩, .inl ⟨rfl, rfl, rfl, rfl, rfl⟩⟩
 | false =>
  rw [if_neg (by simp)]; simp only [LS.other, Bool.or_eq_false_iff, decide_eq_false_iff_not, Decidable.not_not] at ho; exact ⟨⟨ho.1.symm, ho.2.symm, rfl, rfl, rfl, rfl, rfl, rfl⟩, .inr ⟨rfl, ho.1.symm, ho.2.symm, rfl, rfl, rfl, rfl⟩⟩
theorem take_A {s : LS} {now : Nat} {f : Fr} (hl : ¬ s.looks f = true) : s.take now f = s ∧ s.takeF now f = [] ∧ s.takeE now f = [] := by
 unfold LS.take LS.takeF LS.takeE; rw [if_neg hl, if_neg hl, if_neg hl]; exact ⟨rfl, rfl, rfl⟩
theorem take_B {s : LS} {now : Nat} {f : Fr} (hl : s.looks f = true) (hk : ¬ (f.pinc = s.si ∧ f.pconn = s.conn)) : s.take now f = s.take1 now f ∧ s.takeF now f = [(s.take now f).hello] ∧ s.takeE now f = s.take1E f := by
 obtain ⟨⟨e1, e2, e3, e4, _⟩, _⟩ := take1_form (s := s) (now := now) (f := f); have hk' : ¬ (s.take1 now f).knows f = true := by
  simp only [LS.knows, Bool.and_eq_true, decide_eq_true_eq, e3, e4]; exact hk
 unfold LS.take LS.takeF LS.takeE; rw [if_pos hl, if_pos hl, if_pos hl]; simp only; rw [if_neg hk', if_neg hk', if_neg hk', List.append_nil]; exact ⟨rfl, rfl, rfl⟩
structure TakeC (s t u : LS) (now : Nat) (f : Fr) (F : List Fr) (E : List Ev) : Prop where
 si : u.si = s.si
 conn : u.conn = s.conn
 sn : u.sn = s.sn
 peer : u.peer = s.peer
 inc : u.inc = f.inc
 known : u.known = f.conn
 up : u.up = true
 heard : u.heard = now
 base : u.base = ackV t.base t.box f.ack
 box : u.box = ackL t.base t.box f.ack
 got : u.got = if f.kind = 2 ∧ takeB t.got f.seq = true then f.seq else t.got
 sent : u.sent = s.sent ∨ (u.sent = now ∧ t.base < u.base)
 frs : F = (if u.base ≤ t.base then [] else (u.due.filter fun x => decide (t.last < x.1)).map u.data) ++ (if f.kind = 2 ∨ t.up = false then [u.hello] else [])
 evs : E = s.take1E f ++ (t.take2E ++ (if f.kind = 2 ∧ takeB t.got f.seq = true then [t.ev 3 f.body] else []))
theorem take_C {s : LS} {now : Nat} {f : Fr} (hl : s.looks f = true) (hk : f.pinc = s.si ∧ f.pconn = s.conn) : TakeC s (s.take1 now f) (s.take now f) now f (s.takeF now f) (s.takeE now f) := by
 obtain ⟨⟨e1, e2, e3, e4, e5, e6, e7, e8⟩, _⟩ := take1_form (s := s) (now := now) (f := f); have hk' : (s.take1 now f).knows f = true := by
  simp only [LS.knows, Bool.and_eq_true, decide_eq_true_eq, e3, e4]; exact hk
 have et : s.take now f = (s.take1 now f).take5 now f := by unfold LS.take; rw [if_pos hl]; simp only; rw [if_pos hk']
 have eF : s.takeF now f = (s.take1 now f).take5F f := by unfold LS.takeF; rw [if_pos hl]; simp only; rw [if_pos hk']
 have eE : s.takeE now f = s.take1E f ++ ((s.take1 now f).take2E ++ ((s.take1 now f).take3 f).take4E f) := by unfold LS.takeE; rw [if_pos hl]; simp only; rw [if_pos hk']
 rw [et, eF, eE]; generalize s.take1 now f = t at *; obtain ⟨u, Hu⟩ : ∃ u, (t.take3 f).take4 f = u := ⟨_, rfl⟩; have hu : u.si = t.si ∧ u.conn = t.conn ∧ u.sn = t.sn ∧ u.peer = t.peer ∧ u.inc = t.inc ∧ u.known = t.known ∧ u.up = true ∧ u.heard = t.heard ∧ u.base = ackV t.base t.box f.ack ∧ u.box = ackL t.base t.box f.ack ∧ u.sent = t.sent ∧
   u.got = (if f.kind = 2 ∧ takeB t.got f.seq = true then f.seq else t.got) ∧ (t.take3 f).take4E f = if f.kind = 2 ∧ takeB t.got f.seq = true then [t.ev 3 f.body] else [] := by
  rw [← Hu]; unfold LS.take4 LS.take4E; have e9 : (t.take3 f).taken f = true ↔ f.kind = 2 ∧ takeB t.got f.seq = true := by
   simp only [LS.taken, Bool.and_eq_true, decide_eq_true_eq]; exact Iff.rfl
  by_cases h9 : f.kind = 2 ∧ takeB t.got f.seq = true
  ·rw [if_pos (e9.2 h9), if_pos (e9.2 h9), if_pos h9, if_pos h9]; exact ⟨rfl, rfl, rfl, rfl, rfl, rfl, rfl, rfl, rfl, rfl, rfl, rfl, rfl⟩
  ·rw [if_neg (fun e => h9 (e9.1 e)), if_neg (fun e => h9 (e9.1 e)), if_neg h9, if_neg h9]; exact ⟨rfl, rfl, rfl, rfl, rfl, rfl, rfl, rfl, rfl, rfl, rfl, rfl, rfl⟩
 obtain ⟨g1, g2, g3, g4, g5, g6, g7, g8, g9, g10, g11, g12, g13⟩ := hu; have h5 : (t.take5 now f = u) ∨ (t.take5 now f = { u with sent := now } ∧ t.base < u.base) := by
  unfold LS.take5; simp only; rw [Hu]; split
  ·exact .inl rfl
  ·rename_i hn
   simp only [not_or] at hn; exact .inr ⟨rfl, by omega⟩
 have eF5 : t.take5F f = (if u.base ≤ t.base then [] else (u.due.filter fun x => decide (t.last < x.1)).map u.data) ++ (if f.kind = 2 ∨ t.up = false then [u.hello] else []) := by
  unfold LS.take5F; simp only; rw [Hu]; simp only [LS.fresh, LS.helloBack, Bool.or_eq_true, decide_eq_true_eq, Bool.not_eq_true']
 rw [eF5, g13]
 rcases h5 with e | ⟨e, hlt⟩
 ·rw [e]; exact ⟨g1.trans e3, g2.trans e4, g3.trans e5, g4.trans e6, g5.trans e1, g6.trans e2, g7, g8.trans e7, g9, g10, g12, .inl (g11.trans e8), rfl, rfl⟩
 ·rw [e]; exact ⟨g1.trans e3, g2.trans e4, g3.trans e5, g4.trans e6, g5.trans e1, g6.trans e2, g7, g8.trans e7, g9, g10, g12, .inr ⟨rfl, hlt⟩, rfl, rfl⟩
/-- a tick -/
theorem tick_form {s : LS} {now : Nat} : s.tickF now = (s.tick now).hello :: (if (s.tick1 now).again now then (s.tick now).due.map (s.tick now).data else []) ∧
  (s.tick now).base = (s.tick1 now).base ∧ (s.tick now).box = (s.tick1 now).box ∧ (s.tick now).got = (s.tick1 now).got ∧ (s.tick now).sn = s.sn ∧ (s.tick now).peer = s.peer ∧
  (s.tick now).sent = (if (s.tick1 now).again now then now else s.sent) := by
 have h1 : (s.tick1 now).sn = s.sn ∧ (s.tick1 now).peer = s.peer ∧ (s.tick1 now).sent = s.sent := by unfold LS.tick1; split <;> exact ⟨rfl, rfl, rfl⟩
 unfold LS.tickF LS.tick; simp only; split
 ·exact ⟨rfl, rfl, rfl, rfl, h1.1, h1.2.1, rfl⟩
 ·exact ⟨rfl, rfl, rfl, rfl, h1.1, h1.2.1, h1.2.2⟩
theorem due_body {s : LS} (hs : s.Num) : ∀ x ∈ s.due, (1 ≤ x.1 ∧ x.1 ≤ 34359738367) ∧ (1 ≤ x.2.length ∧ x.2.length ≤ 448) ∧ x.1 ≤ s.last ∧ s.base < x.1 := by
 intro x hx; unfold LS.due at hx; rw [hs.due, items] at hx; obtain ⟨k, hk, rfl⟩ := List.mem_mapIdx.1 hx; have hl := hk; rw [List.length_take] at hl; have h1 := hs.base; unfold LS.last; refine ⟨⟨by simp only; omega, by simp only; omega⟩, bodyB_len (hs.bodies _ ?_), by simp only; omega, by simp only; omega⟩; exact List.mem_of_mem_take (List.getElem_mem hk)

/-- a link's numbers, as its frames want them -/
structure LM (s : LS) : Prop where
 si : s.si ≠ 0
 conn : s.conn ≠ 0
 nul : (s.inc = 0 ∧ s.known = 0 ∧ s.got = 0) ∨ (s.inc ≠ 0 ∧ s.known ≠ 0)
 up : s.up = true → s.inc ≠ 0
def LId (i : Bool) (s : LS) : Prop := s.sn = side i + 1 ∧ s.peer = 2 - side i
/-- a frame to a side that may be -/
def FrM (i : Bool) (f : Fr) : Prop := mayB f.kind f.fr f.to f.inc f.conn f.pinc f.pconn f.ack f.seq f.body.length = true ∧ f.fr = 2 - side i ∧ f.to = side i + 1
theorem hello_may {i : Bool} {s : LS} {B : Nat} (hm : LM s) (hi : LId i s) (hn : s.Num) (hB : Ids s B) (hb : B ≤ 1000000000) : FrM (!i) s.hello := by
 obtain ⟨g1, g2, g3, g4⟩ := hB; have g5 := hn.got; have h1 := hm.si; have h2 := hm.conn; have h3 := hm.nul; obtain ⟨i1, i2⟩ := hi; refine ⟨?_, ?_, ?_⟩
 ·unfold mayB LS.hello; simp only [i1, i2, List.length_nil]; refine decide_eq_true ?_; cases i <;> simp only [side, Bool.false_eq_true, if_false, if_true] <;> refine ⟨?_, ?_, ?_, ?_, h1, h2, ?_, ?_⟩ <;> first | omega | (simp; done) | (simp; omega)
 ·simp only [LS.hello, i1]; cases i <;> simp [side]
 ·simp only [LS.hello, i2]; cases i <;> simp [side]
theorem data_may {i : Bool} {s : LS} {B : Nat} {x : Nat × List UInt8} (hm : LM s) (hi : LId i s) (hn : s.Num) (hB : Ids s B) (hb : B ≤ 1000000000) (hu : s.inc ≠ 0) (hx : 1 ≤ x.1 ∧ x.1 ≤ 34359738367) (hx2 : 1 ≤ x.2.length ∧ x.2.length ≤ 448) : FrM (!i) (s.data x) := by
 obtain ⟨g1, g2, g3, g4⟩ := hB; have g5 := hn.got; have h1 := hm.si; have h2 := hm.conn; have h3 := hm.nul; obtain ⟨i1, i2⟩ := hi; refine ⟨?_, ?_, ?_⟩
 ·unfold mayB LS.data; simp only [i1, i2]; refine decide_eq_true ?_; cases i <;> simp only [side, Bool.false_eq_true, if_false, if_true] <;> refine ⟨?_, ?_, ?_, ?_, h1, h2, ?_, ?_⟩ <;> first | omega | (simp; done) | (simp; omega)
 ·simp only [LS.data, i1]; cases i <;> simp [side]
 ·simp only [LS.data, i2]; cases i <;> simp [side]
theorem mayB_nz {f : Fr} (h : mayB f.kind f.fr f.to f.inc f.conn f.pinc f.pconn f.ack f.seq f.body.length = true) : f.inc ≠ 0 ∧ f.conn ≠ 0 := by
 unfold mayB at h; have := of_decide_eq_true h; exact ⟨this.2.2.2.2.1, this.2.2.2.2.2.1⟩
theorem lm_take {s : LS} {now : Nat} {f : Fr} (hm : LM s) : LM (s.take now f) := by
 by_cases hl : s.looks f = true
 ·obtain ⟨z1, z2⟩ := mayB_nz (looks_parts hl).1; obtain ⟨⟨e1, e2, e3, e4, _⟩, _⟩ := take1_form (s := s) (now := now) (f := f)
  by_cases hk : f.pinc = s.si ∧ f.pconn = s.conn
  ·have h := take_C (now := now) hl hk; exact ⟨by rw [h.si]; exact hm.si, by rw [h.conn]; exact hm.conn, .inr ⟨by rw [h.inc]; exact z1, by rw [h.known]; exact z2⟩, fun _ => by rw [h.inc]; exact z1⟩
  ·rw [(take_B (now := now) hl hk).1]; exact ⟨by rw [e3]; exact hm.si, by rw [e4]; exact hm.conn, .inr ⟨by rw [e1]; exact z1, by rw [e2]; exact z2⟩, fun _ => by rw [e1]; exact z1⟩
 ·rw [(take_A (now := now) hl).1]; exact hm
theorem lm_tick {s : LS} {now : Nat} (hm : LM s) : LM (s.tick now) := by
 have h1 : LM (s.tick1 now) := by
  unfold LS.tick1; split
  ·refine ⟨hm.si, Nat.succ_ne_zero _, ?_, fun e => ?_⟩
   ·rcases hm.nul with h | h
    ·exact .inl ⟨h.1, h.2.1, rfl⟩
    ·exact .inr h
   ·simp [LS.down] at e
  ·exact hm
 unfold LS.tick; simp only; split
 ·exact ⟨h1.si, h1.conn, h1.nul, h1.up⟩
 ·exact h1
theorem lm_send {s : LS} {now : Nat} {b : List UInt8} (hm : LM s) : LM (s.send now b) := by
 unfold LS.send; split
 ·exact ⟨hm.si, hm.conn, hm.nul, hm.up⟩
 ·exact hm
theorem lid_of {i : Bool} {s t : LS} (h : LId i s) (e1 : t.sn = s.sn) (e2 : t.peer = s.peer) : LId i t := ⟨e1.trans h.1, e2.trans h.2⟩
/-- what a take answers may be -/
theorem takeF_may {i : Bool} {s : LS} {now B : Nat} {f : Fr} (hm : LM s) (hi : LId i s) (hn : s.Num) (hB : Ids s B) (hb : B ≤ 1000000000) (hnow : now < 18446744073709551616) (hf : f.inc ≤ B ∧ f.conn ≤ B) : ∀ x ∈ s.takeF now f, FrM (!i) x := by
 have hm' := lm_take (now := now) (f := f) hm; have hn' := hn.take hnow f; have hB' := ids_take hB now hf; have hi' : LId i (s.take now f) := lid_of hi (take_same s now f).1 (take_same s now f).2.2; intro x hx
 by_cases hl : s.looks f = true
 ·by_cases hk : f.pinc = s.si ∧ f.pconn = s.conn
  ·have h := take_C (now := now) hl hk; rw [h.frs] at hx
   rcases List.mem_append.1 hx with hx | hx
   ·split at hx
    ·simp at hx
    ·obtain ⟨y, hy, rfl⟩ := List.mem_map.1 hx; have hd := due_body hn' y (List.mem_filter.1 hy).1; exact data_may hm' hi' hn' hB' hb (hm'.up h.up) hd.1 hd.2.1
   ·split at hx
    ·rw [List.mem_singleton.1 hx]; exact hello_may hm' hi' hn' hB' hb
    ·simp at hx
  ·rw [(take_B (now := now) hl hk).2.1] at hx; rw [List.mem_singleton.1 hx]; exact hello_may hm' hi' hn' hB' hb
 ·rw [(take_A (now := now) hl).2.1] at hx; simp at hx
theorem tickF_may {i : Bool} {s : LS} {now B : Nat} (hm : LM s) (hi : LId i s) (hn : s.Num) (hB : Ids s B) (hb : B + 1 ≤ 1000000000) (hnow : now < 18446744073709551616) : ∀ x ∈ s.tickF now, FrM (!i) x := by
 have hm' := lm_tick (now := now) hm; have hn' := hn.tick hnow; have hB' := ids_tick hB now; obtain ⟨e1, _, _, _, e5, e6, _⟩ := tick_form (s := s) (now := now); have hi' : LId i (s.tick now) := lid_of hi e5 e6; intro x hx; rw [e1] at hx
 rcases List.mem_cons.1 hx with rfl | hx
 ·exact hello_may hm' hi' hn' hB' hb
 ·split at hx
  ·rename_i ha
   obtain ⟨y, hy, rfl⟩ := List.mem_map.1 hx; have hd := due_body hn' y hy; refine data_may hm' hi' hn' hB' hb (hm'.up ?_) hd.1 hd.2.1; obtain ⟨_, _, _, _, _, h6, _⟩ := tick_nums s now; rw [h6]; simp only [LS.again, Bool.and_eq_true] at ha; exact ha.1.1
  ·simp at hx
theorem sendF_may {i : Bool} {s : LS} {now B : Nat} {b : List UInt8} (hm : LM s) (hi : LId i s) (hn : s.Num) (hB : Ids s B) (hb : B ≤ 1000000000) (hl : 1 ≤ b.length ∧ b.length ≤ 448) : ∀ x ∈ s.sendF b, FrM (!i) x := by
 intro x hx; unfold LS.sendF at hx; split at hx
 ·rename_i he
  rw [List.mem_singleton.1 hx]; have h0 := he.1; unfold LS.sendE at h0; split at h0
  ·rename_i hu
   have hp : ¬ (48 ≤ s.box.length ∨ 34359738367 ≤ s.base + s.box.length) := by
    intro e; unfold pushE at h0; split at h0
    ·cases h0
    ·split at h0
     ·cases h0
     ·first | (rw [if_pos e] at h0; cases h0) | cases h0
   exact data_may hm hi hn hB hb (hm.up hu) ⟨by simp only; omega, by simp only; omega⟩ hl
  ·cases h0
 ·simp at hx
end Go.Proofs.Ytngegjboenfmeaa
/- What two links keep to, whatever becomes of their frames: acknowledgements are true, frames may be. No program in sight. -/
namespace Go.Proofs.Ytngegjboenfmeaa
open Go Go.RowKit
set_option linter.unusedVariables false
set_option linter.unusedSimpArgs false
set_option maxRecDepth 100000

def bkq (i : Bool) (f : Fr) : Pr := (side i, f.pinc, f.pconn, f.inc, f.conn)
structure InvA (l : Bool → LS) (way : Bool → List Fr) (told : Pr → List (List UInt8)) : Prop where
 t1 : ∀ i, (l i).base ≤ (told (prL i (l i))).length
 t2 : ∀ i, ∀ f ∈ way i, f.ack ≤ (told (bkq i f)).length
 t3 : ∀ i, (told (prL i (l i))).length ≤ (l i).last
 t4 : ∀ i, ∀ f ∈ way (!i), f.kind = 2 → frq i f = prL i (l i) → f.seq ≤ (l i).last
section
variable {l : Bool → LS} {way : Bool → List Fr} {sent told : Pr → List (List UInt8)}
theorem InvA.step (h : InvA l way told) (i : Bool) {u : LS} {F : List Fr} {told' : Pr → List (List UInt8)} (hm : ∀ q, (told q).length ≤ (told' q).length) (ho : (told' (prL (!i) (l (!i)))).length ≤ (l (!i)).last)
  (h1 : u.base ≤ (told' (prL i u)).length) (h3 : (told' (prL i u)).length ≤ u.last) (h2 : ∀ f ∈ F, f.ack ≤ (told' (bkq (!i) f)).length) (h4 : ∀ f ∈ way (!i), f.kind = 2 → frq i f = prL i u → f.seq ≤ u.last)
  (h5 : ∀ f ∈ F, f.kind = 2 → f.seq ≤ u.last) : InvA (atB l i u) (atB way (!i) (way (!i) ++ F)) told' := by
 have a1 : atB l i u i = u := atB_same l i u; have a2 : atB l i u (!i) = l (!i) := atB_not l i u; have b1 : atB way (!i) (way (!i) ++ F) (!i) = way (!i) ++ F := atB_same way (!i) _; have b2 : atB way (!i) (way (!i) ++ F) i = way i := by unfold atB; rw [if_neg (fun e => not_ne i e.symm)]
 refine ⟨?_, ?_, ?_, ?_⟩
 ·intro j
  rcases two_of i j with rfl | rfl
  ·rw [a1]; exact h1
  ·rw [a2]; exact Nat.le_trans (h.t1 _) (hm _)
 ·intro j f hf
  rcases two_of i j with rfl | rfl
  ·rw [b2] at hf; exact Nat.le_trans (h.t2 _ f hf) (hm _)
  ·rw [b1] at hf
   rcases List.mem_append.1 hf with hf | hf
   ·exact Nat.le_trans (h.t2 _ f hf) (hm _)
   ·exact h2 f hf
 ·intro j
  rcases two_of i j with rfl | rfl
  ·rw [a1]; exact h3
  ·rw [a2]; exact ho
 ·intro j f hf hk hq
  rcases two_of i j with rfl | rfl
  ·rw [a1] at hq ⊢; rw [b1] at hf
   rcases List.mem_append.1 hf with hf | hf
   ·exact h4 f hf hk hq
   ·exact h5 f hf hk
  ·rw [a2] at hq ⊢; rw [notnot, b2] at hf; exact h.t4 _ f (by rw [notnot]; exact hf) hk hq
theorem InvA.ways (h : InvA l way told) {way' : Bool → List Fr} (hw : ∀ i, ∀ f ∈ way' i, f ∈ way i) : InvA l way' told :=
 ⟨h.t1, fun i f hf => h.t2 i f (hw i f hf), h.t3, fun i f hf => h.t4 i f (hw _ f hf)⟩
/-- a pair that was not there: nothing is told by it, nothing is on its way -/
theorem InvO.newPr (h : InvO l way sent told) (i : Bool) {u : LS} (hlt : Lt4 (l i).si (l i).conn (l i).inc (l i).known u.si u.conn u.inc u.known) : told (prL i u) = [] ∧ ∀ f ∈ way (!i), f.kind = 2 → frq i f ≠ prL i u := by
 have e1 : sent (prL i u) = [] := by
  by_cases e : sent (prL i u) = []
  ·exact e
  ·have := h.fs i _ rfl e
   simp only [prL] at this; unfold Lx4 at this; unfold Lt4 at hlt; omega
 refine ⟨?_, fun f hf hk hq => ?_⟩
 ·have := h.pre (prL i u)
  rw [e1] at this; exact List.prefix_nil.1 this
 ·have := (h.fr i f hf hk).2
  rw [hq, e1] at this; simp at this
end
theorem tellE_mono (q : Pr) : ∀ (E : List Ev) (t : Pr → List (List UInt8)) (p : Pr), (t p).length ≤ (tellE t q E p).length
 | [], t, p => Nat.le_refl _
 | e :: E, t, p => by
  unfold tellE; refine Nat.le_trans ?_ (tellE_mono q E _ p); split
  ·unfold updM; split
   ·rename_i e2; rw [e2, List.length_append]; omega
   ·exact Nat.le_refl _
  ·exact Nat.le_refl _
theorem tellE_ne (q : Pr) : ∀ (E : List Ev) (t : Pr → List (List UInt8)) (p : Pr), p ≠ q → tellE t q E p = t p
 | [], t, p, _ => rfl
 | e :: E, t, p, h => by
  unfold tellE; rw [tellE_ne q E _ p h]; split
  ·exact updM_ne h
  ·rfl
theorem take_dn1E (s : LS) (f : Fr) : ∀ e ∈ s.take1E f, e.kind ≠ 3 := by
 intro e he; unfold LS.take1E at he; split at he
 ·rw [List.mem_singleton.1 he]; simp [LS.ev]
 ·simp at he
theorem take2E_no (t : LS) : ∀ e ∈ t.take2E, e.kind ≠ 3 := by
 intro e he; unfold LS.take2E at he; split at he
 ·simp at he
 ·rw [List.mem_singleton.1 he]; simp [LS.ev]
theorem last_ack {t u : LS} {a : Nat} (h1 : u.base = ackV t.base t.box a) (h2 : u.box = ackL t.base t.box a) : t.last ≤ u.last ∧ t.base ≤ u.base := by
 unfold LS.last
 by_cases ha : ackB t.base t.box a = true
 ·obtain ⟨k1, k2⟩ := ack_yes ha; simp only [ackB, Bool.and_eq_true, decide_eq_true_eq] at ha; rw [h1, h2, k1, k2, List.length_drop]; omega
 ·simp only [Bool.not_eq_true] at ha; obtain ⟨k1, k2⟩ := ack_no ha; rw [h1, h2, k1, k2]; omega
theorem pr_ne_rp (i : Bool) (s t : LS) : prL i s ≠ rpL i t := fun e => by
 have := congrArg (fun p : Pr => p.1) e
 simp only [rpL, prL, side_not] at this; exact side_ne i this.symm
theorem rcv_len {l : Bool → LS} {way : Bool → List Fr} {sent told : Pr → List (List UInt8)} (h : InvO l way sent told) (i : Bool) : (told (rpL i (l i))).length = (l i).got := by
 obtain ⟨h1, h2⟩ := h.rcv i; rw [h2, List.length_take]; omega
theorem ofL_bkq {s : LS} {f : Fr} (i : Bool) (h : OfL s f) : bkq (!i) f = rpL i s := by
 obtain ⟨h1, h2, h3, h4⟩ := h; unfold bkq rpL; rw [h1, h2, h3, h4, side_not]
/-- all that two links keep to -/
structure TW.Gl (T : TW) : Prop where
 lm : ∀ i, LM (T.l i)
 id : ∀ i, LId i (T.l i)
 fm : ∀ i, ∀ f ∈ T.way i, FrM i f
 st : ∀ i, (T.l i).sent ≤ T.now i
 A : InvA T.l T.way T.told
 O : T.Ord
 P : T.Inv
theorem gl_start : TW.start.Gl where
 lm i := ⟨by simp [TW.start, newLk], by simp [TW.start, newLk], .inl ⟨rfl, rfl, rfl⟩, fun e => by simp [TW.start, newLk] at e⟩
 id i := ⟨rfl, rfl⟩
 fm i f hf := by simp [TW.start] at hf
 st i := Nat.le_refl _
 A := ⟨fun i => Nat.le_refl _, fun i f hf => by simp [TW.start] at hf, fun i => by simp [TW.start], fun i f hf => by simp [TW.start] at hf⟩
 O := ord_start
 P := inv_start
theorem InvO.gotOf {T : TW} (h : T.Ord) (i : Bool) {u : LS} (hu : T.l i = u) : (T.told (rpL i u)).length = u.got := by
 have := rcv_len h i
 rw [hu] at this; exact this
theorem tick_lx (s : LS) (now : Nat) : (s.tick1 now = s ∧ (s.tick now).conn = s.conn) ∨ (s.up = true ∧ (s.tick now).conn = s.conn + 1 ∧ (s.tick now).up = false ∧ (s.tick now).base = 0 ∧ (s.tick now).box = [] ∧ (s.tick now).got = 0) := by
 obtain ⟨_, h2, _, _, _, h6, _⟩ := tick_nums s now; obtain ⟨_, f2, f3, f4, _⟩ := tick_form (s := s) (now := now); rw [h2, h6, f2, f3, f4]; cases h : (s.up && decide (4 ≤ ticks now s.heard)) with
 | false => rw [(LS.tick1_no h).1]; exact .inl ⟨rfl, rfl⟩
 | true =>
  rw [(LS.tick1_yes h).1]; simp only [Bool.and_eq_true] at h; exact .inr ⟨h.1, rfl, rfl, rfl, rfl, rfl⟩
theorem atB_st {l : Bool → LS} {now : Bool → Nat} {i : Bool} {u : LS} (h : ∀ j, (l j).sent ≤ now j) (hu : u.sent ≤ now i) : ∀ j, (atB l i u j).sent ≤ now j := by
 intro j; unfold atB; split
 ·rename_i e; rw [e]; exact hu
 ·exact h j
theorem atB_ml {p : Bool → LS → Prop} {l : Bool → LS} {i : Bool} {u : LS} (h : ∀ j, p j (l j)) (hu : p i u) : ∀ j, p j (atB l i u j) := by
 intro j; unfold atB; split
 ·rename_i e; rw [e]; exact hu
 ·exact h j
theorem atB_way {way : Bool → List Fr} {i : Bool} {F : List Fr} (h : ∀ j, ∀ f ∈ way j, FrM j f) (hF : ∀ f ∈ F, FrM (!i) f) : ∀ j, ∀ f ∈ atB way (!i) (way (!i) ++ F) j, FrM j f := by
 intro j f hf; unfold atB at hf; split at hf
 ·rename_i e
  rw [e]
  rcases List.mem_append.1 hf with hf | hf
  ·exact h _ f hf
  ·exact hF f hf
 ·exact h _ f hf
theorem gl_tick {T : TW} {B : Nat} (h : T.Gl) (hO : T.Ok B) (hB : B ≤ 100000000) (i : Bool) : (T.tick i).Gl := by
 have hn : T.now i < 18446744073709551616 := by have := hO.now i; omega
 have hO' := ord_tick h.O i; obtain ⟨f1, f2, f3, f4, f5, f6, f7⟩ := tick_form (s := T.l i) (now := T.now i); obtain ⟨n1, n2, n3, n4, n5, n6, _⟩ := tick_nums (T.l i) (T.now i); have hE : tellE T.told (TW.rp { T with l := atB T.l i ((T.l i).tick (T.now i)) } i) ((T.l i).tickE (T.now i)) = T.told := by
  refine tellE_no _ _ _ ?_; intro e he; unfold LS.tickE at he; split at he
  ·rw [List.mem_singleton.1 he]; simp [LS.ev]
  ·simp at he
 refine ⟨atB_ml h.lm (lm_tick (h.lm i)), atB_ml (p := LId) h.id (lid_of (h.id i) f5 f6), atB_way h.fm (tickF_may (h.lm i) (h.id i) (hO.num i) (hO.ids i) (by omega) hn), atB_st h.st ?_, ?_, hO', inv_tick h.P i⟩
 ·rw [f7]; split
  ·exact Nat.le_refl _
  ·exact h.st i
 ·have hres : (T.tick i).told = T.told := by
   unfold TW.tick TW.ans; exact hE
  have hgot : (T.told (rpL i ((T.l i).tick (T.now i)))).length = ((T.l i).tick (T.now i)).got := by
   rw [← hres]; exact InvO.gotOf hO' i (atB_same _ _ _)
  rw [hres]; have hnum := (hO.num i).tick hn; have hF5 : ∀ f ∈ (T.l i).tickF (T.now i), f.kind = 2 → f.seq ≤ ((T.l i).tick (T.now i)).last := by
   intro f hf hk; rw [f1] at hf
   rcases List.mem_cons.1 hf with rfl | hf
   ·simp [LS.hello] at hk
   ·split at hf
    ·obtain ⟨y, hy, rfl⟩ := List.mem_map.1 hf; exact (due_body hnum y hy).2.2.1
    ·simp at hf
  have hF2 : ∀ f ∈ (T.l i).tickF (T.now i), f.ack ≤ (T.told (bkq (!i) f)).length := by
   intro f hf; rw [ofL_bkq i (ofL_tickF _ _ f hf), hgot]; rw [f1] at hf
   rcases List.mem_cons.1 hf with rfl | hf
   ·exact Nat.le_refl _
   ·split at hf
    ·obtain ⟨y, hy, rfl⟩ := List.mem_map.1 hf; exact Nat.le_refl _
    ·simp at hf
  rcases tick_lx (T.l i) (T.now i) with ⟨e1, e2⟩ | ⟨_, e2, e3, e4, e5, e6⟩
  ·have ep : prL i ((T.l i).tick (T.now i)) = prL i (T.l i) := by unfold prL; rw [n1, e2, n3, n4]
   have el : ((T.l i).tick (T.now i)).last = (T.l i).last := by unfold LS.last; rw [f2, f3, e1]
   exact h.A.step i (fun q => Nat.le_refl _) (h.A.t3 _) (by rw [ep, f2, e1]; exact h.A.t1 i) (by rw [ep, el]; exact h.A.t3 i) hF2 (by rw [ep, el]; exact h.A.t4 i) hF5
  ·obtain ⟨z1, z2⟩ := h.O.newPr i (u := (T.l i).tick (T.now i)) (by unfold Lt4; rw [n1, e2, n3, n4]; omega); exact h.A.step i (fun q => Nat.le_refl _) (h.A.t3 _) (by rw [e4]; exact Nat.zero_le _) (by rw [z1]; exact Nat.zero_le _) hF2 (fun f hf hk hq => (z2 f hf hk hq).elim) hF5
theorem gl_take {T : TW} {B : Nat} (h : T.Gl) (hO : T.Ok B) (hB : B ≤ 100000000) (i : Bool) {f : Fr} (hfB : f.inc ≤ B ∧ f.conn ≤ B) (hfP : Lx f.inc f.conn (T.l (!i)).si (T.l (!i)).conn) (hfO : f.kind = 2 → Snt (T.sent (frq (!i) f)) f)
  (hfA : f.ack ≤ (T.told (bkq i f)).length) (hf4 : f.kind = 2 → frq (!i) f = prL (!i) (T.l (!i)) → f.seq ≤ (T.l (!i)).last) : (T.take i f).Gl := by
 have hn : T.now i < 18446744073709551616 := by have := hO.now i; omega
 have hO' := ord_take h.O i hfO; have hsame := take_same (T.l i) (T.now i) f; have hnum := (hO.num i).take hn f; obtain ⟨⟨p1, p2, p3, p4, p5, p6, p7, p8⟩, pc⟩ := take1_form (s := T.l i) (now := T.now i) (f := f); have hgot : ((T.take i f).told (rpL i ((T.l i).take (T.now i) f))).length = ((T.l i).take (T.now i) f).got := InvO.gotOf hO' i (atB_same _ _ _); have hrp : TW.rp { T with l := atB T.l i ((T.l i).take (T.now i) f) } i = rpL i ((T.l i).take (T.now i) f) := by
  unfold TW.rp rpL; simp only [atB_same]
 have htold : (T.take i f).told = tellE T.told (rpL i ((T.l i).take (T.now i) f)) ((T.l i).takeE (T.now i) f) := by
  rw [← hrp]; rfl
 have hst : ((T.l i).take (T.now i) f).sent ≤ T.now i := by
  by_cases hl : (T.l i).looks f = true
  ·by_cases hk : f.pinc = (T.l i).si ∧ f.pconn = (T.l i).conn
   ·rcases (take_C (now := T.now i) hl hk).sent with e | ⟨e, _⟩
    ·rw [e]; exact h.st i
    ·rw [e]; exact Nat.le_refl _
   ·rw [(take_B (now := T.now i) hl hk).1, p8]; exact h.st i
  ·rw [(take_A (now := T.now i) hl).1]; exact h.st i
 refine ⟨atB_ml h.lm (lm_take (h.lm i)), atB_ml (p := LId) h.id (lid_of (h.id i) hsame.1 hsame.2.2), atB_way h.fm (takeF_may (h.lm i) (h.id i) (hO.num i) (hO.ids i) (by omega) hn hfB), atB_st h.st hst, ?_, hO', inv_take h.P i hfP⟩; have hF2 : ∀ x ∈ (T.l i).takeF (T.now i) f, x.ack ≤ ((T.take i f).told (bkq (!i) x)).length := by
  intro x hx; rw [ofL_bkq i (ofL_takeF _ _ _ x hx), hgot]
  by_cases hl : (T.l i).looks f = true
  ·by_cases hk : f.pinc = (T.l i).si ∧ f.pconn = (T.l i).conn
   ·rw [(take_C (now := T.now i) hl hk).frs] at hx
    rcases List.mem_append.1 hx with hx | hx
    ·split at hx
     ·simp at hx
     ·obtain ⟨y, _, rfl⟩ := List.mem_map.1 hx; exact Nat.le_refl _
    ·split at hx
     ·rw [List.mem_singleton.1 hx]; exact Nat.le_refl _
     ·simp at hx
   ·rw [(take_B (now := T.now i) hl hk).2.1] at hx; rw [List.mem_singleton.1 hx]; exact Nat.le_refl _
  ·rw [(take_A (now := T.now i) hl).2.1] at hx; simp at hx
 have hF5 : ∀ x ∈ (T.l i).takeF (T.now i) f, x.kind = 2 → x.seq ≤ ((T.l i).take (T.now i) f).last := by
  intro x hx hk2
  by_cases hl : (T.l i).looks f = true
  ·by_cases hk : f.pinc = (T.l i).si ∧ f.pconn = (T.l i).conn
   ·rw [(take_C (now := T.now i) hl hk).frs] at hx
    rcases List.mem_append.1 hx with hx | hx
    ·split at hx
     ·simp at hx
     ·obtain ⟨y, hy, rfl⟩ := List.mem_map.1 hx; exact (due_body hnum y (List.mem_filter.1 hy).1).2.2.1
    ·split at hx
     ·rw [List.mem_singleton.1 hx] at hk2; simp [LS.hello] at hk2
     ·simp at hx
   ·rw [(take_B (now := T.now i) hl hk).2.1] at hx; rw [List.mem_singleton.1 hx] at hk2; simp [LS.hello] at hk2
  ·rw [(take_A (now := T.now i) hl).2.1] at hx; simp at hx
 have hm : ∀ q, (T.told q).length ≤ ((T.take i f).told q).length := fun q => by rw [htold]; exact tellE_mono _ _ _ q
 have hne : (T.take i f).told (prL i ((T.l i).take (T.now i) f)) = T.told (prL i ((T.l i).take (T.now i) f)) := by rw [htold]; exact tellE_ne _ _ _ _ (pr_ne_rp i _ _)
 -- the other side's row
 have hoth : ((T.take i f).told (prL (!i) (T.l (!i)))).length ≤ (T.l (!i)).last := by
  by_cases eq : prL (!i) (T.l (!i)) = rpL i ((T.l i).take (T.now i) f)
  ·by_cases hl : (T.l i).looks f = true
   ·by_cases hk : f.pinc = (T.l i).si ∧ f.pconn = (T.l i).conn
    ·have hC := take_C (now := T.now i) hl hk
     by_cases hta : f.kind = 2 ∧ takeB ((T.l i).take1 (T.now i) f).got f.seq = true
     ·rw [eq, hgot, hC.got, if_pos hta]; refine hf4 hta.1 ?_; rw [eq]; unfold frq rpL; rw [hC.inc, hC.known, hC.si, hC.conn, side_not, hk.1, hk.2]
     ·have : (T.take i f).told = T.told := by
       rw [htold, hC.evs, if_neg hta, List.append_nil]; exact tellE_no _ _ _ fun e he => (List.mem_append.1 he).elim (take_dn1E _ _ e) (take2E_no _ e)
      rw [this]; exact h.A.t3 _
    ·have : (T.take i f).told = T.told := by
      rw [htold, (take_B (now := T.now i) hl hk).2.2]; exact tellE_no _ _ _ (take_dn1E _ _)
     rw [this]; exact h.A.t3 _
   ·have : (T.take i f).told = T.told := by
     rw [htold, (take_A (now := T.now i) hl).2.2]; rfl
    rw [this]; exact h.A.t3 _
  ·rw [htold, tellE_ne _ _ _ _ eq]; exact h.A.t3 _
 by_cases hl : (T.l i).looks f = true
 ·obtain ⟨_, _, _, hlx⟩ := looks_parts hl
  -- the pair, base and last behind it
  have key : ((T.l i).take1 (T.now i) f).base ≤ (T.told (prL i ((T.l i).take1 (T.now i) f))).length ∧ (T.told (prL i ((T.l i).take1 (T.now i) f))).length ≤ ((T.l i).take1 (T.now i) f).last ∧ ∀ x ∈ T.way (!i), x.kind = 2 → frq i x = prL i ((T.l i).take1 (T.now i) f) → x.seq ≤ ((T.l i).take1 (T.now i) f).last := by
   rcases pc with ⟨c1, c2, c3, c4, c5⟩ | ⟨c1, c2, c3, c4, c5, c6, c7⟩
   ·simp only [LS.other, Bool.or_eq_true, decide_eq_true_eq] at c1; obtain ⟨z1, z2⟩ := h.O.newPr i (u := (T.l i).take1 (T.now i) f) (by unfold Lt4; rw [p1, p2, p3, p4]; unfold Lx at hlx; omega); rw [z1, c3]; exact ⟨Nat.zero_le _, Nat.zero_le _, fun x hx hk hq => (z2 x hx hk hq).elim⟩
   ·have ep : prL i ((T.l i).take1 (T.now i) f) = prL i (T.l i) := by unfold prL; rw [p1, p2, p3, p4, c2, c3]
    have el : ((T.l i).take1 (T.now i) f).last = (T.l i).last := by unfold LS.last; rw [c5, c6]
    rw [ep, el, c5]; exact ⟨h.A.t1 i, h.A.t3 i, h.A.t4 i⟩
  obtain ⟨k1, k3, k4⟩ := key
  by_cases hk : f.pinc = (T.l i).si ∧ f.pconn = (T.l i).conn
  ·have hC := take_C (now := T.now i) hl hk; have ep : prL i ((T.l i).take (T.now i) f) = prL i ((T.l i).take1 (T.now i) f) := by unfold prL; rw [p1, p2, p3, p4, hC.si, hC.conn, hC.inc, hC.known]
   obtain ⟨q1, q2⟩ := last_ack hC.base hC.box; have eb : bkq i f = prL i ((T.l i).take (T.now i) f) := by unfold bkq prL; rw [hC.si, hC.conn, hC.inc, hC.known, hk.1, hk.2]
   refine h.A.step i hm hoth ?_ ?_ hF2 ?_ hF5
   ·rw [hne, hC.base]
    by_cases ha : ackB ((T.l i).take1 (T.now i) f).base ((T.l i).take1 (T.now i) f).box f.ack = true
    ·rw [(ack_yes ha).2, ← eb]; exact hfA
    ·rw [(ack_no (by simpa using ha)).2, ep]; exact k1
   ·rw [hne, ep]; exact Nat.le_trans k3 q1
   ·intro x hx hk2 hq; rw [ep] at hq; exact Nat.le_trans (k4 x hx hk2 hq) q1
  ·have hBt := (take_B (now := T.now i) hl hk).1; rw [hBt] at hne hF5; have := h.A.step i (u := (T.l i).take1 (T.now i) f) hm hoth (by rw [hne]; exact k1) (by rw [hne]; exact k3) hF2 k4 hF5; rw [← hBt] at this; exact this
 ·have hAt := (take_A (now := T.now i) hl).1; rw [hAt] at hne hF5; have := h.A.step i (u := T.l i) hm hoth (by rw [hne]; exact h.A.t1 i) (by rw [hne]; exact h.A.t3 i) hF2 (h.A.t4 i) hF5; rw [show atB T.l i (T.l i) = atB T.l i ((T.l i).take (T.now i) f) by rw [hAt]] at this; exact this
theorem gl_send {T : TW} {B : Nat} (h : T.Gl) (hO : T.Ok B) (hB : B ≤ 100000000) (i : Bool) : (T.send i).Gl := by
 obtain ⟨e1, e2, e3, e4, e5⟩ := send_l T i; have hw : (T.send i).way = atB T.way (!i) (T.way (!i) ++ (T.l i).sendF (bodyN T.n i)) := by cases i <;> first | exact send_way0 | exact send_way1
 obtain ⟨u1, u2, u3, u4, u5, u6, u7⟩ := send_up (s := T.l i) (now := T.now i) (b := bodyN T.n i); have hO' := ord_send h.O i; have hl : 1 ≤ (bodyN T.n i).length ∧ (bodyN T.n i).length ≤ 448 := by simp [bodyN]
 have hst : ((T.l i).send (T.now i) (bodyN T.n i)).sent ≤ T.now i := by
  unfold LS.send; split
  ·simp only; split
   ·exact Nat.le_refl _
   ·exact h.st i
  ·exact h.st i
 refine ⟨by rw [e1]; exact atB_ml h.lm (lm_send (h.lm i)), by rw [e1]; exact atB_ml (p := LId) h.id (lid_of (h.id i) u2 u4), by rw [hw]; exact atB_way h.fm (sendF_may (now := T.now i) (h.lm i) (h.id i) (hO.num i) (hO.ids i) (by omega) hl), by rw [e1, e2]; exact atB_st h.st hst, ?_, hO', inv_send h.P i⟩; rw [e1, hw, e3]; have hgot : (T.told (rpL i ((T.l i).send (T.now i) (bodyN T.n i)))).length = ((T.l i).send (T.now i) (bodyN T.n i)).got := by
  rw [← e3]; exact InvO.gotOf hO' i (by rw [e1]; exact atB_same _ _ _)
 have eg : ((T.l i).send (T.now i) (bodyN T.n i)).got = (T.l i).got ∧ ((T.l i).send (T.now i) (bodyN T.n i)).base = (T.l i).base ∧ (T.l i).last ≤ ((T.l i).send (T.now i) (bodyN T.n i)).last := by
  unfold LS.send; split
  ·refine ⟨rfl, rfl, ?_⟩; unfold LS.last; simp only [List.length_append]; omega
  ·exact ⟨rfl, rfl, Nat.le_refl _⟩
 have ep : prL i ((T.l i).send (T.now i) (bodyN T.n i)) = prL i (T.l i) := by unfold prL; rw [u3, u5, u6, u7]
 refine h.A.step i (fun q => Nat.le_refl _) (h.A.t3 _) (by rw [ep, eg.2.1]; exact h.A.t1 i) (by rw [ep]; exact Nat.le_trans (h.A.t3 i) eg.2.2) ?_ (fun f hf hk hq => Nat.le_trans (h.A.t4 i f hf hk (by rw [← ep]; exact hq)) eg.2.2) ?_
 ·intro f hf; rw [ofL_bkq i (ofL_sendF _ _ _ f hf), hgot]; unfold LS.sendF at hf; split at hf
  ·rw [List.mem_singleton.1 hf, eg.1]; exact Nat.le_refl _
  ·simp at hf
 ·intro f hf hk; unfold LS.sendF at hf; split at hf
  ·rename_i hs
   rw [List.mem_singleton.1 hf]; unfold LS.last LS.send; rw [if_pos hs.1]; simp only [LS.data, List.length_append, List.length_singleton]; omega
  ·simp at hf
theorem gl_life {T : TW} (h : T.Gl) (i : Bool) : (T.life i).Gl := by
 have hnew : LM (newLk i ((T.l i).si + 1)) := ⟨by simp [newLk], by simp [newLk], .inl ⟨rfl, rfl, rfl⟩, fun e => by simp [newLk] at e⟩; refine ⟨atB_ml h.lm hnew, atB_ml (p := LId) h.id ⟨rfl, rfl⟩, h.fm, atB_st h.st (Nat.zero_le _), ?_, ord_life h.O i, inv_life h.P i⟩; obtain ⟨z1, z2⟩ := h.O.newPr i (u := newLk i ((T.l i).si + 1)) (by unfold Lt4; simp [newLk]); have := h.A.step i (u := newLk i ((T.l i).si + 1)) (F := []) (fun q => Nat.le_refl _) (h.A.t3 _) (Nat.zero_le _) (by rw [z1]; exact Nat.zero_le _) (by simp) (fun f hf hk hq => (z2 f hf hk hq).elim) (by simp); rw [List.append_nil, atB_id] at this; exact this
theorem TW.Gl.less {T : TW} (h : T.Gl) {way' : Bool → List Fr} (hw : ∀ i, ∀ f ∈ way' i, f ∈ T.way i) : ({ T with way := way' } : TW).Gl :=
 ⟨h.lm, h.id, fun i f hf => h.fm i f (hw i f hf), h.st, h.A.ways hw, InvO.ways h.O fun i f hf => .inl (hw _ f hf), InvP.less h.P (fun _ => Nat.le_refl _) hw⟩
theorem gl_trim {T : TW} (h : T.Gl) : T.trim.Gl := h.less fun i f hf => mem_trim hf
theorem gl_later {T : TW} (h : T.Gl) (i : Bool) (q : Nat) : (T.later i q).Gl :=
 ⟨h.lm, h.id, h.fm, fun j => by
  show (T.l j).sent ≤ atB T.now i (T.now i + q) j; have := h.st j; unfold atB; split
  ·rename_i e; subst e; omega
  ·exact this, h.A, h.O, inv_later h.P i q⟩
theorem atB_erase (T : TW) (i : Bool) (j : Nat) : ∀ k, ∀ f ∈ atB T.way i ((T.way i).eraseIdx j) k, f ∈ T.way k := by
 intro k f; unfold atB; split
 ·rename_i e; subst e; exact fun hf => List.mem_of_mem_eraseIdx hf
 ·exact fun hf => hf
theorem gl_lose {T : TW} (h : T.Gl) (i : Bool) (j : Nat) : ({ T with way := atB T.way i ((T.way i).eraseIdx j) } : TW).Gl := h.less (atB_erase T i j)
/-- a frame that was on its way comes -/
theorem gl_come {T T1 : TW} {B : Nat} (h : T.Gl) (h1 : T1.Gl) (hO : T1.Ok B) (hB : B ≤ 100000000) (i : Bool) {f : Fr} (hf : f ∈ T.way i) (hfB : f.inc ≤ B ∧ f.conn ≤ B) (el : T1.l = T.l) (es : T1.sent = T.sent) (et : T1.told = T.told) : (T1.take i f).Gl := by
 have hf' : f ∈ T.way (!(!i)) := by rw [notnot]; exact hf
 exact gl_take h1 hO hB i hfB (by rw [el]; exact h.P.fr (!i) f hf') (by rw [es]; exact h.O.fr (!i) f hf') (by rw [et]; exact h.A.t2 i f hf) (by rw [el]; exact h.A.t4 (!i) f hf')
theorem gl_act {T : TW} {B : Nat} (h : T.Gl) (hO : T.Ok B) (hB : B ≤ 10000000) (d : Int) (i : Bool) (k : Nat) : (T.act d i k).Gl := by
 unfold TW.act; split
 ·exact gl_trim (gl_tick (gl_later h i (k % 4)) (hO.later i (q := k % 4) (by omega)) (by omega) i)
 split
 ·exact gl_trim (gl_send h hO (by omega) i)
 split
 ·split
  ·exact h
  ·rename_i f0 l hw
   simp only; have hj : k % (l.length + 1) < (f0 :: l).length := by rw [List.length_cons]; exact Nat.mod_lt _ (Nat.succ_pos _)
   have hm : (f0 :: l).getD (k % (l.length + 1)) f0 ∈ T.way i := by
    rw [hw, List.getD_eq_getElem?_getD, List.getElem?_eq_getElem hj]; exact List.getElem_mem hj
   have hfB := hO.frs i _ hm; have hT1 : (if d = 3 then T else { T with way := atB T.way i ((f0 :: l).eraseIdx (k % (l.length + 1))) } : TW).Gl := by
    split
    ·exact h
    ·rw [← hw]; exact gl_lose h i _
   have hT2 : (if d = 3 then T else { T with way := atB T.way i ((f0 :: l).eraseIdx (k % (l.length + 1))) } : TW).Ok B := by
    split
    ·exact hO
    ·rw [← hw]; exact hO.lose i _
   split
   ·exact gl_trim hT1
   ·refine gl_trim (gl_come h hT1 hT2 (by omega) i hm ⟨hfB.1, hfB.2.1⟩ ?_ ?_ ?_) <;> split <;> rfl
 split
 ·exact gl_trim (gl_life h i)
 ·exact gl_trim h
/-- at most three hundred are on their way to each -/
def TW.Few (T : TW) : Prop := ∀ i, (T.way i).length ≤ 300
theorem few_trim (T : TW) : T.trim.Few := fun i => by
 show (Go.Proofs.Ytngegjboenfmeaa.trim (T.way i)).length ≤ 300; unfold Go.Proofs.Ytngegjboenfmeaa.trim; rw [List.length_drop]; omega
theorem few_act {T : TW} (h : T.Few) (d : Int) (i : Bool) (k : Nat) : (T.act d i k).Few := by
 unfold TW.act; split
 ·exact few_trim _
 split
 ·exact few_trim _
 split
 ·split
  ·exact h
  ·exact few_trim _
 split
 ·exact few_trim _
 ·exact few_trim _
end Go.Proofs.Ytngegjboenfmeaa
