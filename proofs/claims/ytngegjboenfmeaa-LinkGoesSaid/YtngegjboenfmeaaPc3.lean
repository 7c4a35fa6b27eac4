/- Part 3 of the texts of a claim: LnkT LnkU LnkW Snd TwS LnkVa LnkVb -/
import Derived.Test.YtngegjboenfmeaaPc1
import Derived.Test.YtngegjboenfmeaaPc2
import Derived.Deep.CutBlock
import Derived.Deep.DeepCutAuto
namespace Go.Proofs.Ytngegjboenfmeaa
open Go Go.RowKit Go.Shelf
set_option linter.unusedVariables false
set_option maxRecDepth 100000
set_option linter.unusedSimpArgs false
attribute [local go_sem] Oper.semAt_some

/-- what lies at hand in Tick and Take: the answer's frames, their bodies, its events, their bodies, the answer, the result, the link's variable, the link, its box -/
def TK (o r l g : Nat) (Qs : List SP) (rf bf re be : SP) (oc lc : Array Value) (bt : SP) : List SP := rf :: bf :: re :: be :: Ce o 43 oc :: Ce r 43 #[.slice none 0 0, .slice none 0 0] :: Ce l 26 #[.pointer (some ⟨g, 0, none⟩)] :: Ce g 72 lc :: bt :: Qs
theorem sep_teller {w0 w : World} {Ps : List SP} (h : Sep w0 w Ps) (g o : Nat) : Calls Try.prog 36 #[.pointer (some ⟨g, 0, none⟩), .pointer (some ⟨o, 0, none⟩)] w fun e w' => ∃ q1 q0, e = .returned (.func (.func 56) #[] #[.pointer (some ⟨q1, 0, none⟩), .pointer (some ⟨q0, 0, none⟩)]) ∧ Sep w0 w' (Ce q1 92 #[.pointer (some ⟨o, 0, none⟩)] :: Ce q0 26 #[.pointer (some ⟨g, 0, none⟩)] :: Ps) := by
 refine (teller_any w g o).mono ?_; rintro e w' ⟨rfl, rfl⟩; have h1 := sep_ceF (sep_ceF h #[.pointer (some ⟨g, 0, none⟩)] 26) #[.pointer (some ⟨o, 0, none⟩)] 92; rw [World.size_alloc] at h1; exact ⟨_, _, rfl, h1⟩
/-- the closure that tells, and where it keeps what it tells of -/
def TellAt (v : Value) (o g : Nat) (w0 W : World) (Ps : List SP) : Prop := ∃ q1 q0, v = .func (.func 56) #[] #[.pointer (some ⟨q1, 0, none⟩), .pointer (some ⟨q0, 0, none⟩)] ∧ Sep w0 W (Ce q1 92 #[.pointer (some ⟨o, 0, none⟩)] :: Ce q0 26 #[.pointer (some ⟨g, 0, none⟩)] :: Ps)
set_option maxHeartbeats 800000 in
theorem downKeep {w0 w : World} {Qs : List SP} {o r l g q1 q0 base m : Nat} {rf bf : SP} {bx vF vE : Value} {box : List (List UInt8)} {LB : List (Value × List UInt8)} {ys : List Value} {got : Nat} {sn : Int} {si : Nat} {peer : Int} {conn inc known heard sent : Nat}
  (h : Sep w0 w (Ce q1 92 #[.pointer (some ⟨o, 0, none⟩)] :: Ce q0 26 #[.pointer (some ⟨g, 0, none⟩)] :: TK o r l g Qs rf bf (Rw 49 4 vE m ys) (Bods LB) #[vF, vE] (lkCells base bx got sn si peer conn inc known true heard sent) (BoxT bx box))) (hsn : sn ≠ 0) (hm : m ≤ 1000000) :
  Calls Try.prog 35 #[.pointer (some ⟨g, 0, none⟩), .func (.func 56) #[] #[.pointer (some ⟨q1, 0, none⟩), .pointer (some ⟨q0, 0, none⟩)]] w fun e w' => e = .returned (.tuple #[]) ∧ ∃ vE,
   Sep w0 w' (Ce q1 92 #[.pointer (some ⟨o, 0, none⟩)] :: Ce q0 26 #[.pointer (some ⟨g, 0, none⟩)] :: TK o r l g Qs rf bf (Rw 49 4 vE (m + 1) (ys ++ [.int .i64 2, .int .i64 peer, .int .u64 (inc : Int), .slice none 0 0])) (Bods (LB ++ [(.slice none 0 0, [])])) #[vF, vE] (lkCells 0 (.slice none 0 0) 0 sn si peer conn inc known false heard sent) (BoxT (.slice none 0 0) [])) := by
 have h1 : Sep w0 w (Rw 49 4 vE m ys :: Ce o 43 #[vF, vE] :: Ce q1 92 #[.pointer (some ⟨o, 0, none⟩)] :: Ce q0 26 #[.pointer (some ⟨g, 0, none⟩)] :: Ce g 72 (lkCells base bx got sn si peer conn inc known true heard sent) :: rf :: bf :: Bods LB :: Ce r 43 #[.slice none 0 0, .slice none 0 0] :: Ce l 26 #[.pointer (some ⟨g, 0, none⟩)] :: BoxT bx box :: Qs) := ((((((((((h).tF 8 rfl).tF 8 rfl).tF 7 rfl).tF 6 rfl).tF 6 rfl).tF 9 rfl).tF 7 rfl).tF 7 rfl).tF 9 rfl).tF 9 rfl; refine (downG h1 hsn hm).mono ?_; rintro e w' ⟨rfl, vE, h2⟩; refine ⟨rfl, vE, ?_⟩; have h3 := ((((((((((h2).tF 4 rfl).tF 9 rfl).tF 9 rfl).tF 4 rfl).tF 9 rfl).tF 5 rfl).tF 9 rfl).tF 9 rfl).tF 9 rfl).tF 9 rfl; exact sep_boxGone (i := 10) (sep_bodsNone (i := 5) h3 rfl) rfl
theorem downTK {w0 w : World} {Qs : List SP} {o r l g q1 q0 base m : Nat} {rf bf : SP} {bx vF vE : Value} {box : List (List UInt8)} {LB : List (Value × List UInt8)} {ys : List Value} {got : Nat} {sn : Int} {si : Nat} {peer : Int} {conn inc known heard sent : Nat}
  (h : Sep w0 w (Ce q1 92 #[.pointer (some ⟨o, 0, none⟩)] :: Ce q0 26 #[.pointer (some ⟨g, 0, none⟩)] :: TK o r l g Qs rf bf (Rw 49 4 vE m ys) (Bods LB) #[vF, vE] (lkCells base bx got sn si peer conn inc known true heard sent) (BoxT bx box))) (hsn : sn ≠ 0) (hm : m ≤ 1000000) :
  Calls Try.prog 35 #[.pointer (some ⟨g, 0, none⟩), .func (.func 56) #[] #[.pointer (some ⟨q1, 0, none⟩), .pointer (some ⟨q0, 0, none⟩)]] w fun e w' => e = .returned (.tuple #[]) ∧ ∃ vE,
   Sep w0 w' (TK o r l g Qs rf bf (Rw 49 4 vE (m + 1) (ys ++ [.int .i64 2, .int .i64 peer, .int .u64 (inc : Int), .slice none 0 0])) (Bods (LB ++ [(.slice none 0 0, [])])) #[vF, vE] (lkCells 0 (.slice none 0 0) 0 sn si peer conn inc known false heard sent) (BoxT (.slice none 0 0) [])) := by
 refine (downKeep h hsn hm).mono ?_; rintro e w' ⟨rfl, vE, h2⟩; exact ⟨rfl, vE, h2.popF.popF⟩
set_option maxHeartbeats 12800000 in
theorem tickG {w0 w : World} {Qs : List SP} {g now : Nat} {s : LS} {bx : Value} (h : Sep w0 w (Ce g 72 (s.cells bx) :: BoxT bx s.box :: Qs)) (hs : s.Num) (hcn : s.conn + 1 < 18446744073709551616) (hnow : now < 18446744073709551616) :
  Calls Try.prog 14 #[.pointer (some ⟨g, 0, none⟩), .int .u64 (now : Int)] w fun e w' => ∃ vF vE bx' LP LE, e = .returned (.agg #[vF, vE]) ∧ LP.map Prod.fst = s.tickF now ∧ LE.map Prod.fst = s.tickE now ∧
   Sep w0 w' (Rw 51 10 vF LP.length (fR_ LP) :: Bods (fB_ LP) :: Rw 49 4 vE LE.length (eR_ LE) :: Bods (eB_ LE) :: Ce g 72 ((s.tick now).cells bx') :: BoxT bx' (s.tick now).box :: Qs) := by
 obtain ⟨BA, bc, rfl, hcc, hcm, hbx⟩ := sep_boxForm (i := 1) h rfl hs.small; have HOK := Lib.hid hs; obtain ⟨q, Hq⟩ : ∃ q, Hid ((s.up && decide (4 ≤ ticks now s.heard)) = q) := ⟨_, Lib.hid rfl⟩; obtain ⟨sS, HSS⟩ : ∃ x, Hid (s = x) := ⟨_, Lib.hid rfl⟩; have HOS : Hid (sS.Num) := Lib.hid (by rw [← HSS.out]; exact HOK.out)
 suffices hgoal : Calls Try.prog 14 #[.pointer (some ⟨g, 0, none⟩), .int .u64 (now : Int)] w fun e w' => ∃ vF vE bx' LP LE, e = .returned (.agg #[vF, vE]) ∧ LP.map Prod.fst = sS.tickF now ∧ LE.map Prod.fst = sS.tickE now ∧
   Sep w0 w' (Rw 51 10 vF LP.length (fR_ LP) :: Bods (fB_ LP) :: Rw 49 4 vE LE.length (eR_ LE) :: Bods (eB_ LE) :: Ce g 72 ((sS.tick now).cells bx') :: BoxT bx' (sS.tick now).box :: Qs) by
  rw [HSS.out]; exact hgoal
 obtain ⟨base, box, got, sn, si, peer, conn, inc, known, up, heard, sent⟩ := s; have hsn : sn ≠ 0 := hs.sn; have hheard : heard < 18446744073709551616 := hs.heard; have hcn2 : conn + 1 < 18446744073709551616 := hcn; have HSN := Lib.hid hsn; have HS0 := Lib.hid (show Sep w0 (((w.alloc (.cells #[.pointer (some ⟨g, 0, none⟩)] 26)).alloc (.cells #[.slice none 0 0, .slice none 0 0] 43)).alloc (.cells #[.slice none 0 0, .slice none 0 0] 43)) (TK (w.heap.size + 1 + 1) (w.heap.size + 1) (w.heap.size) (g) Qs (Rw 51 10 (.slice none 0 0) 0 []) (Bods []) (Rw 49 4 (.slice none 0 0) 0 []) (Bods []) (#[.slice none 0 0, .slice none 0 0]) (#[.int .u64 (base : Int), .slice BA box.length bc, .int .u64 (got : Int), .int .i64 sn, .int .u64 (si : Int), .int .i64 peer, .int .u64 (conn : Int), .int .u64 (inc : Int), .int .u64 (known : Int), .bool up, .int .u64 (heard : Int), .int .u64 (sent : Int)]) (BoxT (.slice BA box.length bc) box)) by
  have := sep_ceF (sep_ceF (sep_ceF h #[.pointer (some ⟨g, 0, none⟩)] 26) #[.slice none 0 0, .slice none 0 0] 43) #[.slice none 0 0, .slice none 0 0] 43
  simp only [World.size_alloc] at this; have := sep_bodsNil (sep_rwNil (sep_bodsNil (sep_rwNil this 51 10).lastFront) 49 4).lastFront; exact ((((this).tF 0 rfl).tF 1 rfl).tF 2 rfl).tF 3 rfl)
 clear h hs hsn hbx; refine calls_marks 6 Try.func14 rfl ?_; simp only [Try.ntmps14, List.size_toArray, List.length_cons, List.length_nil, Nat.reduceAdd, Nat.reduceSub, Array.replicate_succ, Array.replicate_zero, List.push_toArray, List.append_toArray, List.nil_append, List.cons_append]
 go_wp2_with fail
 refine (made_yes _ g sn HSN.out (cA (i := 7) HS0.out rfl 3 rfl)).mono ?_; rintro e w1 ⟨rfl, hb1⟩; have HS1 := Lib.hid (HS0.out.grow hb1); clear HS0 hb1
 go_upto_region 4 with fail
 go_cut [24] from 8 to 85 (fun t wx => t = .bool q ∧ Sep w0 wx (TK (w.heap.size + 1 + 1) (w.heap.size + 1) (w.heap.size) (g) Qs (Rw 51 10 (.slice none 0 0) 0 []) (Bods []) (Rw 49 4 (.slice none 0 0) 0 []) (Bods []) (#[.slice none 0 0, .slice none 0 0]) (#[.int .u64 (base : Int), .slice BA box.length bc, .int .u64 (got : Int), .int .i64 sn, .int .u64 (si : Int), .int .i64 peer, .int .u64 (conn : Int), .int .u64 (inc : Int), .int .u64 (known : Int), .bool up, .int .u64 (heard : Int), .int .u64 (sent : Int)]) (BoxT (.slice BA box.length bc) box)))
 case first =>
  have kl := cA (i := 6) HS1.out rfl 0 rfl; have ku := cA (i := 7) HS1.out rfl 9 rfl; have kh := cA (i := 7) HS1.out rfl 10 rfl; cases up with
  | false =>
   go_wp2_with fail
   go_meet
   case rel => exact ⟨by rw [← Hq.out]; rfl, HS1.out⟩
  | true =>
   go_wp2_with fail
   refine (after_any _ now heard hnow).mono ?_; rintro e w2 ⟨rfl, hb2⟩
   go_wp2_with fail
   go_meet
   case rel =>
    refine ⟨?_, HS1.out.grow hb2⟩; rw [← Hq.out]; congr 1; simp only [Bool.true_and]; congr 1; exact propext (by omega)
 case rest =>
  obtain ⟨rfl, hS⟩ := hcut; clear HS1; have HS1 := Lib.hid hS; clear hS
  go_upto_if 24 with fail
  go_cut [] from 8 to 85 (fun wx => ∃ vF vE n xs bx2 LE, Hid (n = 0 ∧ xs = []) ∧ LE.map Prod.fst = sS.tickE now ∧ Sep w0 wx (TK (w.heap.size + 1 + 1) (w.heap.size + 1) (w.heap.size) (g) Qs (Rw 51 10 vF n xs) (Bods []) (Rw 49 4 vE LE.length (eR_ LE)) (Bods (eB_ LE)) (#[vF, vE]) ((sS.tick1 now).cells bx2) (BoxT bx2 (sS.tick1 now).box)))
  case first =>
   cases q with
   | false =>
    go_wp2_with fail
    go_meet
    case rel =>
     obtain ⟨e1, e2⟩ := LS.tick1_no (s := sS) (now := now) (by rw [← HSS.out]; exact Hq.out); refine ⟨.slice none 0 0, .slice none 0 0, 0, [], .slice BA box.length bc, [], Lib.hid ⟨rfl, rfl⟩, by rw [e2]; rfl, ?_⟩; rw [e1, ← HSS.out]; exact HS1.out
   | true =>
    have hup : up = true := by have := Hq.out; simp only [Bool.and_eq_true] at this; exact this.1
    subst hup; have HKL : ∀ (dn : Nat → Bool) (xv : Nat → Value) (W : World), (if dn 3 = true then ∃ vE, Sep w0 W (TK (w.heap.size + 1 + 1) (w.heap.size + 1) (w.heap.size) (g) Qs (Rw 51 10 (.slice none 0 0) 0 []) (Bods []) (Rw 49 4 vE (0 + 1) ([] ++ [.int .i64 2, .int .i64 peer, .int .u64 (inc : Int), .slice none 0 0])) (Bods ([] ++ [(.slice none 0 0, [])])) (#[.slice none 0 0, vE]) (#[.int .u64 0, .slice none 0 0, .int .u64 0, .int .i64 sn, .int .u64 (si : Int), .int .i64 peer, .int .u64 (conn : Int), .int .u64 (inc : Int), .int .u64 (known : Int), .bool false, .int .u64 (heard : Int), .int .u64 (sent : Int)]) (BoxT (.slice none 0 0) [])) else if dn 2 = true then TellAt (xv 2) (w.heap.size + 1 + 1) g w0 W (TK (w.heap.size + 1 + 1) (w.heap.size + 1) (w.heap.size) (g) Qs (Rw 51 10 (.slice none 0 0) 0 []) (Bods []) (Rw 49 4 (.slice none 0 0) 0 []) (Bods []) (#[.slice none 0 0, .slice none 0 0]) (#[.int .u64 (base : Int), .slice BA box.length bc, .int .u64 (got : Int), .int .i64 sn, .int .u64 (si : Int), .int .i64 peer, .int .u64 (conn : Int), .int .u64 (inc : Int), .int .u64 (known : Int), .bool true, .int .u64 (heard : Int), .int .u64 (sent : Int)]) (BoxT (.slice BA box.length bc) box)) else Sep w0 W (TK (w.heap.size + 1 + 1) (w.heap.size + 1) (w.heap.size) (g) Qs (Rw 51 10 (.slice none 0 0) 0 []) (Bods []) (Rw 49 4 (.slice none 0 0) 0 []) (Bods []) (#[.slice none 0 0, .slice none 0 0]) (#[.int .u64 (base : Int), .slice BA box.length bc, .int .u64 (got : Int), .int .i64 sn, .int .u64 (si : Int), .int .i64 peer, .int .u64 (conn : Int), .int .u64 (inc : Int), .int .u64 (known : Int), .bool true, .int .u64 (heard : Int), .int .u64 (sent : Int)]) (BoxT (.slice BA box.length bc) box))) → W.cell? ⟨w.heap.size, 0, none⟩ = some (.pointer (some ⟨g, 0, none⟩)) := fun dn xv W h => by
     split at h
     ·obtain ⟨_, h⟩ := h; exact cA (i := 6) h rfl 0 rfl
     split at h
     ·obtain ⟨_, _, _, h⟩ := h; exact cA (i := 8) h rfl 0 rfl
     exact cA (i := 6) h rfl 0 rfl
    go_wp2_with fail
    refine wRG (fun dn xv W => if dn 3 = true then ∃ vE, Sep w0 W (TK (w.heap.size + 1 + 1) (w.heap.size + 1) (w.heap.size) (g) Qs (Rw 51 10 (.slice none 0 0) 0 []) (Bods []) (Rw 49 4 vE (0 + 1) ([] ++ [.int .i64 2, .int .i64 peer, .int .u64 (inc : Int), .slice none 0 0])) (Bods ([] ++ [(.slice none 0 0, [])])) (#[.slice none 0 0, vE]) (#[.int .u64 0, .slice none 0 0, .int .u64 0, .int .i64 sn, .int .u64 (si : Int), .int .i64 peer, .int .u64 (conn : Int), .int .u64 (inc : Int), .int .u64 (known : Int), .bool false, .int .u64 (heard : Int), .int .u64 (sent : Int)]) (BoxT (.slice none 0 0) [])) else if dn 2 = true then TellAt (xv 2) (w.heap.size + 1 + 1) g w0 W (TK (w.heap.size + 1 + 1) (w.heap.size + 1) (w.heap.size) (g) Qs (Rw 51 10 (.slice none 0 0) 0 []) (Bods []) (Rw 49 4 (.slice none 0 0) 0 []) (Bods []) (#[.slice none 0 0, .slice none 0 0]) (#[.int .u64 (base : Int), .slice BA box.length bc, .int .u64 (got : Int), .int .i64 sn, .int .u64 (si : Int), .int .i64 peer, .int .u64 (conn : Int), .int .u64 (inc : Int), .int .u64 (known : Int), .bool true, .int .u64 (heard : Int), .int .u64 (sent : Int)]) (BoxT (.slice BA box.length bc) box)) else Sep w0 W (TK (w.heap.size + 1 + 1) (w.heap.size + 1) (w.heap.size) (g) Qs (Rw 51 10 (.slice none 0 0) 0 []) (Bods []) (Rw 49 4 (.slice none 0 0) 0 []) (Bods []) (#[.slice none 0 0, .slice none 0 0]) (#[.int .u64 (base : Int), .slice BA box.length bc, .int .u64 (got : Int), .int .i64 sn, .int .u64 (si : Int), .int .i64 peer, .int .u64 (conn : Int), .int .u64 (inc : Int), .int .u64 (known : Int), .bool true, .int .u64 (heard : Int), .int .u64 (sent : Int)]) (BoxT (.slice BA box.length bc) box))) (fun _ _ => True) [xP_ g 0, xP_ g 0, fun v _ => True, fun v _ => True] (fun xv => by simpa using HS1.out.drew) ?_ ?_
    ·refine Epk 1 2 w.heap.size 0 (fun g h W e => HKL g h W e) ?_
     refine Epk 2 2 w.heap.size 0 (fun g h W e => HKL g h W e) ?_
     refine EC 3 rfl (fun i j W F a b c d f H K h => ?_) ?_
     ·have f5 : F.tmps.getD 5 undef = .pointer (some ⟨w.heap.size + 1 + 1, 0, none⟩) := (a 5).trans (by kernel_rfl); have f26 := gE (a 26) (by kernel_rfl) (H 1) (by kernel_rfl); have q3 := c 3 uE; rw [if_neg (by simp [q3]), if_neg (by simp [b])] at f; have hS := f; clear f c b d a H; refine oP rfl ?_; go_simp; refine (sep_teller hS g (w.heap.size + 1 + 1)).mono ?_; rintro e W' ⟨q1, q0, rfl, hs0⟩; have hs : TellAt (.func (.func 56) #[] #[.pointer (some ⟨q1, 0, none⟩), .pointer (some ⟨q0, 0, none⟩)]) (w.heap.size + 1 + 1) g w0 W' (TK (w.heap.size + 1 + 1) (w.heap.size + 1) (w.heap.size) (g) Qs (Rw 51 10 (.slice none 0 0) 0 []) (Bods []) (Rw 49 4 (.slice none 0 0) 0 []) (Bods []) (#[.slice none 0 0, .slice none 0 0]) (#[.int .u64 (base : Int), .slice BA box.length bc, .int .u64 (got : Int), .int .i64 sn, .int .u64 (si : Int), .int .i64 peer, .int .u64 (conn : Int), .int .u64 (inc : Int), .int .u64 (known : Int), .bool true, .int .u64 (heard : Int), .int .u64 (sent : Int)]) (BoxT (.slice BA box.length bc) box)) := ⟨q1, q0, rfl, hs0⟩; exact h.out _ W' trivial trivial (by simpa [upB, upd, q3] using hs)
     refine EC 4 rfl (fun i j W F a b c d f H K h => ?_) ?_
     ·have f25 := gE (a 25) (by kernel_rfl) (H 0) (by kernel_rfl); have f27 : F.tmps.getD 27 undef = j 2 := (a 27).trans (by kernel_rfl); have q2 := (H 2 uE).1; rw [if_neg (by simp [b]), if_pos q2] at f; have hS := f; clear f c b d a H; refine oP rfl ?_; obtain ⟨q1, q0, e2, hS⟩ := hS; rw [e2] at f27; go_simp; refine (downTK hS HSN.out (by omega)).mono ?_; rintro e W' ⟨rfl, vE, hs0⟩; have hs : ∃ vE, Sep w0 W' (TK (w.heap.size + 1 + 1) (w.heap.size + 1) (w.heap.size) (g) Qs (Rw 51 10 (.slice none 0 0) 0 []) (Bods []) (Rw 49 4 vE (0 + 1) ([] ++ [.int .i64 2, .int .i64 peer, .int .u64 (inc : Int), .slice none 0 0])) (Bods ([] ++ [(.slice none 0 0, [])])) (#[.slice none 0 0, vE]) (#[.int .u64 0, .slice none 0 0, .int .u64 0, .int .i64 sn, .int .u64 (si : Int), .int .i64 peer, .int .u64 (conn : Int), .int .u64 (inc : Int), .int .u64 (known : Int), .bool false, .int .u64 (heard : Int), .int .u64 (sent : Int)]) (BoxT (.slice none 0 0) [])) := ⟨vE, hs0⟩; exact h.out _ W' trivial trivial (by simpa [upB, upd] using hs)
     exact EN
    ·intro dn xv W hI H; have qe : dn 3 = true := (H 3 (of_decide_eq_true (by kernel_rfl))).1; rw [if_pos qe] at hI; have hS := hI; clear H hI qe; simp only [putAll, Act.put, List.setIfInBounds_toArray, List.set_cons_zero, List.set_cons_succ, Nat.reduceAdd]; obtain ⟨vE, hS⟩ := hS; have HS5 := Lib.hid hS; clear hS; have ew : IntKind.u64.wrap ((conn : Int) + 1) = (conn : Int) + 1 := u64_wrap (by omega) (by omega); have kl := cA (i := 6) HS5.out rfl 0 rfl; have kc := cA (i := 7) HS5.out rfl 6 rfl; have yc := cFz (i := 7) HS5.out rfl 6; have HS6 := Lib.hid (cS (i := 7) HS5.out rfl 6 (.int .u64 ((conn : Int) + 1))); obtain ⟨W5, HW5⟩ : ∃ x, Hid (W = x) := ⟨_, Lib.hid rfl⟩; rw [HW5.out] at HS6 kl kc yc ⊢
     go_wp2_with fail
     go_meet
     case rel =>
      obtain ⟨e1, e2⟩ := LS.tick1_yes (s := sS) (now := now) (by rw [← HSS.out]; exact Hq.out); refine ⟨.slice none 0 0, vE, 0, [], .slice none 0 0, [(sS.ev 2 [], .slice none 0 0)], Lib.hid ⟨rfl, rfl⟩, by rw [e2]; rfl, ?_⟩; rw [e1, ← HSS.out]; exact HS6.out
  case rest =>
   obtain ⟨vF, vE, n, xs, bx2, LE, Hnx, HLE, hS⟩ := hcut; have HLE := Lib.hid HLE; have hnb : n ≤ 1000000 := by rw [Hnx.out.1]; omega
   have hnt : (sS.tick1 now).Num := HOS.out.tick1 now; clear HS1 HOK HSS Hq hcn hcn2 hheard hcc hcm HSN; clear base box got sn si peer conn inc known up heard sent BA bc; obtain ⟨t, Ht⟩ : ∃ t, Hid (sS.tick1 now = t) := ⟨_, Lib.hid rfl⟩; rw [Ht.out] at hS hnt; obtain ⟨BA, bc, rfl, hcc, hcm, hbx⟩ := sep_boxForm (i := 8) hS rfl hnt.small; have HT : Hid (sS.tick now = (if t.again now then { t with sent := now } else t) ∧ sS.tickF now = t.hello :: (if t.again now then t.due.map t.data else [])) := Lib.hid (by
    unfold LS.tick LS.tickF; rw [Ht.out]; exact ⟨rfl, rfl⟩)
   have HOT := Lib.hid hnt; obtain ⟨tT, HTT⟩ : ∃ x, Hid (t = x) := ⟨_, Lib.hid rfl⟩; rw [HTT.out] at HT; obtain ⟨q2, Hq2⟩ : ∃ q, Hid (t.again now = q) := ⟨_, Lib.hid rfl⟩; obtain ⟨base, box, got, sn, si, peer, conn, inc, known, up, heard, sent⟩ := t; have hsn : sn ≠ 0 := hnt.sn; have hsent : sent < 18446744073709551616 := hnt.sent; have hbb : base + box.length ≤ 34359738367 := hnt.base; have hb48 : box.length ≤ 48 := hnt.box; have HDU : Hid (dueL base box = box.take (min box.length 8)) := Lib.hid hnt.due; have HFIT : Hid (Fit box) := Lib.hid hnt.fit; have HSN := Lib.hid hsn; obtain ⟨mE, HmE⟩ : ∃ x, Hid (LE.length = x) := ⟨_, Lib.hid rfl⟩; obtain ⟨yE, HyE⟩ : ∃ x, Hid (eR_ LE = x) := ⟨_, Lib.hid rfl⟩; obtain ⟨LBE, HLB⟩ : ∃ x, Hid (eB_ LE = x) := ⟨_, Lib.hid rfl⟩; rw [HmE.out, HyE.out, HLB.out] at hS; have HS3 := Lib.hid (show Sep w0 wc (TK (w.heap.size + 1 + 1) (w.heap.size + 1) (w.heap.size) (g) Qs (Rw 51 10 vF n xs) (Bods []) (Rw 49 4 vE mE yE) (Bods LBE) (#[vF, vE]) (#[.int .u64 (base : Int), .slice BA box.length bc, .int .u64 (got : Int), .int .i64 sn, .int .u64 (si : Int), .int .i64 peer, .int .u64 (conn : Int), .int .u64 (inc : Int), .int .u64 (known : Int), .bool up, .int .u64 (heard : Int), .int .u64 (sent : Int)]) (BoxT (.slice BA box.length bc) box)) from hS); clear hS hnt hsn hbx; have HHE := Lib.hid (fun (W : World) hh => hello_any W g base (.slice BA box.length bc) got sn si peer conn inc known up heard sent hh); obtain ⟨hx, HXS⟩ : ∃ l, Hid ((heCells got sn si peer conn inc known).toList = l) := ⟨_, Lib.hid rfl⟩; have HX1 : Hid (∀ u ∈ hx, u.oneCell' = true) := Lib.hid (by
    rw [← HXS.out]; intro u hu; simp only [heCells, List.mem_cons, List.not_mem_nil, or_false] at hu
    rcases hu with rfl | rfl | rfl | rfl | rfl | rfl | rfl | rfl | rfl | rfl <;> rfl)
   have HKO : ∀ (dn : Nat → Bool) (xv : Nat → Value) (W : World), (if dn 7 = true then ∃ vF, Sep w0 W (TK (w.heap.size + 1 + 1) (w.heap.size + 1) (w.heap.size) (g) Qs (Rw 51 10 vF (n + 1) (xs ++ hx)) (Bods []) (Rw 49 4 vE mE yE) (Bods LBE) (#[vF, vE]) (#[.int .u64 (base : Int), .slice BA box.length bc, .int .u64 (got : Int), .int .i64 sn, .int .u64 (si : Int), .int .i64 peer, .int .u64 (conn : Int), .int .u64 (inc : Int), .int .u64 (known : Int), .bool up, .int .u64 (heard : Int), .int .u64 (sent : Int)]) (BoxT (.slice BA box.length bc) box)) else if dn 5 = true then Sep w0 W (TK (w.heap.size + 1 + 1) (w.heap.size + 1) (w.heap.size) (g) Qs (Rw 51 10 (xv 5) (n + 1) (xs ++ hx)) (Bods []) (Rw 49 4 vE mE yE) (Bods LBE) (#[vF, vE]) (#[.int .u64 (base : Int), .slice BA box.length bc, .int .u64 (got : Int), .int .i64 sn, .int .u64 (si : Int), .int .i64 peer, .int .u64 (conn : Int), .int .u64 (inc : Int), .int .u64 (known : Int), .bool up, .int .u64 (heard : Int), .int .u64 (sent : Int)]) (BoxT (.slice BA box.length bc) box)) else if dn 4 = true then Sep w0 W (TK (w.heap.size + 1 + 1) (w.heap.size + 1) (w.heap.size) (g) Qs (Rw 51 10 vF n xs) (Bods []) (Rw 49 4 vE mE yE) (Bods LBE) (#[vF, vE]) (#[.int .u64 (base : Int), .slice BA box.length bc, .int .u64 (got : Int), .int .i64 sn, .int .u64 (si : Int), .int .i64 peer, .int .u64 (conn : Int), .int .u64 (inc : Int), .int .u64 (known : Int), .bool up, .int .u64 (heard : Int), .int .u64 (sent : Int)]) (BoxT (.slice BA box.length bc) box)) ∧ OneF hx (xv 4) W else if dn 3 = true then Sep w0 W (TK (w.heap.size + 1 + 1) (w.heap.size + 1) (w.heap.size) (g) Qs (Rw 51 10 vF n xs) (Bods []) (Rw 49 4 vE mE yE) (Bods LBE) (#[vF, vE]) (#[.int .u64 (base : Int), .slice BA box.length bc, .int .u64 (got : Int), .int .i64 sn, .int .u64 (si : Int), .int .i64 peer, .int .u64 (conn : Int), .int .u64 (inc : Int), .int .u64 (known : Int), .bool up, .int .u64 (heard : Int), .int .u64 (sent : Int)]) (BoxT (.slice BA box.length bc) box)) else Sep w0 W (TK (w.heap.size + 1 + 1) (w.heap.size + 1) (w.heap.size) (g) Qs (Rw 51 10 vF n xs) (Bods []) (Rw 49 4 vE mE yE) (Bods LBE) (#[vF, vE]) (#[.int .u64 (base : Int), .slice BA box.length bc, .int .u64 (got : Int), .int .i64 sn, .int .u64 (si : Int), .int .i64 peer, .int .u64 (conn : Int), .int .u64 (inc : Int), .int .u64 (known : Int), .bool up, .int .u64 (heard : Int), .int .u64 (sent : Int)]) (BoxT (.slice BA box.length bc) box))) → dn 7 = false → W.cell? ⟨w.heap.size + 1 + 1, 0, none⟩ = some vF := fun dn xv W h h0 => by
    rw [if_neg (by simp [h0])] at h; split at h
    ·exact cA (i := 4) h rfl 0 rfl
    split at h
    ·have h := h.1; exact cA (i := 4) h rfl 0 rfl
    split at h
    ·exact cA (i := 4) h rfl 0 rfl
    exact cA (i := 4) h rfl 0 rfl
   have HKL : ∀ (dn : Nat → Bool) (xv : Nat → Value) (W : World), (if dn 7 = true then ∃ vF, Sep w0 W (TK (w.heap.size + 1 + 1) (w.heap.size + 1) (w.heap.size) (g) Qs (Rw 51 10 vF (n + 1) (xs ++ hx)) (Bods []) (Rw 49 4 vE mE yE) (Bods LBE) (#[vF, vE]) (#[.int .u64 (base : Int), .slice BA box.length bc, .int .u64 (got : Int), .int .i64 sn, .int .u64 (si : Int), .int .i64 peer, .int .u64 (conn : Int), .int .u64 (inc : Int), .int .u64 (known : Int), .bool up, .int .u64 (heard : Int), .int .u64 (sent : Int)]) (BoxT (.slice BA box.length bc) box)) else if dn 5 = true then Sep w0 W (TK (w.heap.size + 1 + 1) (w.heap.size + 1) (w.heap.size) (g) Qs (Rw 51 10 (xv 5) (n + 1) (xs ++ hx)) (Bods []) (Rw 49 4 vE mE yE) (Bods LBE) (#[vF, vE]) (#[.int .u64 (base : Int), .slice BA box.length bc, .int .u64 (got : Int), .int .i64 sn, .int .u64 (si : Int), .int .i64 peer, .int .u64 (conn : Int), .int .u64 (inc : Int), .int .u64 (known : Int), .bool up, .int .u64 (heard : Int), .int .u64 (sent : Int)]) (BoxT (.slice BA box.length bc) box)) else if dn 4 = true then Sep w0 W (TK (w.heap.size + 1 + 1) (w.heap.size + 1) (w.heap.size) (g) Qs (Rw 51 10 vF n xs) (Bods []) (Rw 49 4 vE mE yE) (Bods LBE) (#[vF, vE]) (#[.int .u64 (base : Int), .slice BA box.length bc, .int .u64 (got : Int), .int .i64 sn, .int .u64 (si : Int), .int .i64 peer, .int .u64 (conn : Int), .int .u64 (inc : Int), .int .u64 (known : Int), .bool up, .int .u64 (heard : Int), .int .u64 (sent : Int)]) (BoxT (.slice BA box.length bc) box)) ∧ OneF hx (xv 4) W else if dn 3 = true then Sep w0 W (TK (w.heap.size + 1 + 1) (w.heap.size + 1) (w.heap.size) (g) Qs (Rw 51 10 vF n xs) (Bods []) (Rw 49 4 vE mE yE) (Bods LBE) (#[vF, vE]) (#[.int .u64 (base : Int), .slice BA box.length bc, .int .u64 (got : Int), .int .i64 sn, .int .u64 (si : Int), .int .i64 peer, .int .u64 (conn : Int), .int .u64 (inc : Int), .int .u64 (known : Int), .bool up, .int .u64 (heard : Int), .int .u64 (sent : Int)]) (BoxT (.slice BA box.length bc) box)) else Sep w0 W (TK (w.heap.size + 1 + 1) (w.heap.size + 1) (w.heap.size) (g) Qs (Rw 51 10 vF n xs) (Bods []) (Rw 49 4 vE mE yE) (Bods LBE) (#[vF, vE]) (#[.int .u64 (base : Int), .slice BA box.length bc, .int .u64 (got : Int), .int .i64 sn, .int .u64 (si : Int), .int .i64 peer, .int .u64 (conn : Int), .int .u64 (inc : Int), .int .u64 (known : Int), .bool up, .int .u64 (heard : Int), .int .u64 (sent : Int)]) (BoxT (.slice BA box.length bc) box))) → W.cell? ⟨w.heap.size, 0, none⟩ = some (.pointer (some ⟨g, 0, none⟩)) := fun dn xv W h => by
    split at h
    ·obtain ⟨_, h⟩ := h; exact cA (i := 6) h rfl 0 rfl
    split at h
    ·exact cA (i := 6) h rfl 0 rfl
    split at h
    ·have h := h.1; exact cA (i := 6) h rfl 0 rfl
    split at h
    ·exact cA (i := 6) h rfl 0 rfl
    exact cA (i := 6) h rfl 0 rfl
   go_wp2_with fail
   refine wRG (fun dn xv W => if dn 7 = true then ∃ vF, Sep w0 W (TK (w.heap.size + 1 + 1) (w.heap.size + 1) (w.heap.size) (g) Qs (Rw 51 10 vF (n + 1) (xs ++ hx)) (Bods []) (Rw 49 4 vE mE yE) (Bods LBE) (#[vF, vE]) (#[.int .u64 (base : Int), .slice BA box.length bc, .int .u64 (got : Int), .int .i64 sn, .int .u64 (si : Int), .int .i64 peer, .int .u64 (conn : Int), .int .u64 (inc : Int), .int .u64 (known : Int), .bool up, .int .u64 (heard : Int), .int .u64 (sent : Int)]) (BoxT (.slice BA box.length bc) box)) else if dn 5 = true then Sep w0 W (TK (w.heap.size + 1 + 1) (w.heap.size + 1) (w.heap.size) (g) Qs (Rw 51 10 (xv 5) (n + 1) (xs ++ hx)) (Bods []) (Rw 49 4 vE mE yE) (Bods LBE) (#[vF, vE]) (#[.int .u64 (base : Int), .slice BA box.length bc, .int .u64 (got : Int), .int .i64 sn, .int .u64 (si : Int), .int .i64 peer, .int .u64 (conn : Int), .int .u64 (inc : Int), .int .u64 (known : Int), .bool up, .int .u64 (heard : Int), .int .u64 (sent : Int)]) (BoxT (.slice BA box.length bc) box)) else if dn 4 = true then Sep w0 W (TK (w.heap.size + 1 + 1) (w.heap.size + 1) (w.heap.size) (g) Qs (Rw 51 10 vF n xs) (Bods []) (Rw 49 4 vE mE yE) (Bods LBE) (#[vF, vE]) (#[.int .u64 (base : Int), .slice BA box.length bc, .int .u64 (got : Int), .int .i64 sn, .int .u64 (si : Int), .int .i64 peer, .int .u64 (conn : Int), .int .u64 (inc : Int), .int .u64 (known : Int), .bool up, .int .u64 (heard : Int), .int .u64 (sent : Int)]) (BoxT (.slice BA box.length bc) box)) ∧ OneF hx (xv 4) W else if dn 3 = true then Sep w0 W (TK (w.heap.size + 1 + 1) (w.heap.size + 1) (w.heap.size) (g) Qs (Rw 51 10 vF n xs) (Bods []) (Rw 49 4 vE mE yE) (Bods LBE) (#[vF, vE]) (#[.int .u64 (base : Int), .slice BA box.length bc, .int .u64 (got : Int), .int .i64 sn, .int .u64 (si : Int), .int .i64 peer, .int .u64 (conn : Int), .int .u64 (inc : Int), .int .u64 (known : Int), .bool up, .int .u64 (heard : Int), .int .u64 (sent : Int)]) (BoxT (.slice BA box.length bc) box)) else Sep w0 W (TK (w.heap.size + 1 + 1) (w.heap.size + 1) (w.heap.size) (g) Qs (Rw 51 10 vF n xs) (Bods []) (Rw 49 4 vE mE yE) (Bods LBE) (#[vF, vE]) (#[.int .u64 (base : Int), .slice BA box.length bc, .int .u64 (got : Int), .int .i64 sn, .int .u64 (si : Int), .int .i64 peer, .int .u64 (conn : Int), .int .u64 (inc : Int), .int .u64 (known : Int), .bool up, .int .u64 (heard : Int), .int .u64 (sent : Int)]) (BoxT (.slice BA box.length bc) box))) (fun _ _ => True) [xP_ (w.heap.size + 1 + 1) 0, xV_ vF, xP_ g 0, xV_ (.agg #[.int .i64 1, .int .i64 sn, .int .i64 peer, .int .u64 (si : Int), .int .u64 (conn : Int), .int .u64 (inc : Int), .int .u64 (known : Int), .int .u64 (got : Int), .int .u64 0, .slice none 0 0]), fun v _ => True, fun v _ => True, xP_ (w.heap.size + 1 + 1) 0, fun v _ => True] (fun xv => by simpa using HS3.out.drew) ?_ ?_
   ·refine Ep 1 5 (w.heap.size + 1 + 1) 0 ?_
    refine EC 2 rfl (fun g h W F a b c d e H K f => ?_) ?_
    ·have f36 := gE (a 36) (by kernel_rfl) (H 0) (by kernel_rfl); have kk := HKO g h W e (c 7 (uM 5 uE)); clear H c b d a; refine oP rfl ?_; go_simp; exact f.out _ _ rfl trivial e
    refine Epk 3 2 w.heap.size 0 (fun g h W e => HKL g h W e) ?_
    refine EC 4 rfl (fun k l W F a b c d f H K h => ?_) ?_
    ·have f38 := gE (a 38) (by kernel_rfl) (H 2) (by kernel_rfl); have q4 := c 4 uE; have q5 := c 5 (uM 4 uE); have q7 := c 7 (uM 5 (uM 4 uE)); rw [if_neg (by simp [q7]), if_neg (by simp [q5]), if_neg (by simp [q4]), if_neg (by simp [b])] at f; have hS := f; clear f c b d a H; refine oP rfl ?_; go_simp; refine (HHE.out W (cH (i := 7) hS rfl)).mono ?_; rintro e W' ⟨rfl, hb⟩; have hs : Sep w0 W' (TK (w.heap.size + 1 + 1) (w.heap.size + 1) (w.heap.size) (g) Qs (Rw 51 10 vF n xs) (Bods []) (Rw 49 4 vE mE yE) (Bods LBE) (#[vF, vE]) (#[.int .u64 (base : Int), .slice BA box.length bc, .int .u64 (got : Int), .int .i64 sn, .int .u64 (si : Int), .int .i64 peer, .int .u64 (conn : Int), .int .u64 (inc : Int), .int .u64 (known : Int), .bool up, .int .u64 (heard : Int), .int .u64 (sent : Int)]) (BoxT (.slice BA box.length bc) box)) := hS.grow hb; exact h.out _ W' rfl trivial (by simpa [upB, upd, q4, q5, q7] using hs)
    refine EC 5 rfl (fun h i W F a b c d e H K f => ?_) ?_
    ·have f39 := gE (a 39) (by kernel_rfl) (H 3) (by kernel_rfl); have q3 := (H 3 uE).1; have q5 := c 5 uE; have q7 := c 7 (uM 5 uE); rw [if_neg (by simp [q7]), if_neg (by simp [q5]), if_neg (by simp [b]), if_pos q3] at e; have hS := e; clear e c b d a H; refine oP rfl ?_; have g39 := f39; rw [Array.getD_eq_getD_getElem?] at g39; go_simp; have hb : Below W.heap.size W (W.alloc (.cells #[.int .i64 1, .int .i64 sn, .int .i64 peer, .int .u64 (si : Int), .int .u64 (conn : Int), .int .u64 (inc : Int), .int .u64 (known : Int), .int .u64 (got : Int), .int .u64 0, .slice none 0 0] 51)) := (Below.refl _ _).alloc (Nat.le_refl _) _; have hs : Sep w0 (W.alloc (.cells #[.int .i64 1, .int .i64 sn, .int .i64 peer, .int .u64 (si : Int), .int .u64 (conn : Int), .int .u64 (inc : Int), .int .u64 (known : Int), .int .u64 (got : Int), .int .u64 0, .slice none 0 0] 51)) (TK (w.heap.size + 1 + 1) (w.heap.size + 1) (w.heap.size) (g) Qs (Rw 51 10 vF n xs) (Bods []) (Rw 49 4 vE mE yE) (Bods LBE) (#[vF, vE]) (#[.int .u64 (base : Int), .slice BA box.length bc, .int .u64 (got : Int), .int .i64 sn, .int .u64 (si : Int), .int .i64 peer, .int .u64 (conn : Int), .int .u64 (inc : Int), .int .u64 (known : Int), .bool up, .int .u64 (heard : Int), .int .u64 (sent : Int)]) (BoxT (.slice BA box.length bc) box)) ∧ OneF hx (.slice (some ⟨W.heap.size, 0, none⟩) 1 1) (W.alloc (.cells #[.int .i64 1, .int .i64 sn, .int .i64 peer, .int .u64 (si : Int), .int .u64 (conn : Int), .int .u64 (inc : Int), .int .u64 (known : Int), .int .u64 (got : Int), .int .u64 0, .slice none 0 0] 51)) := ⟨hS.grow hb, HXS.out ▸ OneF.new W _⟩; exact f.out _ _ trivial trivial (by simpa [upB, upd, q5, q7] using hs)
    refine EC 6 rfl (fun h j W F a b c d e H K f => ?_) ?_
    ·have f37 := gE (a 37) (by kernel_rfl) (H 1) (by kernel_rfl); have f40 : F.tmps.getD 40 undef = j 4 := (a 40).trans (by kernel_rfl); have q4 := (H 4 uE).1; have q7 := c 7 uE; rw [if_neg (by simp [q7]), if_neg (by simp [b]), if_pos q4] at e; have hS := e; clear e c b d a H; refine oP rfl ?_; obtain ⟨s1, A3, c3, e3, hl3, hh3⟩ := hS; have fex := f40.trans e3; refine sep_opAppW rowFrames (i := 0) (s := .tmp 37) (x := .tmp 40) (m := 1) (news := hx) (by rfl) f37 fex s1 rfl (by rw [hl3]) hh3 HX1.out (by unfold maxLen; omega) (by omega) ?_; intro v W' hs0; have hs : Sep w0 W' (TK (w.heap.size + 1 + 1) (w.heap.size + 1) (w.heap.size) (g) Qs (Rw 51 10 v (n + 1) (xs ++ hx)) (Bods []) (Rw 49 4 vE mE yE) (Bods LBE) (#[vF, vE]) (#[.int .u64 (base : Int), .slice BA box.length bc, .int .u64 (got : Int), .int .i64 sn, .int .u64 (si : Int), .int .i64 peer, .int .u64 (conn : Int), .int .u64 (inc : Int), .int .u64 (known : Int), .bool up, .int .u64 (heard : Int), .int .u64 (sent : Int)]) (BoxT (.slice BA box.length bc) box)) := hs0; exact f.out v W' trivial trivial (by simpa [upB, upd, q7] using hs)
    refine Ep 7 5 (w.heap.size + 1 + 1) 0 ?_
    refine EC 8 rfl (fun h j W F a b c d e H K f => ?_) ?_
    ·have f41 : F.tmps.getD 41 undef = j 5 := (a 41).trans (by kernel_rfl); have f42 := gE (a 42) (by kernel_rfl) (H 6) (by kernel_rfl); have q5 := (H 5 uE).1; rw [if_neg (by simp [b]), if_pos q5] at e; have hS := e; clear e c b d a H; refine oP rfl ?_; obtain ⟨A2, c2, e2, _⟩ := sep_rwForm (i := 0) hS rfl; have hc3 := cA (i := 4) hS rfl 0 rfl; have hf3 := cFz (i := 4) hS rfl 0; rw [e2] at hS; have hs0 := cS (i := 4) hS rfl 0 (.slice A2 (n + 1) c2); have hs : ∃ vF, Sep w0 (W.setCell ⟨w.heap.size + 1 + 1, 0, none⟩ (.slice A2 (n + 1) c2)) (TK (w.heap.size + 1 + 1) (w.heap.size + 1) (w.heap.size) (g) Qs (Rw 51 10 vF (n + 1) (xs ++ hx)) (Bods []) (Rw 49 4 vE mE yE) (Bods LBE) (#[vF, vE]) (#[.int .u64 (base : Int), .slice BA box.length bc, .int .u64 (got : Int), .int .i64 sn, .int .u64 (si : Int), .int .i64 peer, .int .u64 (conn : Int), .int .u64 (inc : Int), .int .u64 (known : Int), .bool up, .int .u64 (heard : Int), .int .u64 (sent : Int)]) (BoxT (.slice BA box.length bc) box)) := ⟨_, hs0⟩; clear hs0; go_simp; exact f.out undef _ trivial trivial (by simpa [upB, upd] using hs)
    exact EN
   ·intro dn xv W hI H; have qe : dn 7 = true := (H 7 (of_decide_eq_true (by kernel_rfl))).1; rw [if_pos qe] at hI; have hS := hI; clear H hI qe; simp only [putAll, Act.put, List.setIfInBounds_toArray, List.set_cons_zero, List.set_cons_succ, Nat.reduceAdd]; obtain ⟨vF, hS⟩ := hS; have HS8 : Hid (Sep w0 W (TK (w.heap.size + 1 + 1) (w.heap.size + 1) (w.heap.size) (g) Qs (Rw 51 10 vF 1 (fR_ [(tT.hello, .slice none 0 0)])) (Bods (fB_ [(tT.hello, .slice none 0 0)])) (Rw 49 4 vE mE yE) (Bods LBE) (#[vF, vE]) (#[.int .u64 (base : Int), .slice BA box.length bc, .int .u64 (got : Int), .int .i64 sn, .int .u64 (si : Int), .int .i64 peer, .int .u64 (conn : Int), .int .u64 (inc : Int), .int .u64 (known : Int), .bool up, .int .u64 (heard : Int), .int .u64 (sent : Int)]) (BoxT (.slice BA box.length bc) box))) := Lib.hid (by
     have h1 := sep_bodsNone (i := 1) hS rfl; rw [← HXS.out, Hnx.out.1, Hnx.out.2] at h1; rw [← HTT.out]; exact h1)
    clear hS HS3 HKO HKL; obtain ⟨W8, HW8⟩ : ∃ x, Hid (W = x) := ⟨_, Lib.hid rfl⟩; rw [HW8.out] at HS8 ⊢
    go_upto_region 8 with fail
    go_cut [64] from 8 to 85 (fun t wx => t = .bool q2 ∧ Sep w0 wx (TK (w.heap.size + 1 + 1) (w.heap.size + 1) (w.heap.size) (g) Qs (Rw 51 10 vF 1 (fR_ [(tT.hello, .slice none 0 0)])) (Bods (fB_ [(tT.hello, .slice none 0 0)])) (Rw 49 4 vE mE yE) (Bods LBE) (#[vF, vE]) (#[.int .u64 (base : Int), .slice BA box.length bc, .int .u64 (got : Int), .int .i64 sn, .int .u64 (si : Int), .int .i64 peer, .int .u64 (conn : Int), .int .u64 (inc : Int), .int .u64 (known : Int), .bool up, .int .u64 (heard : Int), .int .u64 (sent : Int)]) (BoxT (.slice BA box.length bc) box)))
    case first =>
     have kl := cA (i := 6) HS8.out rfl 0 rfl; have ku := cA (i := 7) HS8.out rfl 9 rfl; have kb := cA (i := 7) HS8.out rfl 1 rfl; have kh := cA (i := 7) HS8.out rfl 11 rfl; have Hq3 := Hq2; cases up with
     | false =>
      go_wp2_with fail
      go_meet
      case rel => exact ⟨by rw [← Hq2.out]; rfl, HS8.out⟩
     | true =>
      by_cases hn : 0 < box.length
      ·have e0 : decide ((0 : Int) < (box.length : Int)) = true := decide_eq_true (by omega)
       go_wp2_with fail
       refine (after_any _ now sent hnow).mono ?_; rintro e w2 ⟨rfl, hb2⟩
       go_wp2_with fail
       go_meet
       case rel =>
        refine ⟨?_, HS8.out.grow hb2⟩; rw [← Hq2.out]; simp only [LS.again, Bool.true_and, decide_eq_true hn]; congr 2; exact propext (by omega)
      ·have e0 : decide ((0 : Int) < (box.length : Int)) = false := decide_eq_false (by omega)
       go_wp2_with fail
       go_meet
       case rel => exact ⟨by rw [← Hq2.out]; simp [LS.again, hn], HS8.out⟩
    case rest =>
     obtain ⟨rfl, hS⟩ := hcut; clear HS8; obtain ⟨A2, c2, rfl, _⟩ := sep_rwForm (i := 0) hS rfl; obtain ⟨AE, cE, rfl, _⟩ := sep_rwForm (i := 2) hS rfl; have HS8 := Lib.hid hS; clear hS; cases q2 with
     | false =>
      have k0 := cA (i := 4) HS8.out rfl 0 rfl; have k1 := cA (i := 4) HS8.out rfl 1 rfl; have y0 := cFz (i := 5) HS8.out rfl 0; have y1 := cFz (i := 5) HS8.out rfl 1; have z0 := cA (i := 5) HS8.out rfl 0 rfl; have z1 := cA (i := 5) HS8.out rfl 1 rfl; have HS9 := Lib.hid (cS (i := 5) (cS (i := 5) HS8.out rfl 0 (.slice A2 1 c2)) rfl 1 (.slice AE mE cE))
      go_wp2_with fail
      have k0 := cA (i := 5) HS9.out rfl 0 rfl; have k1 := cA (i := 5) HS9.out rfl 1 rfl; refine ⟨.agg #[.slice A2 1 c2, .slice AE mE cE], by simp [results, Try.results14, go_sem, k0, k1], ?_⟩; refine ⟨_, _, .slice BA box.length bc, [(tT.hello, .slice none 0 0)], LE, rfl, ?_, HLE.out, ?_⟩
      ·rw [HT.out.2, show tT.again now = false by rw [← HTT.out]; exact Hq2.out]; rfl
      ·rw [HT.out.1, show tT.again now = false by rw [← HTT.out]; exact Hq2.out]; have hx := ((HS9.out.drop 4).drop 4).drop 4; rw [HmE.out, HyE.out, HLB.out]; have e3 : (if false = true then ({ tT with sent := now } : LS) else tT) = tT := rfl; rw [e3]; have hT := HTT.out; subst hT; exact hx
     | true =>
      have kl := cA (i := 6) HS8.out rfl 0 rfl; have kb := cA (i := 7) HS8.out rfl 0 rfl; have kx := cA (i := 7) HS8.out rfl 1 rfl; obtain ⟨A9, c9, e9, _, _, hbx⟩ := sep_boxForm (i := 8) HS8.out rfl (fun l hl => by have := HFIT.out.2 l hl; omega); simp only [Value.slice.injEq, true_and] at e9; obtain ⟨rfl, rfl⟩ := e9; have HBX := Lib.hid hbx; clear hbx
      go_wp2_with fail
      refine (due_any wc base BA bc box HBX.out (by omega) HFIT.out hcc hcm).mono ?_; rintro e X ⟨hbX, hzX, rfl, d1, v9, d2, ho9⟩; rw [HDU.out] at ho9; obtain ⟨LT, HLT⟩ : ∃ LT, Hid (box.take (min box.length 8) = LT) := ⟨_, Lib.hid rfl⟩; rw [HLT.out] at ho9; have hlT : LT.length ≤ 8 := by rw [← HLT.out, List.length_take]; omega
      have hlT2 : LT.length ≤ box.length := by rw [← HLT.out, List.length_take]; omega
      have HFT : Hid (Fit LT) := Lib.hid (by rw [← HLT.out]; exact HFIT.out.take _); have HFX := Lib.hid (sep_fx HS8.out hbX); obtain ⟨lo, Hlo⟩ : ∃ x, Hid (wc.heap.size = x) := ⟨_, Lib.hid rfl⟩; obtain ⟨hi, Hhi⟩ : ∃ x, Hid (X.heap.size = x) := ⟨_, Lib.hid rfl⟩; rw [Hlo.out] at HFX d1 d2 ho9 hzX ⊢; clear kl kb kx HBX HS8
      go_wp2_with fail
      refine (wpIn_wide (n := 6)).1 ?_; have hseq := due1_s 5 (by omega) X lo base LT v9 (by omega) d1 d2 ho9 HFT.out (.inr (by omega)); rw [Hhi.out] at hseq HFX; refine range_s (α := It) (τ := Value × List (Fr × Value) × List (Value × List UInt8)) rfl (by omega) (gf := 60) rfl trivial (enters_of Try.func60 (by kernel_rfl) rfl)
       hseq MidB.trans (fun W l o' h => MidB.putObj W o' (by rw [← Hhi.out]; exact h)) (Below.refl _ _) (fun _ => rfl) (w0 := w0)
       (fun t => (Fx lo hi X :: TK (w.heap.size + 1 + 1) (w.heap.size + 1) (w.heap.size) g Qs (Rw 51 10 t.1 t.2.1.length (fR_ t.2.1)) (Bods t.2.2) (Rw 49 4 (.slice AE mE cE) mE yE) (Bods LBE) #[t.1, .slice AE mE cE] #[.int .u64 (base : Int), .slice BA box.length bc, .int .u64 (got : Int), .int .i64 sn, .int .u64 (si : Int), .int .i64 peer, .int .u64 (conn : Int), .int .u64 (inc : Int), .int .u64 (known : Int), .bool up, .int .u64 (heard : Int), .int .u64 (sent : Int)] (BoxT (.slice BA box.length bc) box)))
       (fun pre t => t.2.2 = fB_ t.2.1 ∧ t.2.1.map Prod.fst = tT.hello :: pre.map (fun y => tT.data (prI y)))
       (fun pre x t => t.2.2 = fB_ t.2.1 ++ [(x.2.2, x.2.1)] ∧ t.2.1.map Prod.fst = tT.hello :: pre.map (fun y => tT.data (prI y)) ∧ pre.length < 8)
       ⟨(.slice A2 1 c2, [(tT.hello, .slice none 0 0)], fB_ [(tT.hello, .slice none 0 0)]), ⟨rfl, rfl⟩, HFX.out⟩ ?hnew ?hround ?hdone
      case hnew =>
       rintro pre ⟨mq, lb, v⟩ ⟨vF, LP, LB⟩ B Wp W1 ⟨e1, e2⟩ hS hb hv ho hN; refine ⟨(vF, LP, LB ++ [(v, lb)]), ⟨by rw [← e1], e2, by omega⟩, ?_⟩; exact sep_bodsAdd (i := 3) hS rfl hb ho
      case hround =>
       rintro l pre ⟨mq, lb, v⟩ W0; rw [show encI (mq, lb, v) = #[.int .u64 (mq : Int), v] from rfl]
       gi_wp2
       refine ⟨trivial, ?_⟩; rintro Wr ⟨vF, LP, LB⟩ B ⟨e1, e2, e3⟩ hS; simp only at e1 e2 e3; subst e1; obtain ⟨Av, cv, rfl, _, _, _⟩ := sep_bodsAt (i := 3) hS rfl (u := v) (l := lb) (by simp); have hnb : LP.length ≤ 1000000 := by
        have := congrArg List.length e2
        simp at this; omega
       obtain ⟨n, Hn⟩ : ∃ x, Hid (LP.length = x) := ⟨_, Lib.hid rfl⟩; obtain ⟨xs, Hxs⟩ : ∃ x, Hid (fR_ LP = x) := ⟨_, Lib.hid rfl⟩; obtain ⟨LB, HLBB⟩ : ∃ x, Hid (fB_ LP ++ [(.slice Av lb.length cv, lb)] = x) := ⟨_, Lib.hid rfl⟩; have HSR := Lib.hid (show Sep w0 Wr (B :: Fx lo hi X :: (TK (w.heap.size + 1 + 1) (w.heap.size + 1) (w.heap.size) (g) Qs (Rw 51 10 vF n xs) (Bods LB) (Rw 49 4 (.slice AE mE cE) mE yE) (Bods LBE) (#[vF, (.slice AE mE cE)]) (#[.int .u64 (base : Int), .slice BA box.length bc, .int .u64 (got : Int), .int .i64 sn, .int .u64 (si : Int), .int .i64 peer, .int .u64 (conn : Int), .int .u64 (inc : Int), .int .u64 (known : Int), .bool up, .int .u64 (heard : Int), .int .u64 (sent : Int)]) (BoxT (.slice BA box.length bc) box))) by rw [← HLBB.out, ← Hn.out, ← Hxs.out]; exact hS); have HE2 := Lib.hid e2; rw [Hn.out] at hnb; clear hS e2 e3; have HDA := Lib.hid (fun (W : World) hh => dataG W g base (.slice BA box.length bc) got sn si peer conn inc known up heard sent (mq : Int) Av lb.length cv hh); obtain ⟨hx, HDX⟩ : ∃ l, Hid ((daCells got sn si peer conn inc known (mq : Int) Av lb.length cv).toList = l) := ⟨_, Lib.hid rfl⟩; have HX1 : Hid (∀ u ∈ hx, u.oneCell' = true) := Lib.hid (by
        rw [← HDX.out]; intro u hu; simp only [daCells, List.mem_cons, List.not_mem_nil, or_false] at hu
        rcases hu with rfl | rfl | rfl | rfl | rfl | rfl | rfl | rfl | rfl | rfl <;> rfl)
       have HKO : ∀ (dn : Nat → Bool) (xv : Nat → Value) (W : World), (if dn 9 = true then ∃ vF, Sep w0 W (B :: Fx lo hi X :: (TK (w.heap.size + 1 + 1) (w.heap.size + 1) (w.heap.size) (g) Qs (Rw 51 10 vF (n + 1) (xs ++ hx)) (Bods LB) (Rw 49 4 (.slice AE mE cE) mE yE) (Bods LBE) (#[vF, (.slice AE mE cE)]) (#[.int .u64 (base : Int), .slice BA box.length bc, .int .u64 (got : Int), .int .i64 sn, .int .u64 (si : Int), .int .i64 peer, .int .u64 (conn : Int), .int .u64 (inc : Int), .int .u64 (known : Int), .bool up, .int .u64 (heard : Int), .int .u64 (sent : Int)]) (BoxT (.slice BA box.length bc) box))) else if dn 7 = true then Sep w0 W (B :: Fx lo hi X :: (TK (w.heap.size + 1 + 1) (w.heap.size + 1) (w.heap.size) (g) Qs (Rw 51 10 (xv 7) (n + 1) (xs ++ hx)) (Bods LB) (Rw 49 4 (.slice AE mE cE) mE yE) (Bods LBE) (#[vF, (.slice AE mE cE)]) (#[.int .u64 (base : Int), .slice BA box.length bc, .int .u64 (got : Int), .int .i64 sn, .int .u64 (si : Int), .int .i64 peer, .int .u64 (conn : Int), .int .u64 (inc : Int), .int .u64 (known : Int), .bool up, .int .u64 (heard : Int), .int .u64 (sent : Int)]) (BoxT (.slice BA box.length bc) box))) else if dn 6 = true then Sep w0 W (B :: Fx lo hi X :: (TK (w.heap.size + 1 + 1) (w.heap.size + 1) (w.heap.size) (g) Qs (Rw 51 10 vF n xs) (Bods LB) (Rw 49 4 (.slice AE mE cE) mE yE) (Bods LBE) (#[vF, (.slice AE mE cE)]) (#[.int .u64 (base : Int), .slice BA box.length bc, .int .u64 (got : Int), .int .i64 sn, .int .u64 (si : Int), .int .i64 peer, .int .u64 (conn : Int), .int .u64 (inc : Int), .int .u64 (known : Int), .bool up, .int .u64 (heard : Int), .int .u64 (sent : Int)]) (BoxT (.slice BA box.length bc) box))) ∧ OneF hx (xv 6) W else if dn 5 = true then Sep w0 W (B :: Fx lo hi X :: (TK (w.heap.size + 1 + 1) (w.heap.size + 1) (w.heap.size) (g) Qs (Rw 51 10 vF n xs) (Bods LB) (Rw 49 4 (.slice AE mE cE) mE yE) (Bods LBE) (#[vF, (.slice AE mE cE)]) (#[.int .u64 (base : Int), .slice BA box.length bc, .int .u64 (got : Int), .int .i64 sn, .int .u64 (si : Int), .int .i64 peer, .int .u64 (conn : Int), .int .u64 (inc : Int), .int .u64 (known : Int), .bool up, .int .u64 (heard : Int), .int .u64 (sent : Int)]) (BoxT (.slice BA box.length bc) box))) else Sep w0 W (B :: Fx lo hi X :: (TK (w.heap.size + 1 + 1) (w.heap.size + 1) (w.heap.size) (g) Qs (Rw 51 10 vF n xs) (Bods LB) (Rw 49 4 (.slice AE mE cE) mE yE) (Bods LBE) (#[vF, (.slice AE mE cE)]) (#[.int .u64 (base : Int), .slice BA box.length bc, .int .u64 (got : Int), .int .i64 sn, .int .u64 (si : Int), .int .i64 peer, .int .u64 (conn : Int), .int .u64 (inc : Int), .int .u64 (known : Int), .bool up, .int .u64 (heard : Int), .int .u64 (sent : Int)]) (BoxT (.slice BA box.length bc) box)))) → dn 9 = false → W.cell? ⟨w.heap.size + 1 + 1, 0, none⟩ = some vF := fun dn xv W h h0 => by
        rw [if_neg (by simp [h0])] at h; split at h
        ·exact cA (i := 6) h rfl 0 rfl
        split at h
        ·have h := h.1; exact cA (i := 6) h rfl 0 rfl
        split at h
        ·exact cA (i := 6) h rfl 0 rfl
        exact cA (i := 6) h rfl 0 rfl
       have HKL : ∀ (dn : Nat → Bool) (xv : Nat → Value) (W : World), (if dn 9 = true then ∃ vF, Sep w0 W (B :: Fx lo hi X :: (TK (w.heap.size + 1 + 1) (w.heap.size + 1) (w.heap.size) (g) Qs (Rw 51 10 vF (n + 1) (xs ++ hx)) (Bods LB) (Rw 49 4 (.slice AE mE cE) mE yE) (Bods LBE) (#[vF, (.slice AE mE cE)]) (#[.int .u64 (base : Int), .slice BA box.length bc, .int .u64 (got : Int), .int .i64 sn, .int .u64 (si : Int), .int .i64 peer, .int .u64 (conn : Int), .int .u64 (inc : Int), .int .u64 (known : Int), .bool up, .int .u64 (heard : Int), .int .u64 (sent : Int)]) (BoxT (.slice BA box.length bc) box))) else if dn 7 = true then Sep w0 W (B :: Fx lo hi X :: (TK (w.heap.size + 1 + 1) (w.heap.size + 1) (w.heap.size) (g) Qs (Rw 51 10 (xv 7) (n + 1) (xs ++ hx)) (Bods LB) (Rw 49 4 (.slice AE mE cE) mE yE) (Bods LBE) (#[vF, (.slice AE mE cE)]) (#[.int .u64 (base : Int), .slice BA box.length bc, .int .u64 (got : Int), .int .i64 sn, .int .u64 (si : Int), .int .i64 peer, .int .u64 (conn : Int), .int .u64 (inc : Int), .int .u64 (known : Int), .bool up, .int .u64 (heard : Int), .int .u64 (sent : Int)]) (BoxT (.slice BA box.length bc) box))) else if dn 6 = true then Sep w0 W (B :: Fx lo hi X :: (TK (w.heap.size + 1 + 1) (w.heap.size + 1) (w.heap.size) (g) Qs (Rw 51 10 vF n xs) (Bods LB) (Rw 49 4 (.slice AE mE cE) mE yE) (Bods LBE) (#[vF, (.slice AE mE cE)]) (#[.int .u64 (base : Int), .slice BA box.length bc, .int .u64 (got : Int), .int .i64 sn, .int .u64 (si : Int), .int .i64 peer, .int .u64 (conn : Int), .int .u64 (inc : Int), .int .u64 (known : Int), .bool up, .int .u64 (heard : Int), .int .u64 (sent : Int)]) (BoxT (.slice BA box.length bc) box))) ∧ OneF hx (xv 6) W else if dn 5 = true then Sep w0 W (B :: Fx lo hi X :: (TK (w.heap.size + 1 + 1) (w.heap.size + 1) (w.heap.size) (g) Qs (Rw 51 10 vF n xs) (Bods LB) (Rw 49 4 (.slice AE mE cE) mE yE) (Bods LBE) (#[vF, (.slice AE mE cE)]) (#[.int .u64 (base : Int), .slice BA box.length bc, .int .u64 (got : Int), .int .i64 sn, .int .u64 (si : Int), .int .i64 peer, .int .u64 (conn : Int), .int .u64 (inc : Int), .int .u64 (known : Int), .bool up, .int .u64 (heard : Int), .int .u64 (sent : Int)]) (BoxT (.slice BA box.length bc) box))) else Sep w0 W (B :: Fx lo hi X :: (TK (w.heap.size + 1 + 1) (w.heap.size + 1) (w.heap.size) (g) Qs (Rw 51 10 vF n xs) (Bods LB) (Rw 49 4 (.slice AE mE cE) mE yE) (Bods LBE) (#[vF, (.slice AE mE cE)]) (#[.int .u64 (base : Int), .slice BA box.length bc, .int .u64 (got : Int), .int .i64 sn, .int .u64 (si : Int), .int .i64 peer, .int .u64 (conn : Int), .int .u64 (inc : Int), .int .u64 (known : Int), .bool up, .int .u64 (heard : Int), .int .u64 (sent : Int)]) (BoxT (.slice BA box.length bc) box)))) → W.cell? ⟨w.heap.size, 0, none⟩ = some (.pointer (some ⟨g, 0, none⟩)) := fun dn xv W h => by
        split at h
        ·obtain ⟨_, h⟩ := h; exact cA (i := 8) h rfl 0 rfl
        split at h
        ·exact cA (i := 8) h rfl 0 rfl
        split at h
        ·have h := h.1; exact cA (i := 8) h rfl 0 rfl
        split at h
        ·exact cA (i := 8) h rfl 0 rfl
        exact cA (i := 8) h rfl 0 rfl
       gi_wp2
       refine wpIn_region_f (by kernel_rfl) (fun dn xv W => if dn 9 = true then ∃ vF, Sep w0 W (B :: Fx lo hi X :: (TK (w.heap.size + 1 + 1) (w.heap.size + 1) (w.heap.size) (g) Qs (Rw 51 10 vF (n + 1) (xs ++ hx)) (Bods LB) (Rw 49 4 (.slice AE mE cE) mE yE) (Bods LBE) (#[vF, (.slice AE mE cE)]) (#[.int .u64 (base : Int), .slice BA box.length bc, .int .u64 (got : Int), .int .i64 sn, .int .u64 (si : Int), .int .i64 peer, .int .u64 (conn : Int), .int .u64 (inc : Int), .int .u64 (known : Int), .bool up, .int .u64 (heard : Int), .int .u64 (sent : Int)]) (BoxT (.slice BA box.length bc) box))) else if dn 7 = true then Sep w0 W (B :: Fx lo hi X :: (TK (w.heap.size + 1 + 1) (w.heap.size + 1) (w.heap.size) (g) Qs (Rw 51 10 (xv 7) (n + 1) (xs ++ hx)) (Bods LB) (Rw 49 4 (.slice AE mE cE) mE yE) (Bods LBE) (#[vF, (.slice AE mE cE)]) (#[.int .u64 (base : Int), .slice BA box.length bc, .int .u64 (got : Int), .int .i64 sn, .int .u64 (si : Int), .int .i64 peer, .int .u64 (conn : Int), .int .u64 (inc : Int), .int .u64 (known : Int), .bool up, .int .u64 (heard : Int), .int .u64 (sent : Int)]) (BoxT (.slice BA box.length bc) box))) else if dn 6 = true then Sep w0 W (B :: Fx lo hi X :: (TK (w.heap.size + 1 + 1) (w.heap.size + 1) (w.heap.size) (g) Qs (Rw 51 10 vF n xs) (Bods LB) (Rw 49 4 (.slice AE mE cE) mE yE) (Bods LBE) (#[vF, (.slice AE mE cE)]) (#[.int .u64 (base : Int), .slice BA box.length bc, .int .u64 (got : Int), .int .i64 sn, .int .u64 (si : Int), .int .i64 peer, .int .u64 (conn : Int), .int .u64 (inc : Int), .int .u64 (known : Int), .bool up, .int .u64 (heard : Int), .int .u64 (sent : Int)]) (BoxT (.slice BA box.length bc) box))) ∧ OneF hx (xv 6) W else if dn 5 = true then Sep w0 W (B :: Fx lo hi X :: (TK (w.heap.size + 1 + 1) (w.heap.size + 1) (w.heap.size) (g) Qs (Rw 51 10 vF n xs) (Bods LB) (Rw 49 4 (.slice AE mE cE) mE yE) (Bods LBE) (#[vF, (.slice AE mE cE)]) (#[.int .u64 (base : Int), .slice BA box.length bc, .int .u64 (got : Int), .int .i64 sn, .int .u64 (si : Int), .int .i64 peer, .int .u64 (conn : Int), .int .u64 (inc : Int), .int .u64 (known : Int), .bool up, .int .u64 (heard : Int), .int .u64 (sent : Int)]) (BoxT (.slice BA box.length bc) box))) else Sep w0 W (B :: Fx lo hi X :: (TK (w.heap.size + 1 + 1) (w.heap.size + 1) (w.heap.size) (g) Qs (Rw 51 10 vF n xs) (Bods LB) (Rw 49 4 (.slice AE mE cE) mE yE) (Bods LBE) (#[vF, (.slice AE mE cE)]) (#[.int .u64 (base : Int), .slice BA box.length bc, .int .u64 (got : Int), .int .i64 sn, .int .u64 (si : Int), .int .i64 peer, .int .u64 (conn : Int), .int .u64 (inc : Int), .int .u64 (known : Int), .bool up, .int .u64 (heard : Int), .int .u64 (sent : Int)]) (BoxT (.slice BA box.length bc) box)))) (fun _ _ => True) [xP_ (w.heap.size + 1 + 1) 0, xV_ vF, xP_ g 0, xV_ (.int .u64 (mq : Int)), xV_ (.slice Av lb.length cv), xV_ (.agg #[.int .i64 2, .int .i64 sn, .int .i64 peer, .int .u64 (si : Int), .int .u64 (conn : Int), .int .u64 (inc : Int), .int .u64 (known : Int), .int .u64 (got : Int), .int .u64 (mq : Int), .slice Av lb.length cv]), fun v _ => True, fun v _ => True, xP_ (w.heap.size + 1 + 1) 0, fun v _ => True] (by kernel_rfl) (by kernel_rfl) (by kernel_rfl) (by kernel_rfl) (fun xv => by simpa using HSR.out.drew)
        (by repeat (first | exact trivial | refine ⟨fun _ _ _ _ h => h, ?_⟩)) ?_ ?_
       ·refine Ep 1 5 (w.heap.size + 1 + 1) 0 ?_
        refine EC 2 rfl (fun g h W F a b c d e H K f => ?_) ?_
        ·have f72 := gE (a 72) (by kernel_rfl) (H 0) (by kernel_rfl); have kk := HKO g h W e (c 9 (uM 7 uE)); clear H c b d a; refine oP rfl ?_; go_simp; exact f.out _ _ rfl trivial e
        refine Epk 3 2 w.heap.size 0 (fun g h W e => HKL g h W e) ?_
        refine Ei 4 6 (.int .u64 (mq : Int)) ?_
        refine Ei 5 7 (.slice Av lb.length cv) ?_
        refine EC 6 rfl (fun k l W F a b c d f H K h => ?_) ?_
        ·have f74 := gE (a 74) (by kernel_rfl) (H 2) (by kernel_rfl); have f75 := gE (a 75) (by kernel_rfl) (H 3) (by kernel_rfl); have f76 := gE (a 76) (by kernel_rfl) (H 4) (by kernel_rfl); have q6 := c 6 uE; have q7 := c 7 (uM 6 uE); have q9 := c 9 (uM 7 (uM 6 uE)); rw [if_neg (by simp [q9]), if_neg (by simp [q7]), if_neg (by simp [q6]), if_neg (by simp [b])] at f; have hS := f; clear f c b d a H; refine oP rfl ?_; go_simp; refine (HDA.out W (cH (i := 9) hS rfl)).mono ?_; rintro e W' ⟨rfl, hb⟩; have hs : Sep w0 W' (B :: Fx lo hi X :: (TK (w.heap.size + 1 + 1) (w.heap.size + 1) (w.heap.size) (g) Qs (Rw 51 10 vF n xs) (Bods LB) (Rw 49 4 (.slice AE mE cE) mE yE) (Bods LBE) (#[vF, (.slice AE mE cE)]) (#[.int .u64 (base : Int), .slice BA box.length bc, .int .u64 (got : Int), .int .i64 sn, .int .u64 (si : Int), .int .i64 peer, .int .u64 (conn : Int), .int .u64 (inc : Int), .int .u64 (known : Int), .bool up, .int .u64 (heard : Int), .int .u64 (sent : Int)]) (BoxT (.slice BA box.length bc) box))) := hS.grow hb; exact h.out _ W' rfl trivial (by simpa [upB, upd, q6, q7, q9] using hs)
        refine EC 7 rfl (fun h i W F a b c d e H K f => ?_) ?_
        ·have f77 := gE (a 77) (by kernel_rfl) (H 5) (by kernel_rfl); have q5 := (H 5 uE).1; have q7 := c 7 uE; have q9 := c 9 (uM 7 uE); rw [if_neg (by simp [q9]), if_neg (by simp [q7]), if_neg (by simp [b]), if_pos q5] at e; have hS := e; clear e c b d a H; refine oP rfl ?_; have g77 := f77; rw [Array.getD_eq_getD_getElem?] at g77; go_simp; have hb : Below W.heap.size W (W.alloc (.cells #[.int .i64 2, .int .i64 sn, .int .i64 peer, .int .u64 (si : Int), .int .u64 (conn : Int), .int .u64 (inc : Int), .int .u64 (known : Int), .int .u64 (got : Int), .int .u64 (mq : Int), .slice Av lb.length cv] 51)) := (Below.refl _ _).alloc (Nat.le_refl _) _; have hs : Sep w0 (W.alloc (.cells #[.int .i64 2, .int .i64 sn, .int .i64 peer, .int .u64 (si : Int), .int .u64 (conn : Int), .int .u64 (inc : Int), .int .u64 (known : Int), .int .u64 (got : Int), .int .u64 (mq : Int), .slice Av lb.length cv] 51)) (B :: Fx lo hi X :: (TK (w.heap.size + 1 + 1) (w.heap.size + 1) (w.heap.size) (g) Qs (Rw 51 10 vF n xs) (Bods LB) (Rw 49 4 (.slice AE mE cE) mE yE) (Bods LBE) (#[vF, (.slice AE mE cE)]) (#[.int .u64 (base : Int), .slice BA box.length bc, .int .u64 (got : Int), .int .i64 sn, .int .u64 (si : Int), .int .i64 peer, .int .u64 (conn : Int), .int .u64 (inc : Int), .int .u64 (known : Int), .bool up, .int .u64 (heard : Int), .int .u64 (sent : Int)]) (BoxT (.slice BA box.length bc) box))) ∧ OneF hx (.slice (some ⟨W.heap.size, 0, none⟩) 1 1) (W.alloc (.cells #[.int .i64 2, .int .i64 sn, .int .i64 peer, .int .u64 (si : Int), .int .u64 (conn : Int), .int .u64 (inc : Int), .int .u64 (known : Int), .int .u64 (got : Int), .int .u64 (mq : Int), .slice Av lb.length cv] 51)) := ⟨hS.grow hb, HDX.out ▸ OneF.new W _⟩; exact f.out _ _ trivial trivial (by simpa [upB, upd, q7, q9] using hs)
        refine EC 8 rfl (fun h j W F a b c d e H K f => ?_) ?_
        ·have f73 := gE (a 73) (by kernel_rfl) (H 1) (by kernel_rfl); have f78 : F.tmps.getD 78 undef = j 6 := (a 78).trans (by kernel_rfl); have q6 := (H 6 uE).1; have q9 := c 9 uE; rw [if_neg (by simp [q9]), if_neg (by simp [b]), if_pos q6] at e; have hS := e; clear e c b d a H; refine oP rfl ?_; obtain ⟨s1, A3, c3, e3, hl3, hh3⟩ := hS; have fex := f78.trans e3; refine sep_opAppW rowFrames (i := 2) (s := .tmp 73) (x := .tmp 78) (m := 1) (news := hx) (by rfl) f73 fex s1 rfl (by rw [hl3]) hh3 HX1.out (by unfold maxLen; omega) (by omega) ?_; intro v W' hs0; have hs : Sep w0 W' (B :: Fx lo hi X :: (TK (w.heap.size + 1 + 1) (w.heap.size + 1) (w.heap.size) (g) Qs (Rw 51 10 v (n + 1) (xs ++ hx)) (Bods LB) (Rw 49 4 (.slice AE mE cE) mE yE) (Bods LBE) (#[vF, (.slice AE mE cE)]) (#[.int .u64 (base : Int), .slice BA box.length bc, .int .u64 (got : Int), .int .i64 sn, .int .u64 (si : Int), .int .i64 peer, .int .u64 (conn : Int), .int .u64 (inc : Int), .int .u64 (known : Int), .bool up, .int .u64 (heard : Int), .int .u64 (sent : Int)]) (BoxT (.slice BA box.length bc) box))) := hs0; exact f.out v W' trivial trivial (by simpa [upB, upd, q9] using hs)
        refine Ep 9 5 (w.heap.size + 1 + 1) 0 ?_
        refine EC 10 rfl (fun h j W F a b c d e H K f => ?_) ?_
        ·have f79 : F.tmps.getD 79 undef = j 7 := (a 79).trans (by kernel_rfl); have f80 := gE (a 80) (by kernel_rfl) (H 8) (by kernel_rfl); have q7 := (H 7 uE).1; rw [if_neg (by simp [b]), if_pos q7] at e; have hS := e; clear e c b d a H; refine oP rfl ?_; obtain ⟨A2, c2, e2, _⟩ := sep_rwForm (i := 2) hS rfl; have hc3 := cA (i := 6) hS rfl 0 rfl; have hf3 := cFz (i := 6) hS rfl 0; rw [e2] at hS; have hs0 := cS (i := 6) hS rfl 0 (.slice A2 (n + 1) c2); have hs : ∃ vF, Sep w0 (W.setCell ⟨w.heap.size + 1 + 1, 0, none⟩ (.slice A2 (n + 1) c2)) (B :: Fx lo hi X :: (TK (w.heap.size + 1 + 1) (w.heap.size + 1) (w.heap.size) (g) Qs (Rw 51 10 vF (n + 1) (xs ++ hx)) (Bods LB) (Rw 49 4 (.slice AE mE cE) mE yE) (Bods LBE) (#[vF, (.slice AE mE cE)]) (#[.int .u64 (base : Int), .slice BA box.length bc, .int .u64 (got : Int), .int .i64 sn, .int .u64 (si : Int), .int .i64 peer, .int .u64 (conn : Int), .int .u64 (inc : Int), .int .u64 (known : Int), .bool up, .int .u64 (heard : Int), .int .u64 (sent : Int)]) (BoxT (.slice BA box.length bc) box))) := ⟨_, hs0⟩; clear hs0; go_simp; exact f.out undef _ trivial trivial (by simpa [upB, upd] using hs)
        exact EN
       ·intro dn xv W hI H; have qe : dn 9 = true := (H 9 (of_decide_eq_true (by kernel_rfl))).1; rw [if_pos qe] at hI; have hS := hI; clear H hI qe; simp only [putAll, Act.put, List.setIfInBounds_toArray, List.set_cons_zero, List.set_cons_succ, Nat.reduceAdd]; obtain ⟨vF2, hS⟩ := hS
        gi_wp2
        refine ⟨mid_fx (i := 1) (j := 1) HSR.out rfl hS rfl, ⟨(vF2, LP ++ [(tT.data (mq, lb), .slice Av lb.length cv)], LB), ⟨?_, ?_⟩, ?_⟩⟩
        ·simp only; rw [← HLBB.out, frBods_snoc]; rfl
        ·simp only [List.map_append, HE2.out]; rfl
        ·have e5 : (LP ++ [(tT.data (mq, lb), Value.slice Av lb.length cv)]).length = n + 1 := by rw [List.length_append, Hn.out]; rfl
         have e6 : fR_ (LP ++ [(tT.data (mq, lb), .slice Av lb.length cv)]) = xs ++ hx := by
          rw [frRow_snoc, Hxs.out, ← HDX.out, ← HTT.out]; rfl
         simp only [e5, e6]; exact hS
      case hdone =>
       rintro D r xs ⟨vF, LP, LB⟩ W hD hat ⟨e1, e2⟩ hS; simp only at e1 e2 hS; subst e1; obtain ⟨A3, c3, rfl, _⟩ := sep_rwForm (i := 2) hS rfl; have HAT := Lib.hid hat; have HE2 := Lib.hid e2; have HSD := Lib.hid hS; obtain ⟨n, Hn⟩ : ∃ x, Hid (LP.length = x) := ⟨_, Lib.hid rfl⟩; clear hat e2 hS hseq HFX; rw [Hn.out] at HSD; have kl := cA (i := 8) HSD.out rfl 0 rfl; have ks := cA (i := 9) HSD.out rfl 11 rfl; have ys := cFz (i := 9) HSD.out rfl 11; have HS1 := Lib.hid (cS (i := 9) HSD.out rfl 11 (.int .u64 (now : Int))); have k0 := cA (i := 6) HS1.out rfl 0 rfl; have k1 := cA (i := 6) HS1.out rfl 1 rfl; have y0 := cFz (i := 7) HS1.out rfl 0; have y1 := cFz (i := 7) HS1.out rfl 1; have z0 := cA (i := 7) HS1.out rfl 0 rfl; have z1 := cA (i := 7) HS1.out rfl 1 rfl; have HSF := Lib.hid (cS (i := 7) (cS (i := 7) HS1.out rfl 0 (.slice A3 n c3)) rfl 1 (.slice AE mE cE))
       go_wp2_with fail
       have HSG := Lib.hid (sep_bkGone HSF.out); have k0 := cA (i := 6) HSG.out rfl 0 rfl; have k1 := cA (i := 6) HSG.out rfl 1 rfl; refine ⟨by simp, .inl ⟨_, _, rfl, run_takeDeferred (sep_bkAt' (i := 0) HSF.out rfl), ?_⟩⟩; refine ⟨.agg #[.slice A3 n c3, .slice AE mE cE], by simp [results, Try.results14, go_sem, k0, k1], ?_⟩; have eq2 : tT.again now = true := by rw [← HTT.out]; exact Hq2.out
       have edu : tT.due = items base LT := by
        rw [← HTT.out]; show items base (dueL base box) = _; rw [HDU.out, HLT.out]
       refine ⟨_, _, .slice BA box.length bc, LP, LE, rfl, ?_, HLE.out, ?_⟩
       ·rw [HT.out.2, eq2, HE2.out, map_items HAT.out tT.data, edu]; rfl
       ·rw [HT.out.1, eq2, HmE.out, HyE.out, HLB.out, Hn.out]; have hx := (((HSG.out.popF).drop 4).drop 4).drop 4; have hT := HTT.out; subst hT; exact hx
end Go.Proofs.Ytngegjboenfmeaa
/- What Take uses: telling and going down in its layout; a cell that a drawn region makes. -/
namespace Go.Proofs.Ytngegjboenfmeaa
open Go Go.RowKit Go.Shelf
set_option linter.unusedVariables false
set_option maxRecDepth 100000
set_option linter.unusedSimpArgs false

/-- the layouts in Take: the frame and the tick behind; then the closure's cells; then the last number's; then the receiver's -/
def TKa (w : World) (now g : Nat) (X : SP) (Qs : List SP) (fc : Array Value) (rf bf re be : SP) (oc lc : Array Value) (bt : SP) : List SP := TK (w.heap.size + 1 + 1 + 1 + 1) (w.heap.size + 1 + 1 + 1) w.heap.size g (Ce (w.heap.size + 1 + 1) 51 fc :: Ce (w.heap.size + 1) 28 #[.int .u64 (now : Int)] :: X :: Qs) rf bf re be oc lc bt
def TKq (w : World) (now g q1 q0 : Nat) (X : SP) (Qs : List SP) (fc : Array Value) (rf bf re be : SP) (oc lc : Array Value) (bt : SP) : List SP := TK (w.heap.size + 1 + 1 + 1 + 1) (w.heap.size + 1 + 1 + 1) w.heap.size g (Ce q1 92 #[.pointer (some ⟨w.heap.size + 1 + 1 + 1 + 1, 0, none⟩)] :: Ce q0 26 #[.pointer (some ⟨g, 0, none⟩)] :: Ce (w.heap.size + 1 + 1) 51 fc :: Ce (w.heap.size + 1) 28 #[.int .u64 (now : Int)] :: X :: Qs) rf bf re be oc lc bt
def TKl (w : World) (now g q1 q0 la la0 : Nat) (X : SP) (Qs : List SP) (fc : Array Value) (rf bf re be : SP) (oc lc : Array Value) (bt : SP) : List SP := TK (w.heap.size + 1 + 1 + 1 + 1) (w.heap.size + 1 + 1 + 1) w.heap.size g (Ce q1 92 #[.pointer (some ⟨w.heap.size + 1 + 1 + 1 + 1, 0, none⟩)] :: Ce q0 26 #[.pointer (some ⟨g, 0, none⟩)] :: Ce la 28 #[.int .u64 (la0 : Int)] :: Ce (w.heap.size + 1 + 1) 51 fc :: Ce (w.heap.size + 1) 28 #[.int .u64 (now : Int)] :: X :: Qs) rf bf re be oc lc bt
def TKr (w : World) (now g q1 q0 la la0 ra tv : Nat) (X : SP) (Qs : List SP) (fc : Array Value) (rf bf re be : SP) (oc lc : Array Value) (bt : SP) : List SP := TK (w.heap.size + 1 + 1 + 1 + 1) (w.heap.size + 1 + 1 + 1) w.heap.size g (Ce q1 92 #[.pointer (some ⟨w.heap.size + 1 + 1 + 1 + 1, 0, none⟩)] :: Ce q0 26 #[.pointer (some ⟨g, 0, none⟩)] :: Ce la 28 #[.int .u64 (la0 : Int)] :: Ce ra 70 #[.int .u64 (tv : Int)] :: Ce (w.heap.size + 1 + 1) 51 fc :: Ce (w.heap.size + 1) 28 #[.int .u64 (now : Int)] :: X :: Qs) rf bf re be oc lc bt
def TKaF (w : World) (now g : Nat) (X : SP) (Qs : List SP) (kk ffr fto : Int) (finc fconn pinc pconn ack seq : Nat) (A : Option Addr) (n c : Nat) (rf bf re be : SP) (oc lc : Array Value) (bt : SP) : List SP := TKa w now g X Qs #[.int .i64 kk, .int .i64 ffr, .int .i64 fto, .int .u64 (finc : Int), .int .u64 (fconn : Int), .int .u64 (pinc : Int), .int .u64 (pconn : Int), .int .u64 (ack : Int), .int .u64 (seq : Int), .slice A n c] rf bf re be oc lc bt
def TKqF (w : World) (now g q1 q0 : Nat) (X : SP) (Qs : List SP) (kk ffr fto : Int) (finc fconn pinc pconn ack seq : Nat) (A : Option Addr) (n c : Nat) (rf bf re be : SP) (oc lc : Array Value) (bt : SP) : List SP := TKq w now g q1 q0 X Qs #[.int .i64 kk, .int .i64 ffr, .int .i64 fto, .int .u64 (finc : Int), .int .u64 (fconn : Int), .int .u64 (pinc : Int), .int .u64 (pconn : Int), .int .u64 (ack : Int), .int .u64 (seq : Int), .slice A n c] rf bf re be oc lc bt
def TKlF (w : World) (now g q1 q0 la la0 : Nat) (X : SP) (Qs : List SP) (kk ffr fto : Int) (finc fconn pinc pconn ack seq : Nat) (A : Option Addr) (n c : Nat) (rf bf re be : SP) (oc lc : Array Value) (bt : SP) : List SP := TKl w now g q1 q0 la la0 X Qs #[.int .i64 kk, .int .i64 ffr, .int .i64 fto, .int .u64 (finc : Int), .int .u64 (fconn : Int), .int .u64 (pinc : Int), .int .u64 (pconn : Int), .int .u64 (ack : Int), .int .u64 (seq : Int), .slice A n c] rf bf re be oc lc bt
def TKrF (w : World) (now g q1 q0 la la0 ra tv : Nat) (X : SP) (Qs : List SP) (kk ffr fto : Int) (finc fconn pinc pconn ack seq : Nat) (A : Option Addr) (n c : Nat) (rf bf re be : SP) (oc lc : Array Value) (bt : SP) : List SP := TKr w now g q1 q0 la la0 ra tv X Qs #[.int .i64 kk, .int .i64 ffr, .int .i64 fto, .int .u64 (finc : Int), .int .u64 (fconn : Int), .int .u64 (pinc : Int), .int .u64 (pconn : Int), .int .u64 (ack : Int), .int .u64 (seq : Int), .slice A n c] rf bf re be oc lc bt
/-- a call's answer, and how the link stands then -/
def Ans (w0 : World) (g : Nat) (Qs : List SP) (F : List Fr) (E : List Ev) (s : LS) (e : Ending) (w' : World) : Prop :=
 ∃ vF vE bx' LP LE, e = .returned (.agg #[vF, vE]) ∧ LP.map Prod.fst = F ∧ LE.map Prod.fst = E ∧
  Sep w0 w' (Rw 51 10 vF LP.length (fR_ LP) :: Bods (fB_ LP) :: Rw 49 4 vE LE.length (eR_ LE) :: Bods (eB_ LE) :: Ce g 72 (s.cells bx') :: BoxT bx' s.box :: Qs)
/-- an event is told behind others; its body is there already -/
theorem tellTK {w0 w : World} {Qs : List SP} {o r l g q1 q0 base m : Nat} {rf bf be bt : SP} {bx vF vE : Value} {ys : List Value} {got : Nat} {sn : Int} {si : Nat} {peer : Int} {conn inc known heard sent : Nat} {up : Bool} (kind : Int) (BA : Option Addr) (bn bc : Nat)
  (h : Sep w0 w (TK o r l g (Ce q1 92 #[.pointer (some ⟨o, 0, none⟩)] :: Ce q0 26 #[.pointer (some ⟨g, 0, none⟩)] :: Qs) rf bf (Rw 49 4 vE m ys) be #[vF, vE] (lkCells base bx got sn si peer conn inc known up heard sent) bt)) (hsn : sn ≠ 0) (hm : m ≤ 1000000) :
  Calls Try.prog 56 #[.int .i64 kind, .slice BA bn bc, .pointer (some ⟨q1, 0, none⟩), .pointer (some ⟨q0, 0, none⟩)] w fun e w' => e = .returned (.tuple #[]) ∧ ∃ vE,
   Sep w0 w' (TK o r l g (Ce q1 92 #[.pointer (some ⟨o, 0, none⟩)] :: Ce q0 26 #[.pointer (some ⟨g, 0, none⟩)] :: Qs) rf bf (Rw 49 4 vE (m + 1) (ys ++ [.int .i64 kind, .int .i64 peer, .int .u64 (inc : Int), .slice BA bn bc])) be #[vF, vE] (lkCells base bx got sn si peer conn inc known up heard sent) bt) := by
 have h1 : Sep w0 w (Rw 49 4 vE m ys :: Ce o 43 #[vF, vE] :: Ce q1 92 #[.pointer (some ⟨o, 0, none⟩)] :: Ce q0 26 #[.pointer (some ⟨g, 0, none⟩)] :: Ce g 72 (lkCells base bx got sn si peer conn inc known up heard sent) :: rf :: bf :: be :: Ce r 43 #[.slice none 0 0, .slice none 0 0] :: Ce l 26 #[.pointer (some ⟨g, 0, none⟩)] :: bt :: Qs) := (((((((((((h).tF 8 rfl).tF 7 rfl).tF 7 rfl).tF 6 rfl).tF 5 rfl).tF 5 rfl).tF 8 rfl).tF 10 rfl).tF 10 rfl).tF 10 rfl).tF 10 rfl; refine (tellG kind BA bn bc h1 hsn hm).mono ?_; rintro e w' ⟨rfl, vE, h2⟩; exact ⟨rfl, vE, (((((((((((h2).tF 3 rfl).tF 3 rfl).tF 10 rfl).tF 5 rfl).tF 10 rfl).tF 10 rfl).tF 7 rfl).tF 10 rfl).tF 8 rfl).tF 10 rfl).tF 10 rfl⟩
/-- going down, up or not -/
theorem downAny {w0 w : World} {Qs : List SP} {o r l g q1 q0 : Nat} {rf bf : SP} {bx vF vE : Value} {s : LS}
  (h : Sep w0 w (TK o r l g (Ce q1 92 #[.pointer (some ⟨o, 0, none⟩)] :: Ce q0 26 #[.pointer (some ⟨g, 0, none⟩)] :: Qs) rf bf (Rw 49 4 vE 0 []) (Bods []) #[vF, vE] (s.cells bx) (BoxT bx s.box))) (hsn : s.sn ≠ 0) :
  Calls Try.prog 35 #[.pointer (some ⟨g, 0, none⟩), .func (.func 56) #[] #[.pointer (some ⟨q1, 0, none⟩), .pointer (some ⟨q0, 0, none⟩)]] w fun e w' => e = .returned (.tuple #[]) ∧ ∃ vE LE, LE.map Prod.fst = (if s.up then [s.ev 2 []] else []) ∧
   Sep w0 w' (TK o r l g (Ce q1 92 #[.pointer (some ⟨o, 0, none⟩)] :: Ce q0 26 #[.pointer (some ⟨g, 0, none⟩)] :: Qs) rf bf (Rw 49 4 vE LE.length (eR_ LE)) (Bods (eB_ LE)) #[vF, vE] (s.down.cells (.slice none 0 0)) (BoxT (.slice none 0 0) [])) := by
 obtain ⟨base, box, got, sn, si, peer, conn, inc, known, up, heard, sent⟩ := s; cases up with
 | false =>
  refine (sep_down0 (i := 7) h rfl).mono ?_; rintro e w' ⟨rfl, h2⟩; exact ⟨rfl, vE, [], rfl, sep_boxGone (i := 8) h2 rfl⟩
 | true =>
  have h1 : Sep w0 w (Ce q1 92 #[.pointer (some ⟨o, 0, none⟩)] :: Ce q0 26 #[.pointer (some ⟨g, 0, none⟩)] :: TK o r l g Qs rf bf (Rw 49 4 vE 0 []) (Bods []) #[vF, vE] (lkCells base bx got sn si peer conn inc known true heard sent) (BoxT bx box)) := (((((((((((h).tF 8 rfl).tF 8 rfl).tF 8 rfl).tF 8 rfl).tF 8 rfl).tF 8 rfl).tF 8 rfl).tF 8 rfl).tF 8 rfl).tF 10 rfl).tF 10 rfl; refine (downKeep h1 hsn (by omega)).mono ?_; rintro e w' ⟨rfl, vE, h2⟩; exact ⟨rfl, vE, [(⟨2, peer, inc, []⟩, .slice none 0 0)], rfl, (((((((((((h2).tF 1 rfl).tF 1 rfl).tF 10 rfl).tF 10 rfl).tF 10 rfl).tF 10 rfl).tF 10 rfl).tF 10 rfl).tF 10 rfl).tF 10 rfl).tF 10 rfl⟩
/-- a cell that a drawn region makes, then writes -/
def CellSt (t : TypeId) (d1 d2 : Bool) (v : Value) (w0 W : World) (Ps : List SP) (x : Value) : Prop :=
 if d2 = true then ∃ a, v = .pointer (some ⟨a, 0, none⟩) ∧ Sep w0 W (Ce a t #[x] :: Ps) else if d1 = true then ∃ a, v = .pointer (some ⟨a, 0, none⟩) ∧ Sep w0 W (Ce a t #[.int .u64 0] :: Ps) else Sep w0 W Ps
theorem CellSt.sep {t : TypeId} {d1 d2 : Bool} {v : Value} {w0 W : World} {Ps : List SP} {x : Value} (h : CellSt t d1 d2 v w0 W Ps x) : Sep w0 W Ps := by
 unfold CellSt at h; split at h
 ·obtain ⟨_, _, h⟩ := h; exact h.popF
 ·split at h
  ·obtain ⟨_, _, h⟩ := h; exact h.popF
  ·exact h
theorem CellSt.grow {t : TypeId} {d1 d2 : Bool} {v : Value} {w0 W W' : World} {Ps : List SP} {x : Value} (h : CellSt t d1 d2 v w0 W Ps x) (hb : Below W.heap.size W W') : CellSt t d1 d2 v w0 W' Ps x := by
 unfold CellSt at *; split at h
 ·obtain ⟨a, e, h⟩ := h; rw [if_pos ‹_›]; exact ⟨a, e, h.grow hb⟩
 ·rw [if_neg ‹_›]; split at h
  ·obtain ⟨a, e, h⟩ := h; rw [if_pos ‹_›]; exact ⟨a, e, h.grow hb⟩
  ·rw [if_neg ‹_›]; exact h.grow hb
theorem CellSt.made {t : TypeId} {v : Value} {w0 W : World} {Ps : List SP} {x : Value} (h : CellSt t false false v w0 W Ps x) : CellSt t true false (.pointer (some ⟨W.heap.size, 0, none⟩)) w0 (W.alloc (.cells #[.int .u64 0] t)) Ps x := by
 have h1 : Sep w0 W Ps := by simpa [CellSt] using h
 exact ⟨_, rfl, sep_ceF h1 _ _⟩
theorem CellSt.have1 {t : TypeId} {v : Value} {w0 W : World} {Ps : List SP} {x : Value} (h : CellSt t true false v w0 W Ps x) : ∃ a, v = .pointer (some ⟨a, 0, none⟩) ∧ Sep w0 W (Ce a t #[.int .u64 0] :: Ps) := by simpa [CellSt] using h
theorem CellSt.have2 {t : TypeId} {d1 : Bool} {v : Value} {w0 W : World} {Ps : List SP} {x : Value} (h : CellSt t d1 true v w0 W Ps x) : ∃ a, v = .pointer (some ⟨a, 0, none⟩) ∧ Sep w0 W (Ce a t #[x] :: Ps) := by simpa [CellSt] using h
theorem CellSt.put {t : TypeId} {a : Nat} {d1 : Bool} {w0 W : World} {Ps : List SP} {x : Value} (h : Sep w0 W (Ce a t #[.int .u64 0] :: Ps)) : CellSt t d1 true (.pointer (some ⟨a, 0, none⟩)) w0 (W.setCell ⟨a, 0, none⟩ x) Ps x := by
 have h1 : Sep w0 (W.setCell ⟨a, 0, none⟩ x) (Ce a t #[x] :: Ps) := cS (i := 0) h rfl 0 x; unfold CellSt; rw [if_pos rfl]; exact ⟨a, rfl, h1⟩
/-- Acked's answer, ahead of the store -/
def AckSt (v : Value) (w0 W : World) (b : Nat) (ok : Bool) (L : List (List UInt8)) (Ps : List SP) : Prop :=
 ∃ u, v = .tuple #[.agg #[.int .u64 (b : Int), u], .bool ok] ∧ Sep w0 W (BoxT u L :: Ps)
def AckSt2 (v : Value) (w0 W : World) (b : Nat) (L : List (List UInt8)) (Ps : List SP) : Prop :=
 ∃ u, v = .agg #[.int .u64 (b : Int), u] ∧ Sep w0 W (BoxT u L :: Ps)
/-- a list of things, with a slice's place and room found -/
def ExL (w0 W : World) (L : Option Addr → Nat → List SP) : Prop := ∃ A c, Sep w0 W (L A c)
theorem sep_boxBx {w0 w : World} {Ps : List SP} {i n c : Nat} {A : Option Addr} {L : List (List UInt8)} (h : Sep w0 w Ps) (hi : Ps[i]? = some (BoxT (.slice A n c) L)) (hL : ∀ l ∈ L, l.length ≤ 140737488355328) : n = L.length ∧ L.length ≤ c ∧ c ≤ maxLen ∧ Bx w w.heap.size A L := by
 obtain ⟨A', c', e, h1, h2, h3⟩ := sep_boxForm h hi hL; simp only [Value.slice.injEq] at e; obtain ⟨rfl, rfl, rfl⟩ := e; exact ⟨rfl, h1, h2, h3⟩
end Go.Proofs.Ytngegjboenfmeaa
/- Send of any link. -/
namespace Go.Proofs.Ytngegjboenfmeaa
open Go Go.RowKit Go.Shelf
set_option linter.unusedVariables false
set_option maxRecDepth 100000
set_option linter.unusedSimpArgs false

/-- what lies at hand in Send: the answer's frames, their bodies, the answer, the result, the link, its box -/
def SK (o r g : Nat) (Qs : List SP) (rf bf : SP) (oc lc : Array Value) (bt : SP) : List SP := rf :: bf :: Ce o 43 oc :: Ce r 43 #[.slice none 0 0, .slice none 0 0] :: Ce g 72 lc :: bt :: Qs
def ExV (w0 W : World) (L : Value → Value → List SP) : Prop := ∃ u v, Sep w0 W (L u v)
/-- Send's answer, and how the link stands then -/
def SAns (w0 : World) (g : Nat) (Qs : List SP) (F : List Fr) (E : Nat) (s : LS) (e : Ending) (w' : World) : Prop :=
 ∃ vF bx' LP, e = .returned (.tuple #[.agg #[vF, .slice none 0 0], .int .i64 (E : Int)]) ∧ LP.map Prod.fst = F ∧
  Sep w0 w' (Rw 51 10 vF LP.length (fR_ LP) :: Bods (fB_ LP) :: Ce g 72 (s.cells bx') :: BoxT bx' s.box :: Qs)
theorem LS.Num.send {s : LS} (h : s.Num) {now : Nat} (hn : now < 18446744073709551616) (b : List UInt8) : (s.send now b).Num := by
 unfold LS.send; split
 ·rename_i he
  unfold LS.sendE at he; split at he
  ·unfold pushE at he; rw [if_neg (by rw [h.may]; simp)] at he; split at he
   ·simp at he
   rename_i hb
   split at he
   ·simp at he
   rename_i hc
   have hb2 : bodyB b = true := by simpa using hb
   have h1 := h.base; refine ⟨h.sn, ?_, ?_, ?_, h.got, h.heard, ?_⟩
   ·simp only [List.length_append, List.length_singleton]; omega
   ·simp only [List.length_append, List.length_singleton]; omega
   ·intro l hl
    rcases List.mem_append.1 hl with hl | hl
    ·exact h.bodies l hl
    ·rw [List.mem_singleton.1 hl]; exact hb2
   ·simp only; split
    ·exact hn
    ·exact h.sent
  ·simp at he
 ·exact h
set_option maxHeartbeats 12800000 in
theorem sendG {w0 w : World} {Qs : List SP} {X : SP} {g now : Nat} {s : LS} {b : List UInt8} {bx : Value} {A : Option Addr} {c : Nat} (h : Sep w0 w (Ce g 72 (s.cells bx) :: BoxT bx s.box :: X :: Qs)) (hX : Reads X A b) (hs : s.Num) (hbl : b.length ≤ 1000000) :
  Calls Try.prog 21 #[.pointer (some ⟨g, 0, none⟩), .int .u64 (now : Int), .slice A b.length c] w (SAns w0 g (X :: Qs) (s.sendF b) (s.sendE b) (s.send now b)) := by
 obtain ⟨BA, bc, rfl, hcc, hcm, hbx⟩ := sep_boxForm (i := 1) h rfl hs.small; have HBX := Lib.hid hbx; have HOK := Lib.hid hs; obtain ⟨sS, HSS⟩ : ∃ x, Hid (s = x) := ⟨_, Lib.hid rfl⟩
 suffices hgoal : Calls Try.prog 21 #[.pointer (some ⟨g, 0, none⟩), .int .u64 (now : Int), .slice A b.length c] w (SAns w0 g (X :: Qs) (sS.sendF b) (sS.sendE b) (sS.send now b)) by
  rw [HSS.out]; exact hgoal
 obtain ⟨base, box, got, sn, si, peer, conn, inc, known, up, heard, sent⟩ := s; have hsn : sn ≠ 0 := hs.sn; have HSN := Lib.hid hsn; have hbb : base + box.length ≤ 34359738367 := hs.base; have hb48 : box.length ≤ 48 := hs.box; have HFIT : Hid (Fit box) := Lib.hid hs.fit; have HX : Hid (Reads X A b) := Lib.hid hX; have HS0 := Lib.hid (show Sep w0 (w.alloc (.cells #[.slice none 0 0, .slice none 0 0] 43)) (Ce w.heap.size 43 #[.slice none 0 0, .slice none 0 0] :: Ce g 72 #[.int .u64 (base : Int), .slice BA box.length bc, .int .u64 (got : Int), .int .i64 sn, .int .u64 (si : Int), .int .i64 peer, .int .u64 (conn : Int), .int .u64 (inc : Int), .int .u64 (known : Int), .bool up, .int .u64 (heard : Int), .int .u64 (sent : Int)] :: BoxT (.slice BA box.length bc) box :: X :: Qs) from sep_ceF h #[.slice none 0 0, .slice none 0 0] 43); clear h hs hsn hX hbx; cases up with
 | false =>
  have k3 := cA (i := 1) HS0.out rfl 9 rfl; have y0 := cFz (i := 0) HS0.out rfl 0; have y1 := cFz (i := 0) HS0.out rfl 1; have HSF := Lib.hid (cS (i := 0) (cS (i := 0) HS0.out rfl 0 (.slice none 0 0)) rfl 1 (.slice none 0 0)); go_enter Try.func21, Try.ntmps21
  go_wp2_with fail
  refine (made_yes _ g sn HSN.out (cA (i := 1) HS0.out rfl 3 rfl)).mono ?_; rintro e w1 ⟨rfl, hb1⟩; have HS1 := Lib.hid (HS0.out.grow hb1); have k9 := cA (i := 1) HS1.out rfl 9 rfl; have y0 := cFz (i := 0) HS1.out rfl 0; have y1 := cFz (i := 0) HS1.out rfl 1; have z0 := cA (i := 0) HS1.out rfl 0 rfl; have z1 := cA (i := 0) HS1.out rfl 1 rfl; clear HSF k3; have HSF := Lib.hid (cS (i := 0) (cS (i := 0) HS1.out rfl 0 (.slice none 0 0)) rfl 1 (.slice none 0 0))
  go_wp2_with fail
  have k0 := cA (i := 0) HSF.out rfl 0 rfl; have k1 := cA (i := 0) HSF.out rfl 1 rfl; refine bodyPost_ret (v := .tuple #[.agg #[.slice none 0 0, .slice none 0 0], .int .i64 7]) (by simp [results, Try.results21, go_sem, k0, k1]) rfl ?_; have hE : sS.sendE b = 7 := by rw [← HSS.out]; rfl
  refine ⟨_, .slice BA box.length bc, [], by rw [hE]; rfl, ?_, ?_⟩
  ·rw [LS.sendF, if_neg (by rw [hE]; simp)]; rfl
  ·rw [LS.send, if_neg (by rw [hE]; simp), ← HSS.out]; exact sep_bodsNil (sep_rwNil HSF.out.popF 51 10).lastFront |> fun h => h.tF 1 rfl
 | true =>
  have HEE : Hid (sS.sendE b = pushE base box b) := Lib.hid (by rw [← HSS.out]; rfl); go_enter Try.func21, Try.ntmps21
  go_wp2_with fail
  refine (made_yes _ g sn HSN.out (cA (i := 1) HS0.out rfl 3 rfl)).mono ?_; rintro e w1 ⟨rfl, hb1⟩; have HS1 := Lib.hid (HS0.out.grow hb1); have HBX1 : Hid (Bx w1 w1.heap.size BA box) := Lib.hid (sep_boxBx (i := 2) HS1.out rfl (fun l hl => by have := HFIT.out.2 l hl; omega)).2.2.2; have k9 := cA (i := 1) HS1.out rfl 9 rfl; have kb := cA (i := 1) HS1.out rfl 0 rfl; have kx := cA (i := 1) HS1.out rfl 1 rfl
  go_wp2_with fail
  refine (push_any w1 base BA bc box A c b HBX1.out (sep_reads (i := 3) HS1.out rfl HX.out) (by omega) HFIT.out hbl).mono ?_; rintro e w2 ⟨hb2, (⟨hne, rfl⟩ | ⟨h0, v, rfl, ho⟩)⟩
  ·have HS2 := Lib.hid (HS1.out.grow hb2); have y0 := cFz (i := 1) (sep_ceF HS2.out #[.int .u64 0, .slice none 0 0] 68) rfl 0; have y1 := cFz (i := 1) (sep_ceF HS2.out #[.int .u64 0, .slice none 0 0] 68) rfl 1; have z0 := cA (i := 1) (sep_ceF HS2.out #[.int .u64 0, .slice none 0 0] 68) rfl 0 rfl; have z1 := cA (i := 1) (sep_ceF HS2.out #[.int .u64 0, .slice none 0 0] 68) rfl 1 rfl; have HSF := Lib.hid (cS (i := 1) (cS (i := 1) (sep_ceF HS2.out #[.int .u64 0, .slice none 0 0] 68) rfl 0 (.slice none 0 0)) rfl 1 (.slice none 0 0)); obtain ⟨ee, Hee⟩ : ∃ x, Hid (pushE base box b = x) := ⟨_, Lib.hid rfl⟩; rw [Hee.out] at hne ⊢; have en : ((ee : Int) != 0) = true := by simp; omega
   clear k9 kb kx hne
   go_wp2_with fail
   have k0 := cA (i := 1) HSF.out rfl 0 rfl; have k1 := cA (i := 1) HSF.out rfl 1 rfl; refine bodyPost_ret (v := .tuple #[.agg #[.slice none 0 0, .slice none 0 0], .int .i64 (ee : Int)]) (by simp [results, Try.results21, go_sem, k0, k1]) rfl ?_; have hE : sS.sendE b = ee := by rw [HEE.out]; exact Hee.out
   have hne : ¬ sS.sendE b = 0 := by rw [hE]; intro h; rw [h] at en; simp at en
   refine ⟨_, .slice BA box.length bc, [], by rw [hE], ?_, ?_⟩
   ·rw [LS.sendF, if_neg (fun h => hne h.1)]; rfl
   ·rw [LS.send, if_neg hne, ← HSS.out]; exact sep_bodsNil (sep_rwNil HSF.out.popF.popF 51 10).lastFront |> fun h => h.tF 1 rfl
  ·have HE : Hid (sS.sendE b = 0) := Lib.hid (by rw [HEE.out]; exact h0); have hlen : (box ++ [b]).length = box.length + 1 := by simp
   have hsm : ∀ l ∈ box ++ [b], l.length ≤ 140737488355328 := by
    intro l hl
    rcases List.mem_append.1 hl with hl | hl
    ·have := HFIT.out.2 l hl; omega
    ·rw [List.mem_singleton.1 hl]; omega
   have hsb := sep_boxNew HS1.out hb2 ho; obtain ⟨Au, cu, rfl, _⟩ := sep_boxForm (i := 0) hsb rfl hsm; obtain ⟨n1, Hn1⟩ : ∃ x, Hid (box.length + 1 = x) := ⟨_, Lib.hid rfl⟩; have hn1 : n1 = box.length + 1 := Hn1.out.symm; have hn49 : n1 ≤ 49 := by omega
   have hbn : base + n1 ≤ 34359738368 := by omega
   rw [hlen, Hn1.out] at hsb; have HS3 := Lib.hid (sep_ceF hsb #[.int .u64 (base : Int), .slice Au n1 cu] 68); have y0 := cFz (i := 3) HS3.out rfl 0; have y1 := cFz (i := 3) HS3.out rfl 1; have z0 := cA (i := 3) HS3.out rfl 0 rfl; have z1 := cA (i := 3) HS3.out rfl 1 rfl; have HS6 := Lib.hid (((cS (i := 3) (cS (i := 3) HS3.out rfl 0 (.int .u64 (base : Int))) rfl 1 (.slice Au n1 cu)).drop 4).popF); have HS7 := Lib.hid (sep_bodsNil (sep_rwNil (sep_ceF HS6.out #[.slice none 0 0, .slice none 0 0] 43) 51 10).lastFront); obtain ⟨LB1, HLB1⟩ : ∃ x, Hid (box ++ [b] = x) := ⟨_, Lib.hid rfl⟩; rw [HLB1.out] at HS7; rw [hlen, Hn1.out]; have kx := cA (v := .slice Au n1 cu) (i := 5) HS7.out rfl 1 rfl; have HSL : Hid (∀ W : World, W.heap.size = w2.heap.size → True) := Lib.hid (fun _ _ => trivial); have HS8 : Hid (Sep w0 ((((w2.alloc (.cells #[.int .u64 (base : Int), .slice Au n1 cu] 68)).setCell ⟨g, 0, none⟩ (.int .u64 (base : Int))).setCell ⟨g, 1, none⟩ (.slice Au n1 cu)).alloc (.cells #[.slice none 0 0, .slice none 0 0] 43)) (SK (w2.heap.size + 1) w.heap.size g (X :: Qs) (Rw 51 10 (.slice none 0 0) 0 []) (Bods []) (#[.slice none 0 0, .slice none 0 0]) (#[.int .u64 (base : Int), .slice Au n1 cu, .int .u64 (got : Int), .int .i64 sn, .int .u64 (si : Int), .int .i64 peer, .int .u64 (conn : Int), .int .u64 (inc : Int), .int .u64 (known : Int), .bool true, .int .u64 (heard : Int), .int .u64 (sent : Int)]) (BoxT (.slice Au n1 cu) LB1))) := Lib.hid (by
    have hx := HS7.out; simp only [World.size_setCell, World.size_alloc] at hx; exact ((((((hx).tF 3 rfl).tF 5 rfl).tF 5 rfl).tF 5 rfl).tF 4 rfl).tF 5 rfl)
   clear HS0 HS1 HBX HBX1 HSN HEE hsb ho h0 hlen hb2 k9 kb hcc hcm
   by_cases hle : n1 ≤ 8
   ·have el : decide ((n1 : Int) ≤ 8) = true := decide_eq_true (by omega); have HLE := Lib.hid hle; obtain ⟨la0, Hla⟩ : ∃ x, Hid (base + n1 = x) := ⟨_, Lib.hid rfl⟩; have HLA := Lib.hid (fun (W : World) k0 k1 => show Calls Try.prog 41 #[.pointer (some ⟨g, 0, none⟩)] W (fun e w' => e = .returned (.int .u64 (la0 : Int)) ∧ Below W.heap.size W w') from by
     have hq := lastG W g base n1 cu Au (by omega) (by omega) k0 k1; rw [← Hla.out]; rw [Nat.min_eq_left hle] at hq
     push_cast at hq ⊢
     exact hq)
    obtain ⟨daV, HDV⟩ : ∃ f : Value → Array Value, Hid (f = fun u => #[.int .i64 2, .int .i64 sn, .int .i64 peer, .int .u64 (si : Int), .int .u64 (conn : Int), .int .u64 (inc : Int), .int .u64 (known : Int), .int .u64 (got : Int), .int .u64 (la0 : Int), u]) := ⟨_, Lib.hid rfl⟩; have HDX : Hid (∀ u, daV u = #[.int .i64 2, .int .i64 sn, .int .i64 peer, .int .u64 (si : Int), .int .u64 (conn : Int), .int .u64 (inc : Int), .int .u64 (known : Int), .int .u64 (got : Int), .int .u64 (la0 : Int), u]) := Lib.hid (fun u => by rw [HDV.out]); have HX1 : Hid (∀ u : Value, u.oneCell' = true → ∀ x ∈ (daV u).toList, x.oneCell' = true) := Lib.hid (by
     intro u hu x hx; rw [HDX.out] at hx; simp only [List.mem_cons, List.not_mem_nil, or_false] at hx
     rcases hx with rfl | rfl | rfl | rfl | rfl | rfl | rfl | rfl | rfl | rfl <;> first | exact hu | rfl)
    have HDA := Lib.hid (fun (W : World) (Av : Option Addr) (cv : Nat) hh => show Calls Try.prog 39 #[.pointer (some ⟨g, 0, none⟩), .int .u64 (la0 : Int), .slice Av b.length cv] W (fun e w' => e = .returned (.agg (daV (.slice Av b.length cv))) ∧ Below W.heap.size W w') from by
     have hq := dataG W g base (.slice Au n1 cu) got sn si peer conn inc known true heard sent (la0 : Int) Av b.length cv hh; rw [HDX.out]; exact hq)
    obtain ⟨vF, HvF⟩ : ∃ x, Hid (Value.slice none 0 0 = x) := ⟨_, Lib.hid rfl⟩; have HS8' : Hid (Sep w0 ((((w2.alloc (.cells #[.int .u64 (base : Int), .slice Au n1 cu] 68)).setCell ⟨g, 0, none⟩ (.int .u64 (base : Int))).setCell ⟨g, 1, none⟩ (.slice Au n1 cu)).alloc (.cells #[.slice none 0 0, .slice none 0 0] 43)) (SK (w2.heap.size + 1) w.heap.size g (X :: Qs) (Rw 51 10 vF 0 []) (Bods []) (#[vF, .slice none 0 0]) (#[.int .u64 (base : Int), .slice Au n1 cu, .int .u64 (got : Int), .int .i64 sn, .int .u64 (si : Int), .int .i64 peer, .int .u64 (conn : Int), .int .u64 (inc : Int), .int .u64 (known : Int), .bool true, .int .u64 (heard : Int), .int .u64 (sent : Int)]) (BoxT (.slice Au n1 cu) LB1))) := Lib.hid (by rw [← HvF.out]; exact HS8.out); have HS8 := HS8'; clear HS8'; have HKO : ∀ (dn : Nat → Bool) (xv : Nat → Value) (W : World), (if dn 11 = true then ExV w0 W (fun vF u => (SK (w2.heap.size + 1) w.heap.size g (X :: Qs) (Rw 51 10 vF (0 + 1) ([] ++ (daV u).toList)) (Bods [(u, b)]) (#[vF, .slice none 0 0]) (#[.int .u64 (base : Int), .slice Au n1 cu, .int .u64 (got : Int), .int .i64 sn, .int .u64 (si : Int), .int .i64 peer, .int .u64 (conn : Int), .int .u64 (inc : Int), .int .u64 (known : Int), .bool true, .int .u64 (heard : Int), .int .u64 (sent : Int)]) (BoxT (.slice Au n1 cu) LB1))) else if dn 9 = true then Sep w0 W (SK (w2.heap.size + 1) w.heap.size g (X :: Qs) (Rw 51 10 (xv 9) (0 + 1) ([] ++ (daV (xv 6)).toList)) (Bods [(xv 6, b)]) (#[vF, .slice none 0 0]) (#[.int .u64 (base : Int), .slice Au n1 cu, .int .u64 (got : Int), .int .i64 sn, .int .u64 (si : Int), .int .i64 peer, .int .u64 (conn : Int), .int .u64 (inc : Int), .int .u64 (known : Int), .bool true, .int .u64 (heard : Int), .int .u64 (sent : Int)]) (BoxT (.slice Au n1 cu) LB1)) else if dn 8 = true then Sep w0 W (SK (w2.heap.size + 1) w.heap.size g (X :: Qs) (Rw 51 10 vF 0 []) (Bods [(xv 6, b)]) (#[vF, .slice none 0 0]) (#[.int .u64 (base : Int), .slice Au n1 cu, .int .u64 (got : Int), .int .i64 sn, .int .u64 (si : Int), .int .i64 peer, .int .u64 (conn : Int), .int .u64 (inc : Int), .int .u64 (known : Int), .bool true, .int .u64 (heard : Int), .int .u64 (sent : Int)]) (BoxT (.slice Au n1 cu) LB1)) ∧ OneF (daV (xv 6)).toList (xv 8) W else if dn 7 = true then Sep w0 W (SK (w2.heap.size + 1) w.heap.size g (X :: Qs) (Rw 51 10 vF 0 []) (Bods [(xv 6, b)]) (#[vF, .slice none 0 0]) (#[.int .u64 (base : Int), .slice Au n1 cu, .int .u64 (got : Int), .int .i64 sn, .int .u64 (si : Int), .int .i64 peer, .int .u64 (conn : Int), .int .u64 (inc : Int), .int .u64 (known : Int), .bool true, .int .u64 (heard : Int), .int .u64 (sent : Int)]) (BoxT (.slice Au n1 cu) LB1)) ∧ Hid (xv 7 = .agg (daV (xv 6))) else if dn 6 = true then Sep w0 W (SK (w2.heap.size + 1) w.heap.size g (X :: Qs) (Rw 51 10 vF 0 []) (Bods [(xv 6, b)]) (#[vF, .slice none 0 0]) (#[.int .u64 (base : Int), .slice Au n1 cu, .int .u64 (got : Int), .int .i64 sn, .int .u64 (si : Int), .int .i64 peer, .int .u64 (conn : Int), .int .u64 (inc : Int), .int .u64 (known : Int), .bool true, .int .u64 (heard : Int), .int .u64 (sent : Int)]) (BoxT (.slice Au n1 cu) LB1)) else Sep w0 W (SK (w2.heap.size + 1) w.heap.size g (X :: Qs) (Rw 51 10 vF 0 []) (Bods []) (#[vF, .slice none 0 0]) (#[.int .u64 (base : Int), .slice Au n1 cu, .int .u64 (got : Int), .int .i64 sn, .int .u64 (si : Int), .int .i64 peer, .int .u64 (conn : Int), .int .u64 (inc : Int), .int .u64 (known : Int), .bool true, .int .u64 (heard : Int), .int .u64 (sent : Int)]) (BoxT (.slice Au n1 cu) LB1))) → dn 11 = false → W.cell? ⟨w2.heap.size + 1, 0, none⟩ = some vF := fun dn xv W h h0 => by
     rw [if_neg (by simp [h0])] at h; split at h
     ·exact cA (i := 2) h rfl 0 rfl
     split at h
     ·exact cA (i := 2) h.1 rfl 0 rfl
     split at h
     ·exact cA (i := 2) h.1 rfl 0 rfl
     split at h
     ·exact cA (i := 2) h rfl 0 rfl
     exact cA (i := 2) h rfl 0 rfl
    clear hle hn1
    go_wp2_with fail
    refine wRG (fun dn xv W => if dn 11 = true then ExV w0 W (fun vF u => (SK (w2.heap.size + 1) w.heap.size g (X :: Qs) (Rw 51 10 vF (0 + 1) ([] ++ (daV u).toList)) (Bods [(u, b)]) (#[vF, .slice none 0 0]) (#[.int .u64 (base : Int), .slice Au n1 cu, .int .u64 (got : Int), .int .i64 sn, .int .u64 (si : Int), .int .i64 peer, .int .u64 (conn : Int), .int .u64 (inc : Int), .int .u64 (known : Int), .bool true, .int .u64 (heard : Int), .int .u64 (sent : Int)]) (BoxT (.slice Au n1 cu) LB1))) else if dn 9 = true then Sep w0 W (SK (w2.heap.size + 1) w.heap.size g (X :: Qs) (Rw 51 10 (xv 9) (0 + 1) ([] ++ (daV (xv 6)).toList)) (Bods [(xv 6, b)]) (#[vF, .slice none 0 0]) (#[.int .u64 (base : Int), .slice Au n1 cu, .int .u64 (got : Int), .int .i64 sn, .int .u64 (si : Int), .int .i64 peer, .int .u64 (conn : Int), .int .u64 (inc : Int), .int .u64 (known : Int), .bool true, .int .u64 (heard : Int), .int .u64 (sent : Int)]) (BoxT (.slice Au n1 cu) LB1)) else if dn 8 = true then Sep w0 W (SK (w2.heap.size + 1) w.heap.size g (X :: Qs) (Rw 51 10 vF 0 []) (Bods [(xv 6, b)]) (#[vF, .slice none 0 0]) (#[.int .u64 (base : Int), .slice Au n1 cu, .int .u64 (got : Int), .int .i64 sn, .int .u64 (si : Int), .int .i64 peer, .int .u64 (conn : Int), .int .u64 (inc : Int), .int .u64 (known : Int), .bool true, .int .u64 (heard : Int), .int .u64 (sent : Int)]) (BoxT (.slice Au n1 cu) LB1)) ∧ OneF (daV (xv 6)).toList (xv 8) W else if dn 7 = true then Sep w0 W (SK (w2.heap.size + 1) w.heap.size g (X :: Qs) (Rw 51 10 vF 0 []) (Bods [(xv 6, b)]) (#[vF, .slice none 0 0]) (#[.int .u64 (base : Int), .slice Au n1 cu, .int .u64 (got : Int), .int .i64 sn, .int .u64 (si : Int), .int .i64 peer, .int .u64 (conn : Int), .int .u64 (inc : Int), .int .u64 (known : Int), .bool true, .int .u64 (heard : Int), .int .u64 (sent : Int)]) (BoxT (.slice Au n1 cu) LB1)) ∧ Hid (xv 7 = .agg (daV (xv 6))) else if dn 6 = true then Sep w0 W (SK (w2.heap.size + 1) w.heap.size g (X :: Qs) (Rw 51 10 vF 0 []) (Bods [(xv 6, b)]) (#[vF, .slice none 0 0]) (#[.int .u64 (base : Int), .slice Au n1 cu, .int .u64 (got : Int), .int .i64 sn, .int .u64 (si : Int), .int .i64 peer, .int .u64 (conn : Int), .int .u64 (inc : Int), .int .u64 (known : Int), .bool true, .int .u64 (heard : Int), .int .u64 (sent : Int)]) (BoxT (.slice Au n1 cu) LB1)) else Sep w0 W (SK (w2.heap.size + 1) w.heap.size g (X :: Qs) (Rw 51 10 vF 0 []) (Bods []) (#[vF, .slice none 0 0]) (#[.int .u64 (base : Int), .slice Au n1 cu, .int .u64 (got : Int), .int .i64 sn, .int .u64 (si : Int), .int .i64 peer, .int .u64 (conn : Int), .int .u64 (inc : Int), .int .u64 (known : Int), .bool true, .int .u64 (heard : Int), .int .u64 (sent : Int)]) (BoxT (.slice Au n1 cu) LB1))) (fun _ _ => True) [xP_ (w2.heap.size + 1) 0, xV_ vF, xP_ g 0, xP_ g 0, xV_ (.int .u64 (la0 : Int)), xV_ (.slice A b.length c), fun v _ => True, fun v _ => True, fun v _ => True, fun v _ => True, xP_ (w2.heap.size + 1) 0, fun v _ => True] (fun xv => by simpa using HS8.out.drew) ?_ ?_
    ·refine Ep 1 10 (w2.heap.size + 1) 0 ?_
     refine EC 2 rfl (fun g h W F a b c d e H K f => ?_) ?_
     ·have f46 := gE (a 46) (by kernel_rfl) (H 0) (by kernel_rfl); have kk := HKO g h W e (c 11 (uM 9 uE)); clear H c b d a; refine oP rfl ?_; go_simp; exact f.out _ _ rfl trivial e
     refine Ep 3 0 g 0 ?_
     refine Ep 4 0 g 0 ?_
     refine EC 5 rfl (fun l m W F a c d f h H K k => ?_) ?_
     ·have f49 := gE (a 49) (by kernel_rfl) (H 3) (by kernel_rfl); have q7 := d 7 uE; have q8 := d 8 (uM 7 uE); have q9 := d 9 (uM 8 (uM 7 uE)); have q11 := d 11 (uM 9 (uM 8 (uM 7 uE))); clear H d c f a; refine oP rfl ?_; go_simp; cases h6 : l 6 with
       | false =>
        have hS : Sep w0 W (SK (w2.heap.size + 1) w.heap.size g (X :: Qs) (Rw 51 10 vF 0 []) (Bods []) (#[vF, .slice none 0 0]) (#[.int .u64 (base : Int), .slice Au n1 cu, .int .u64 (got : Int), .int .i64 sn, .int .u64 (si : Int), .int .i64 peer, .int .u64 (conn : Int), .int .u64 (inc : Int), .int .u64 (known : Int), .bool true, .int .u64 (heard : Int), .int .u64 (sent : Int)]) (BoxT (.slice Au n1 cu) LB1)) := by simpa [q7, q8, q9, q11, h6] using h
        refine (HLA.out W (cA (i := 4) hS rfl 0 rfl) (cA (i := 4) hS rfl 1 rfl)).mono ?_; rintro e W' ⟨rfl, hb⟩; have hs := hS.grow hb; exact k.out _ W' rfl trivial (by simpa [upB, upd, q7, q8, q9, q11, h6] using hs)
       | true =>
        have hS : Sep w0 W (SK (w2.heap.size + 1) w.heap.size g (X :: Qs) (Rw 51 10 vF 0 []) (Bods [(m 6, b)]) (#[vF, .slice none 0 0]) (#[.int .u64 (base : Int), .slice Au n1 cu, .int .u64 (got : Int), .int .i64 sn, .int .u64 (si : Int), .int .i64 peer, .int .u64 (conn : Int), .int .u64 (inc : Int), .int .u64 (known : Int), .bool true, .int .u64 (heard : Int), .int .u64 (sent : Int)]) (BoxT (.slice Au n1 cu) LB1)) := by simpa [q7, q8, q9, q11, h6] using h
        refine (HLA.out W (cA (i := 4) hS rfl 0 rfl) (cA (i := 4) hS rfl 1 rfl)).mono ?_; rintro e W' ⟨rfl, hb⟩; have hs := hS.grow hb; exact k.out _ W' rfl trivial (by simpa [upB, upd, q7, q8, q9, q11, h6] using hs)
     refine Ei 6 2 (.slice A b.length c) ?_
     refine EC 7 rfl (fun m n W F a d f h k H K l => ?_) ?_
     ·have f51 := gE (a 51) (by kernel_rfl) (H 5) (by kernel_rfl); have q7 := f 7 uE; have q8 := f 8 (uM 7 uE); have q9 := f 9 (uM 8 (uM 7 uE)); have q11 := f 11 (uM 9 (uM 8 (uM 7 uE))); rw [if_neg (by simp [q11]), if_neg (by simp [q9]), if_neg (by simp [q8]), if_neg (by simp [q7]), if_neg (by simp [d])] at k; have hS := k; clear k f d h a H; refine oP rfl ?_; go_simp; refine (clone_any W W.heap.size A c b (sep_reads (i := 6) hS rfl HX.out) (Nat.le_refl _) (by omega)).mono ?_; rintro e W' ⟨v, rfl, ho, hb⟩; have hs : Sep w0 W' (SK (w2.heap.size + 1) w.heap.size g (X :: Qs) (Rw 51 10 vF 0 []) (Bods [(v, b)]) (#[vF, .slice none 0 0]) (#[.int .u64 (base : Int), .slice Au n1 cu, .int .u64 (got : Int), .int .i64 sn, .int .u64 (si : Int), .int .i64 peer, .int .u64 (conn : Int), .int .u64 (inc : Int), .int .u64 (known : Int), .bool true, .int .u64 (heard : Int), .int .u64 (sent : Int)]) (BoxT (.slice Au n1 cu) LB1)) := sep_bodsAdd (i := 1) hS rfl hb ho; exact l.out _ W' trivial trivial (by simpa [upB, upd, q7, q8, q9, q11] using hs)
     refine EC 8 rfl (fun m n W F a c d f h H K k => ?_) ?_
     ·have f48 := gE (a 48) (by kernel_rfl) (H 2) (by kernel_rfl); have f50 := gE (a 50) (by kernel_rfl) (H 4) (by kernel_rfl); have f52 : F.tmps.getD 52 undef = n 6 := (a 52).trans (by kernel_rfl); have q6 := (H 6 uE).1; have q8 := d 8 uE; have q9 := d 9 (uM 8 uE); have q11 := d 11 (uM 9 (uM 8 uE)); rw [if_neg (by simp [q11]), if_neg (by simp [q9]), if_neg (by simp [q8]), if_neg (by simp [c]), if_pos q6] at h; have hS := h; clear h d c f a H; refine oP rfl ?_; obtain ⟨Av, cv, ev, _, _, _⟩ := sep_bodsAt (i := 1) hS rfl (u := n 6) (l := b) (by simp); rw [ev] at f52; go_simp; refine (HDA.out W Av cv (cH (i := 4) hS rfl)).mono ?_; rintro e W' ⟨rfl, hb⟩; have hs : Sep w0 W' (SK (w2.heap.size + 1) w.heap.size g (X :: Qs) (Rw 51 10 vF 0 []) (Bods [(n 6, b)]) (#[vF, .slice none 0 0]) (#[.int .u64 (base : Int), .slice Au n1 cu, .int .u64 (got : Int), .int .i64 sn, .int .u64 (si : Int), .int .i64 peer, .int .u64 (conn : Int), .int .u64 (inc : Int), .int .u64 (known : Int), .bool true, .int .u64 (heard : Int), .int .u64 (sent : Int)]) (BoxT (.slice Au n1 cu) LB1)) ∧ Hid ((.agg (daV (.slice Av b.length cv)) : Value) = .agg (daV (n 6))) := ⟨hS.grow hb, Lib.hid (by rw [ev])⟩; exact k.out _ W' trivial trivial (by simpa [upB, upd, q8, q9, q11] using hs)
     refine EC 9 rfl (fun i k W F a c d e f H K h => ?_) ?_
     ·have f53 : F.tmps.getD 53 undef = k 7 := (a 53).trans (by kernel_rfl); have q7 := (H 7 uE).1; have q9 := d 9 uE; have q11 := d 11 (uM 9 uE); rw [if_neg (by simp [q11]), if_neg (by simp [q9]), if_neg (by simp [c]), if_pos q7] at f; have hS := f; clear f d c e a H; refine oP rfl ?_; obtain ⟨hS, ev⟩ := hS; have e7 := ev.out; rw [HDX.out] at e7; have g53 := f53.trans e7; rw [Array.getD_eq_getD_getElem?] at g53; go_simp; have hb : Below W.heap.size W (W.alloc (.cells #[.int .i64 2, .int .i64 sn, .int .i64 peer, .int .u64 (si : Int), .int .u64 (conn : Int), .int .u64 (inc : Int), .int .u64 (known : Int), .int .u64 (got : Int), .int .u64 (la0 : Int), k 6] 51)) := (Below.refl _ _).alloc (Nat.le_refl _) _; have hs : Sep w0 (W.alloc (.cells #[.int .i64 2, .int .i64 sn, .int .i64 peer, .int .u64 (si : Int), .int .u64 (conn : Int), .int .u64 (inc : Int), .int .u64 (known : Int), .int .u64 (got : Int), .int .u64 (la0 : Int), k 6] 51)) (SK (w2.heap.size + 1) w.heap.size g (X :: Qs) (Rw 51 10 vF 0 []) (Bods [(k 6, b)]) (#[vF, .slice none 0 0]) (#[.int .u64 (base : Int), .slice Au n1 cu, .int .u64 (got : Int), .int .i64 sn, .int .u64 (si : Int), .int .i64 peer, .int .u64 (conn : Int), .int .u64 (inc : Int), .int .u64 (known : Int), .bool true, .int .u64 (heard : Int), .int .u64 (sent : Int)]) (BoxT (.slice Au n1 cu) LB1)) ∧ OneF (daV (k 6)).toList (.slice (some ⟨W.heap.size, 0, none⟩) 1 1) (W.alloc (.cells #[.int .i64 2, .int .i64 sn, .int .i64 peer, .int .u64 (si : Int), .int .u64 (conn : Int), .int .u64 (inc : Int), .int .u64 (known : Int), .int .u64 (got : Int), .int .u64 (la0 : Int), k 6] 51)) := ⟨hS.grow hb, by rw [HDX.out]; exact OneF.new W _⟩; exact h.out _ _ trivial trivial (by simpa [upB, upd, q9, q11] using hs)
     refine EC 10 rfl (fun j k W F a c d e f H K h => ?_) ?_
     ·have f47 := gE (a 47) (by kernel_rfl) (H 1) (by kernel_rfl); have f54 : F.tmps.getD 54 undef = k 8 := (a 54).trans (by kernel_rfl); have q8 := (H 8 uE).1; have q11 := d 11 uE; rw [if_neg (by simp [q11]), if_neg (by simp [c]), if_pos q8] at f; have hS := f; clear f d c e a H; refine oP rfl ?_; obtain ⟨s1, A3, c3, e3, hl3, hh3⟩ := hS; have h6one : (k 6).oneCell' = true := by obtain ⟨_, _, ev, _⟩ := sep_bodsAt (i := 1) s1 rfl (u := k 6) (l := b) (by simp); rw [ev]; rfl
      have fex := f54.trans e3; refine sep_opAppW rowFrames (i := 0) (s := .tmp 47) (x := .tmp 54) (m := 1) (news := (daV (k 6)).toList) (by rfl) f47 fex s1 rfl (by rw [hl3]) hh3 (HX1.out _ h6one) (by unfold maxLen; omega) (by omega) ?_; intro v W' hs0; have hs : Sep w0 W' (SK (w2.heap.size + 1) w.heap.size g (X :: Qs) (Rw 51 10 v (0 + 1) ([] ++ (daV (k 6)).toList)) (Bods [(k 6, b)]) (#[vF, .slice none 0 0]) (#[.int .u64 (base : Int), .slice Au n1 cu, .int .u64 (got : Int), .int .i64 sn, .int .u64 (si : Int), .int .i64 peer, .int .u64 (conn : Int), .int .u64 (inc : Int), .int .u64 (known : Int), .bool true, .int .u64 (heard : Int), .int .u64 (sent : Int)]) (BoxT (.slice Au n1 cu) LB1)) := hs0; exact h.out v W' trivial trivial (by simpa [upB, upd, q11] using hs)
     refine Ep 11 10 (w2.heap.size + 1) 0 ?_
     refine EC 12 rfl (fun j k W F a c d e f H K h => ?_) ?_
     ·have f55 : F.tmps.getD 55 undef = k 9 := (a 55).trans (by kernel_rfl); have f56 := gE (a 56) (by kernel_rfl) (H 10) (by kernel_rfl); have q9 := (H 9 uE).1; rw [if_neg (by simp [c]), if_pos q9] at f; have hS := f; clear f d c e a H; refine oP rfl ?_; obtain ⟨A2, c2, e2, _⟩ := sep_rwForm (i := 0) hS rfl; have hc3 := cA (i := 2) hS rfl 0 rfl; have hf3 := cFz (i := 2) hS rfl 0; rw [e2] at hS; have hs0 := cS (i := 2) hS rfl 0 (.slice A2 (0 + 1) c2); have hs : ExV w0 (W.setCell ⟨w2.heap.size + 1, 0, none⟩ (.slice A2 (0 + 1) c2)) (fun vF u => (SK (w2.heap.size + 1) w.heap.size g (X :: Qs) (Rw 51 10 vF (0 + 1) ([] ++ (daV u).toList)) (Bods [(u, b)]) (#[vF, .slice none 0 0]) (#[.int .u64 (base : Int), .slice Au n1 cu, .int .u64 (got : Int), .int .i64 sn, .int .u64 (si : Int), .int .i64 peer, .int .u64 (conn : Int), .int .u64 (inc : Int), .int .u64 (known : Int), .bool true, .int .u64 (heard : Int), .int .u64 (sent : Int)]) (BoxT (.slice Au n1 cu) LB1))) := ⟨_, _, hs0⟩; clear hs0; go_simp; exact h.out undef _ trivial trivial (by simpa [upB, upd] using hs)
     exact EN
    ·intro dn xv W hI H; have qe : dn 11 = true := (H 11 (of_decide_eq_true (by kernel_rfl))).1; rw [if_pos qe] at hI; have hS := hI; clear H hI qe; simp only [putAll, Act.put, List.setIfInBounds_toArray, List.set_cons_zero, List.set_cons_succ, Nat.reduceAdd]; obtain ⟨vF2, u, hS⟩ := hS; obtain ⟨A2, c2, rfl, _⟩ := sep_rwForm (i := 0) hS rfl; have HS9 := Lib.hid hS; clear hS HKO; obtain ⟨W9, HW9⟩ : ∃ x, Hid (W = x) := ⟨_, Lib.hid rfl⟩; rw [HW9.out] at HS9 ⊢; have HF9 : Hid (sS.sendF b = [sS.data (la0, b)]) := Lib.hid (by
      rw [LS.sendF, if_pos ⟨HE.out, by rw [← HSS.out]; have := Hn1.out; have := HLE.out; simp only; omega⟩, ← Hla.out, ← Hn1.out, ← HSS.out])
     have HR9 : Hid (fR_ [(sS.data (la0, b), u)] = (daV u).toList) := Lib.hid (by rw [HDX.out, ← HSS.out]; rfl); have kx := cA (v := .slice Au n1 cu) (i := 4) HS9.out rfl 1 rfl
     by_cases h1 : n1 = 1
     ·have e1 : ((n1 : Int) == 1) = true := by simp [h1]
      have H1 := Lib.hid h1; clear h1; have ks := cA (i := 4) HS9.out rfl 11 rfl; have ys := cFz (i := 4) HS9.out rfl 11; have HSE := Lib.hid (cS (i := 4) HS9.out rfl 11 (.int .u64 (now : Int))); have k0 := cA (v := .slice A2 (0 + 1) c2) (i := 2) HSE.out rfl 0 rfl; have k1 := cA (v := .slice none 0 0) (i := 2) HSE.out rfl 1 rfl; have y0 := cFz (i := 3) HSE.out rfl 0; have y1 := cFz (i := 3) HSE.out rfl 1; have z0 := cA (i := 3) HSE.out rfl 0 rfl; have z1 := cA (i := 3) HSE.out rfl 1 rfl; have HSF := Lib.hid (cS (i := 3) (cS (i := 3) HSE.out rfl 0 (.slice A2 (0 + 1) c2)) rfl 1 (.slice none 0 0))
      go_wp2_with fail
      have k0 := cA (v := .slice A2 (0 + 1) c2) (i := 3) HSF.out rfl 0 rfl; have k1 := cA (v := .slice none 0 0) (i := 3) HSF.out rfl 1 rfl; refine bodyPost_ret (v := .tuple #[.agg #[.slice A2 (0 + 1) c2, .slice none 0 0], .int .i64 0]) (by simp [results, Try.results21, go_sem, k0, k1]) rfl ?_; refine ⟨_, (.slice Au n1 cu), [(sS.data (la0, b), u)], by rw [HE.out]; rfl, by rw [HF9.out]; rfl, ?_⟩; rw [LS.send, if_pos HE.out, ← HSS.out, if_pos (by have := Hn1.out; have := H1.out; simp only; omega), HSS.out, HR9.out]; have hss := HSS.out; subst hss; have hx := (HSF.out.drop 2).drop 2; rw [← HLB1.out] at hx; exact hx
     ·have e1 : ((n1 : Int) == 1) = false := by simp; omega
      have H1 := Lib.hid h1; clear h1; have HSE := HS9; have k0 := cA (v := .slice A2 (0 + 1) c2) (i := 2) HSE.out rfl 0 rfl; have k1 := cA (v := .slice none 0 0) (i := 2) HSE.out rfl 1 rfl; have y0 := cFz (i := 3) HSE.out rfl 0; have y1 := cFz (i := 3) HSE.out rfl 1; have z0 := cA (i := 3) HSE.out rfl 0 rfl; have z1 := cA (i := 3) HSE.out rfl 1 rfl; have HSF := Lib.hid (cS (i := 3) (cS (i := 3) HSE.out rfl 0 (.slice A2 (0 + 1) c2)) rfl 1 (.slice none 0 0))
      go_wp2_with fail
      have k0 := cA (v := .slice A2 (0 + 1) c2) (i := 3) HSF.out rfl 0 rfl; have k1 := cA (v := .slice none 0 0) (i := 3) HSF.out rfl 1 rfl; refine bodyPost_ret (v := .tuple #[.agg #[.slice A2 (0 + 1) c2, .slice none 0 0], .int .i64 0]) (by simp [results, Try.results21, go_sem, k0, k1]) rfl ?_; refine ⟨_, (.slice Au n1 cu), [(sS.data (la0, b), u)], by rw [HE.out]; rfl, by rw [HF9.out]; rfl, ?_⟩; rw [LS.send, if_pos HE.out, ← HSS.out, if_neg (by have := Hn1.out; have := H1.out; simp only; omega), HSS.out, HR9.out]; have hss := HSS.out; subst hss; have hx := (HSF.out.drop 2).drop 2; rw [← HLB1.out] at hx; exact hx
   ·have el : decide ((n1 : Int) ≤ 8) = false := decide_eq_false (by omega); have HLE := Lib.hid hle; have e1 : ((n1 : Int) == 1) = false := by simp; omega
    clear hle hn1; have HSE := HS8; have kx2 := cA (v := .slice Au n1 cu) (i := 4) HS8.out rfl 1 rfl; have k0 := cA (v := .slice none 0 0) (i := 2) HSE.out rfl 0 rfl; have k1 := cA (v := .slice none 0 0) (i := 2) HSE.out rfl 1 rfl; have y0 := cFz (i := 3) HSE.out rfl 0; have y1 := cFz (i := 3) HSE.out rfl 1; have z0 := cA (i := 3) HSE.out rfl 0 rfl; have z1 := cA (i := 3) HSE.out rfl 1 rfl; have HSF := Lib.hid (cS (i := 3) (cS (i := 3) HSE.out rfl 0 (.slice none 0 0)) rfl 1 (.slice none 0 0))
    go_wp2_with fail
    have k0 := cA (v := .slice none 0 0) (i := 3) HSF.out rfl 0 rfl; have k1 := cA (v := .slice none 0 0) (i := 3) HSF.out rfl 1 rfl; refine bodyPost_ret (v := .tuple #[.agg #[.slice none 0 0, .slice none 0 0], .int .i64 0]) (by simp [results, Try.results21, go_sem, k0, k1]) rfl ?_; refine ⟨_, (.slice Au n1 cu), [], by rw [HE.out]; rfl, ?_, ?_⟩
    ·rw [LS.sendF, if_neg (fun h => by have h2 := h.2; rw [← HSS.out] at h2; have := Hn1.out; have := HLE.out; simp only at h2; omega)]; rfl
    ·rw [LS.send, if_pos HE.out, ← HSS.out, if_neg (by have := Hn1.out; have := HLE.out; simp only; omega)]; have hx := (HSF.out.drop 2).drop 2; rw [← HLB1.out] at hx; exact hx
end Go.Proofs.Ytngegjboenfmeaa
/- A link's Send whose answer is put into a cell, in whatever order the steps are taken. -/
namespace Go.Proofs.Ytngegjboenfmeaa
open Go Go.RowKit
set_option linter.unusedVariables false
set_option linter.unusedSimpArgs false
set_option maxRecDepth 100000

/-- what lies there ahead of the call, and behind it -/
def SndPre (la : Nat) (s : LS) (bx : Value) (X : SP) (R : List SP) : List SP := Ce la 72 (s.cells bx) :: BoxT bx s.box :: X :: R
def SndPost (la : Nat) (s : LS) (vF bx' : Value) (LP : List (Fr × Value)) (X : SP) (R : List SP) : List SP :=
 Rw 51 10 vF LP.length (fR_ LP) :: Bods (fB_ LP) :: Ce la 72 (s.cells bx') :: BoxT bx' s.box :: X :: R
/-- how it stands: d13 the call is done, d14 its answer moved, d15 the first part taken, d17 the cell is made, d18 it is written -/
def SndSt (la : Nat) (s : LS) (now : Nat) (b : List UInt8) (bx : Value) (X : SP) (R : List SP) (d13 d14 d15 d17 d18 : Bool) (x13 x14 x15 x17 : Value) (w0 W : World) : Prop :=
 if d18 = true then ∃ a vF bx' LP, x17 = .pointer (some ⟨a, 0, none⟩) ∧ x14 = .tuple #[.agg #[vF, .slice none 0 0], .int .i64 (s.sendE b : Int)] ∧ LP.map Prod.fst = s.sendF b ∧ Sep w0 W (Ce a 43 #[vF, .slice none 0 0] :: SndPost la (s.send now b) vF bx' LP X R)
 else if d13 = true then ∃ vF bx' LP, x13 = .tuple #[.agg #[vF, .slice none 0 0], .int .i64 (s.sendE b : Int)] ∧ (d14 = true → x14 = x13) ∧ (d15 = true → x15 = .agg #[vF, .slice none 0 0]) ∧ LP.map Prod.fst = s.sendF b ∧
  (if d17 = true then ∃ a, x17 = .pointer (some ⟨a, 0, none⟩) ∧ Sep w0 W (Ce a 43 #[.slice none 0 0, .slice none 0 0] :: SndPost la (s.send now b) vF bx' LP X R)
  else Sep w0 W (SndPost la (s.send now b) vF bx' LP X R))
 else if d17 = true then ∃ a, x17 = .pointer (some ⟨a, 0, none⟩) ∧ Sep w0 W (Ce a 43 #[.slice none 0 0, .slice none 0 0] :: SndPre la s bx X R)
 else Sep w0 W (SndPre la s bx X R)
section
variable {la : Nat} {s : LS} {now : Nat} {b : List UInt8} {bx : Value} {X : SP} {R : List SP} {d13 d14 d15 d17 d18 : Bool} {x13 x14 x15 x17 : Value} {w0 W W' : World}
theorem SndSt.rst (h : SndSt la s now b bx X R d13 d14 d15 d17 d18 x13 x14 x15 x17 w0 W) : Sep w0 W R := by
 unfold SndSt at h; split at h
 ·obtain ⟨a, vF, bx', LP, _, _, _, h⟩ := h; exact h.popF.popF.popF.popF.popF.popF
 split at h
 ·obtain ⟨vF, bx', LP, _, _, _, _, h⟩ := h; split at h
  ·obtain ⟨a, _, h⟩ := h; exact h.popF.popF.popF.popF.popF.popF
  ·exact h.popF.popF.popF.popF.popF
 split at h
 ·obtain ⟨a, _, h⟩ := h; exact h.popF.popF.popF.popF
 ·exact h.popF.popF.popF
theorem SndSt.start (h : Sep w0 W (SndPre la s bx X R)) : SndSt la s now b bx X R false false false false false x13 x14 x15 x17 w0 W := by
 simpa [SndSt] using h
theorem SndSt.made (h : SndSt la s now b bx X R d13 d14 d15 false false x13 x14 x15 x17 w0 W) :
  SndSt la s now b bx X R d13 d14 d15 true false x13 x14 x15 (.pointer (some ⟨W.heap.size, 0, none⟩)) w0 (W.alloc (.cells #[.slice none 0 0, .slice none 0 0] 43)) := by
 unfold SndSt at h ⊢; rw [if_neg (by simp)] at h ⊢; split at h
 ·rw [if_pos ‹_›]; obtain ⟨vF, bx', LP, e1, e2, e3, e4, h⟩ := h; rw [if_neg (by simp)] at h; refine ⟨vF, bx', LP, e1, e2, e3, e4, ?_⟩; rw [if_pos rfl]; exact ⟨_, rfl, sep_ceF h _ _⟩
 ·rw [if_neg ‹_›, if_pos rfl]; rw [if_neg (by simp)] at h; exact ⟨_, rfl, sep_ceF h _ _⟩
theorem SndSt.call {A : Option Addr} {c : Nat} (h : SndSt la s now b bx X R false false false d17 false x13 x14 x15 x17 w0 W) (hX : Reads X A b) (hs : s.Num) (hbl : b.length ≤ 1000000) :
  Calls Try.prog 21 #[.pointer (some ⟨la, 0, none⟩), .int .u64 (now : Int), .slice A b.length c] W fun e W' => ∃ v, e = .returned v ∧ SndSt la s now b bx X R true false false d17 false v x14 x15 x17 w0 W' := by
 unfold SndSt at h; rw [if_neg (by simp), if_neg (by simp)] at h; cases d17 with
 | false =>
  rw [if_neg (by simp)] at h; refine (sendG h hX hs hbl).mono ?_; rintro e W' ⟨vF, bx', LP, rfl, hl, h2⟩; refine ⟨_, rfl, ?_⟩; unfold SndSt; rw [if_neg (by simp), if_pos rfl]; refine ⟨vF, bx', LP, rfl, by simp, by simp, hl, ?_⟩; rw [if_neg (by simp)]; exact h2
 | true =>
  rw [if_pos rfl] at h; obtain ⟨a, e1, h⟩ := h; have h1 : Sep w0 W (Ce la 72 (s.cells bx) :: BoxT bx s.box :: X :: Ce a 43 #[.slice none 0 0, .slice none 0 0] :: R) := ((h.tF 3 rfl).tF 3 rfl).tF 3 rfl; refine (sendG h1 hX hs hbl).mono ?_; rintro e W' ⟨vF, bx', LP, rfl, hl, h2⟩; refine ⟨_, rfl, ?_⟩; unfold SndSt; rw [if_neg (by simp), if_pos rfl]; refine ⟨vF, bx', LP, rfl, by simp, by simp, hl, ?_⟩; rw [if_pos rfl]; exact ⟨a, e1, h2.tF 5 rfl⟩
theorem SndSt.moved (h : SndSt la s now b bx X R true false d15 d17 false x13 x14 x15 x17 w0 W) : SndSt la s now b bx X R true true d15 d17 false x13 x13 x15 x17 w0 W := by
 unfold SndSt at h ⊢; rw [if_neg (by simp), if_pos rfl] at h ⊢; obtain ⟨vF, bx', LP, e1, e2, e3, e4, h⟩ := h; exact ⟨vF, bx', LP, e1, fun _ => rfl, e3, e4, h⟩
theorem SndSt.form (h : SndSt la s now b bx X R true true d15 d17 d18 x13 x14 x15 x17 w0 W) : ∃ vF, x14 = .tuple #[.agg #[vF, .slice none 0 0], .int .i64 (s.sendE b : Int)] := by
 unfold SndSt at h; split at h
 ·obtain ⟨a, vF, bx', LP, e1, e2, e3, h⟩ := h; exact ⟨vF, e2⟩
 rw [if_pos rfl] at h; obtain ⟨vF, bx', LP, e1, e2, e3, e4, h⟩ := h; exact ⟨vF, (e2 rfl).trans e1⟩
theorem SndSt.part (h : SndSt la s now b bx X R true true false d17 false x13 x14 x15 x17 w0 W) :
  ∃ vF, x14 = .tuple #[.agg #[vF, .slice none 0 0], .int .i64 (s.sendE b : Int)] ∧ SndSt la s now b bx X R true true true d17 false x13 x14 (.agg #[vF, .slice none 0 0]) x17 w0 W := by
 unfold SndSt at h; rw [if_neg (by simp), if_pos rfl] at h; obtain ⟨vF, bx', LP, e1, e2, e3, e4, h⟩ := h; refine ⟨vF, (e2 rfl).trans e1, ?_⟩; unfold SndSt; rw [if_neg (by simp), if_pos rfl]; exact ⟨vF, bx', LP, e1, e2, fun _ => rfl, e4, h⟩
theorem SndSt.stored (h : SndSt la s now b bx X R true true true true false x13 x14 x15 x17 w0 W) :
  ∃ a Af kf cf, x17 = .pointer (some ⟨a, 0, none⟩) ∧ x15 = .agg #[.slice Af kf cf, .slice none 0 0] ∧ W.frozen? ⟨a, 0, none⟩ = false ∧ W.frozen? ⟨a, 1, none⟩ = false ∧ W.cell? ⟨a, 0, none⟩ = some (.slice none 0 0) ∧ W.cell? ⟨a, 1, none⟩ = some (.slice none 0 0) ∧
   SndSt la s now b bx X R true true true true true x13 x14 x15 x17 w0 ((W.setCell ⟨a, 0, none⟩ (.slice Af kf cf)).setCell ⟨a, 1, none⟩ (.slice none 0 0)) := by
 unfold SndSt at h; rw [if_neg (by simp), if_pos rfl] at h; obtain ⟨vF, bx', LP, e1, e2, e3, e4, h⟩ := h; rw [if_pos rfl] at h; obtain ⟨a, e5, h⟩ := h; obtain ⟨Af, cf, rfl, _⟩ := sep_rwForm (i := 1) h rfl; refine ⟨a, Af, _, cf, e5, e3 rfl, cFz (i := 0) h rfl 0, cFz (i := 0) h rfl 1, cA (i := 0) h rfl 0 rfl, cA (i := 0) h rfl 1 rfl, ?_⟩; unfold SndSt; rw [if_pos rfl]; exact ⟨a, _, bx', LP, e5, (e2 rfl).trans e1, e4, cS (i := 0) (cS (i := 0) h rfl 0 (.slice Af LP.length cf)) rfl 1 (.slice none 0 0)⟩
theorem SndSt.done (h : SndSt la s now b bx X R d13 d14 d15 d17 true x13 x14 x15 x17 w0 W) :
  ∃ a vF bx' LP, x17 = .pointer (some ⟨a, 0, none⟩) ∧ LP.map Prod.fst = s.sendF b ∧ Sep w0 W (Ce a 43 #[vF, .slice none 0 0] :: SndPost la (s.send now b) vF bx' LP X R) := by
 unfold SndSt at h; rw [if_pos rfl] at h; obtain ⟨a, vF, bx', LP, e1, _, e3, h⟩ := h; exact ⟨a, vF, bx', LP, e1, e3, h⟩
/-- a block of bytes can be read -/
theorem reads_ce {a : Nat} {t : TypeId} {vs : Array Value} {l : List UInt8} (h : vs.toList = us l) : Reads (Ce a t vs) (some ⟨a, 0, none⟩) l := by
 rintro w F ⟨h1, _⟩ j u hu; refine ⟨a, 0, rfl, lt_of_heap h1, ?_⟩; rw [Nat.zero_add, cell_of_row w a j _ _ _ h1, ← h] at *; simpa using hu
/-- what a link says to a body that may be sent -/
theorem sendE_is (hs : s.Num) (hb : bodyB b = true) : (s.up = false ∧ s.sendE b = 7) ∨ (s.up = true ∧ (s.sendE b = 4 ∨ s.sendE b = 0)) := by
 unfold LS.sendE; cases hu : s.up with
 | false => exact .inl ⟨rfl, by simp⟩
 | true =>
  refine .inr ⟨rfl, ?_⟩; rw [if_pos rfl, pushE, if_neg (by rw [hs.may]; simp), if_neg (by rw [hb]; simp)]; split
  ·exact .inl rfl
  ·exact .inr rfl
theorem send_up : (s.send now b).up = s.up ∧ (s.send now b).sn = s.sn ∧ (s.send now b).si = s.si ∧ (s.send now b).peer = s.peer ∧ (s.send now b).conn = s.conn ∧ (s.send now b).inc = s.inc ∧ (s.send now b).known = s.known := by
 unfold LS.send; split <;> exact ⟨rfl, rfl, rfl, rfl, rfl, rfl, rfl⟩
end
end Go.Proofs.Ytngegjboenfmeaa
/- Send of two links' harness. -/
namespace Go.Proofs.Ytngegjboenfmeaa
open Go Go.RowKit Go.Shelf
set_option linter.unusedVariables false
set_option maxRecDepth 100000
set_option linter.unusedSimpArgs false

theorem frRow_one {w0 w : World} {Ps : List SP} {i : Nat} {LP : List (Fr × Value)} (h : Sep w0 w Ps) (hi : Ps[i]? = some (Bods (fB_ LP))) : ∀ u ∈ fR_ LP, u.oneCell' = true := by
 intro u hu; obtain ⟨p, hp, hu⟩ := List.mem_flatMap.1 hu; obtain ⟨A, c, e, _⟩ := sep_bodsAt h hi (u := p.2) (l := p.1.body) (List.mem_map.2 ⟨p, hp, rfl⟩); simp only [Fr.cellsV, e, List.mem_cons, List.not_mem_nil, or_false] at hu
 rcases hu with rfl | rfl | rfl | rfl | rfl | rfl | rfl | rfl | rfl | rfl <;> rfl
/-- how it stands behind the harness's send -/
def SPost (w0 w' : World) (CZ : Value → Nat → Array Value) (g la : Nat) (s : LS) (now : Nat) (b : List UInt8) (nw : Nat) (ys : List Value) (n bs bt : Nat) (sent told : Pr → List (List UInt8)) (q : Pr) (Qs : List SP) : Prop := ∃ v' bx' LP, LP.map Prod.fst = s.sendF b ∧
 Sep w0 w' (Ce g 34 (CZ v' (if s.sendE b = 0 then n + 1 else n)) :: Ce la 72 ((s.send now b).cells bx') :: BoxT bx' (s.send now b).box :: RwO 51 10 v' (nw + LP.length) (ys ++ fR_ LP) :: MapT bs (if s.sendE b = 0 then updM sent q (sent q ++ [b]) else sent) :: MapT bt told :: Bods (fB_ LP) :: Qs)
theorem u8_nat (n : Nat) : IntKind.u8.wrap (n : Int) = ((UInt8.ofNat n).toNat : Int) := by
 simp [IntKind.wrap, IntKind.signed, IntKind.bits]
set_option maxHeartbeats 6400000 in
theorem send0 {w0 w : World} {Qs : List SP} {g a0 a1 i0 i1 n0 n1 bs bt n : Nat} {v0 v1 bx : Value} {s : LS} {nw : Nat} {ys : List Value} {sent told : Pr → List (List UInt8)}
  (h : Sep w0 w (Ce g 34 (twC (.pointer (some ⟨a0, 0, none⟩)) (.pointer (some ⟨a1, 0, none⟩)) i0 i1 n0 n1 v0 v1 bs bt n) :: Ce a0 72 (s.cells bx) :: BoxT bx s.box :: RwO 51 10 v1 nw ys :: MapT bs sent :: MapT bt told :: Qs))
  (hs : s.Num) (hn : n ≤ 1000000000000) (hq : prOk (0, i0, s.conn, s.inc, s.known)) (hq2 : prOk (1, s.inc, s.known, i0, s.conn)) (hnw : nw + 8 ≤ 1000000000000) (hsl : (sent (0, i0, s.conn, s.inc, s.known)).length ≤ 1000000000000) (htl : ∀ p, (told p).length ≤ 1000000000000) (hn0 : n0 < 18446744073709551616) :
  Calls Try.prog 29 #[.pointer (some ⟨g, 0, none⟩), .int .i64 0] w fun e w' => e = .returned (.tuple #[]) ∧ SPost w0 w' (fun v' k => (twC (.pointer (some ⟨a0, 0, none⟩)) (.pointer (some ⟨a1, 0, none⟩)) i0 i1 n0 n1 v0 v' bs bt k)) g a0 s n0 (bodyN n false) nw ys n bs bt sent told (0, i0, s.conn, s.inc, s.known) Qs := by
 have HS0 := Lib.hid (show Sep w0 w (Ce g 34 #[.pointer (some ⟨a0, 0, none⟩), .pointer (some ⟨a1, 0, none⟩), .int .u64 (i0 : Int), .int .u64 (i1 : Int), .int .u64 (n0 : Int), .int .u64 (n1 : Int), v0, v1, .map (some bs), .map (some bt), .int .i64 (n : Int), .bool false] :: Ce a0 72 (s.cells bx) :: BoxT bx s.box :: RwO 51 10 v1 nw ys :: MapT bs sent :: MapT bt told :: Qs) from h); have HN := Lib.hid hs; obtain ⟨y0, Hy0⟩ : ∃ x, Hid ((UInt8.ofNat n).toNat = x) := ⟨_, Lib.hid rfl⟩; obtain ⟨y1, Hy1⟩ : ∃ x, Hid ((UInt8.ofNat (n / 256)).toNat = x) := ⟨_, Lib.hid rfl⟩; obtain ⟨n2, Hn2⟩ : ∃ x, Hid (n / 256 = x) := ⟨_, Lib.hid rfl⟩; have e0 : IntKind.u8.wrap (n : Int) = (y0 : Int) := by rw [← Hy0.out, u8_nat]
 have e1 : IntKind.u8.wrap (n2 : Int) = (y1 : Int) := by rw [← Hy1.out, ← Hn2.out, u8_nat]
 have e2 : (n : Int) / 256 = (n2 : Int) := by rw [← Hn2.out]; rfl
 obtain ⟨bb, Hbb⟩ : ∃ x, Hid ((bodyN n false) = x) := ⟨_, Lib.hid rfl⟩; have Hb3 : Hid (bb.length = 3) := Lib.hid (by rw [← Hbb.out]; rfl); obtain ⟨ee, HEE⟩ : ∃ x, Hid (s.sendE bb = x) := ⟨_, Lib.hid rfl⟩; have HUS : Hid ((#[.int .u8 (y0 : Int), .int .u8 (y1 : Int), .int .u8 0] : Array Value).toList = us bb) := Lib.hid (by rw [← Hbb.out, ← Hy0.out, ← Hy1.out]; rfl); have HCALL := Lib.hid (fun (W : World) (d17 : Bool) (x13 x14 x15 x17 : Value) (hI : SndSt a0 s n0 bb bx (Ce w.heap.size 5 #[.int .u8 (y0 : Int), .int .u8 (y1 : Int), .int .u8 0]) (Ce g 34 #[.pointer (some ⟨a0, 0, none⟩), .pointer (some ⟨a1, 0, none⟩), .int .u64 (i0 : Int), .int .u64 (i1 : Int), .int .u64 (n0 : Int), .int .u64 (n1 : Int), v0, v1, .map (some bs), .map (some bt), .int .i64 (n : Int), .bool false] :: RwO 51 10 v1 nw ys :: MapT bs sent :: MapT bt told :: Qs) false false false d17 false x13 x14 x15 x17 w0 W) => show Calls Try.prog 21 #[.pointer (some ⟨a0, 0, none⟩), .int .u64 (n0 : Int), .slice (some ⟨w.heap.size, 0, none⟩) 3 3] W (fun e W' => ∃ v, e = .returned v ∧ SndSt a0 s n0 bb bx (Ce w.heap.size 5 #[.int .u8 (y0 : Int), .int .u8 (y1 : Int), .int .u8 0]) (Ce g 34 #[.pointer (some ⟨a0, 0, none⟩), .pointer (some ⟨a1, 0, none⟩), .int .u64 (i0 : Int), .int .u64 (i1 : Int), .int .u64 (n0 : Int), .int .u64 (n1 : Int), v0, v1, .map (some bs), .map (some bt), .int .i64 (n : Int), .bool false] :: RwO 51 10 v1 nw ys :: MapT bs sent :: MapT bt told :: Qs) true false false d17 false v x14 x15 x17 w0 W') from by
  have hq := SndSt.call (A := some ⟨w.heap.size, 0, none⟩) (c := 3) hI (reads_ce HUS.out) HN.out (by rw [Hb3.out]; omega); rw [Hb3.out] at hq; exact hq)
 have HKN : ∀ (dn : Nat → Bool) (xv : Nat → Value) (W : World), (if dn 13 = true then Sep w0 W (Ce w.heap.size 5 #[.int .u8 (y0 : Int), .int .u8 (y1 : Int), .int .u8 0] :: Ce g 34 #[.pointer (some ⟨a0, 0, none⟩), .pointer (some ⟨a1, 0, none⟩), .int .u64 (i0 : Int), .int .u64 (i1 : Int), .int .u64 (n0 : Int), .int .u64 (n1 : Int), v0, v1, .map (some bs), .map (some bt), .int .i64 (n : Int), .bool false] :: Ce a0 72 (s.cells bx) :: BoxT bx s.box :: RwO 51 10 v1 nw ys :: MapT bs sent :: MapT bt told :: Qs) else Sep w0 W (Ce g 34 #[.pointer (some ⟨a0, 0, none⟩), .pointer (some ⟨a1, 0, none⟩), .int .u64 (i0 : Int), .int .u64 (i1 : Int), .int .u64 (n0 : Int), .int .u64 (n1 : Int), v0, v1, .map (some bs), .map (some bt), .int .i64 (n : Int), .bool false] :: Ce a0 72 (s.cells bx) :: BoxT bx s.box :: RwO 51 10 v1 nw ys :: MapT bs sent :: MapT bt told :: Qs) ∧ W.heap.size = w.heap.size) → W.cell? ⟨g, 10, none⟩ = some (.int .i64 (n : Int)) := fun dn xv W h => by
  split at h
  ·exact cA (i := 1) h rfl 10 rfl
  ·exact cA (i := 0) h.1 rfl 10 rfl
 have HI0 : Hid (∀ xv : Nat → Value, True) := Lib.hid (fun _ => trivial); clear h hs; go_enter Try.func29, Try.ntmps29
 go_wp2_with fail
 refine wRG (fun dn xv W => if dn 13 = true then Sep w0 W (Ce w.heap.size 5 #[.int .u8 (y0 : Int), .int .u8 (y1 : Int), .int .u8 0] :: Ce g 34 #[.pointer (some ⟨a0, 0, none⟩), .pointer (some ⟨a1, 0, none⟩), .int .u64 (i0 : Int), .int .u64 (i1 : Int), .int .u64 (n0 : Int), .int .u64 (n1 : Int), v0, v1, .map (some bs), .map (some bt), .int .i64 (n : Int), .bool false] :: Ce a0 72 (s.cells bx) :: BoxT bx s.box :: RwO 51 10 v1 nw ys :: MapT bs sent :: MapT bt told :: Qs) else Sep w0 W (Ce g 34 #[.pointer (some ⟨a0, 0, none⟩), .pointer (some ⟨a1, 0, none⟩), .int .u64 (i0 : Int), .int .u64 (i1 : Int), .int .u64 (n0 : Int), .int .u64 (n1 : Int), v0, v1, .map (some bs), .map (some bt), .int .i64 (n : Int), .bool false] :: Ce a0 72 (s.cells bx) :: BoxT bx s.box :: RwO 51 10 v1 nw ys :: MapT bs sent :: MapT bt told :: Qs) ∧ W.heap.size = w.heap.size) (fun _ _ => True) [xP_ g 0, xP_ g 0, xP_ g 10, xV_ (.int .i64 (n : Int)), xV_ (.int .u8 (y0 : Int)), xP_ g 0, xP_ g 0, xP_ g 10, xV_ (.int .i64 (n : Int)), xV_ (.int .i64 (n2 : Int)), xV_ (.int .u8 (y1 : Int)), xV_ (.int .i64 0), xV_ (.int .u8 0), xV_ (.slice (some ⟨w.heap.size, 0, none⟩) 3 3), xV_ (.slice (some ⟨w.heap.size, 0, none⟩) 3 3)] (fun xv => by simpa using HS0.out.drew) ?_ ?_
 ·refine Ep 1 0 g 0 ?_
  refine Ee 2 7 0 ?_
  refine Ee 3 8 1 ?_
  refine Eek 4 9 2 (fun g h W e => HKN g h W e) ?_
  refine Ee 5 10 3 ?_
  refine Ep 6 0 g 0 ?_
  refine Ee 7 12 5 ?_
  refine Ee 8 13 6 ?_
  refine Eek 9 14 7 (fun g h W e => HKN g h W e) ?_
  refine Ee 10 15 8 ?_
  refine Ee 11 16 9 ?_
  refine Ei 12 1 (.int .i64 0) ?_
  refine Ee 13 18 11 ?_
  refine EC 14 rfl (fun g h W F a b c d e H K f => ?_) ?_
  ·have f11 := gE (a 11) (by kernel_rfl) (H 4) (by kernel_rfl); have f17 := gE (a 17) (by kernel_rfl) (H 10) (by kernel_rfl); have f19 := gE (a 19) (by kernel_rfl) (H 12) (by kernel_rfl); rw [if_neg (by simp [b])] at e; have hS := e; clear e c b d a H; refine oP rfl ?_; have g11 := f11; have g17 := f17; have g19 := f19; rw [Array.getD_eq_getD_getElem?] at g11 g17 g19; go_simp
   try rw [hS.2]
   have hs := sep_ceF hS.1 #[.int .u8 (y0 : Int), .int .u8 (y1 : Int), .int .u8 0] 5; rw [hS.2] at hs; exact f.out _ _ rfl trivial (by simpa [upB, upd] using hs)
  refine Ee 15 20 13 ?_
  exact EN
 ·intro dn xv W hI H; have q14 : xv 14 = .slice (some ⟨w.heap.size, 0, none⟩) 3 3 := (H 14 (of_decide_eq_true (by kernel_rfl))).2; have qe : dn 13 = true := (H 13 (of_decide_eq_true (by kernel_rfl))).1; rw [if_pos qe] at hI; have hS := hI; clear H hI qe; simp only [putAll, Act.put, List.setIfInBounds_toArray, List.set_cons_zero, List.set_cons_succ, Nat.reduceAdd, q14]; clear q14; have HS1 := Lib.hid (show Sep w0 W (SndPre a0 s bx (Ce w.heap.size 5 #[.int .u8 (y0 : Int), .int .u8 (y1 : Int), .int .u8 0]) (Ce g 34 #[.pointer (some ⟨a0, 0, none⟩), .pointer (some ⟨a1, 0, none⟩), .int .u64 (i0 : Int), .int .u64 (i1 : Int), .int .u64 (n0 : Int), .int .u64 (n1 : Int), v0, v1, .map (some bs), .map (some bt), .int .i64 (n : Int), .bool false] :: RwO 51 10 v1 nw ys :: MapT bs sent :: MapT bt told :: Qs)) from ((((hS).tF 1 rfl).tF 1 rfl).tF 3 rfl).tF 3 rfl); clear hS HKN HS0 e0 e1 e2
  go_wp2_with fail
  refine wRG (fun dn xv W => SndSt a0 s n0 bb bx (Ce w.heap.size 5 #[.int .u8 (y0 : Int), .int .u8 (y1 : Int), .int .u8 0]) (Ce g 34 #[.pointer (some ⟨a0, 0, none⟩), .pointer (some ⟨a1, 0, none⟩), .int .u64 (i0 : Int), .int .u64 (i1 : Int), .int .u64 (n0 : Int), .int .u64 (n1 : Int), v0, v1, .map (some bs), .map (some bt), .int .i64 (n : Int), .bool false] :: RwO 51 10 v1 nw ys :: MapT bs sent :: MapT bt told :: Qs) (dn 13) (dn 14) (dn 15) (dn 17) (dn 18) (xv 13) (xv 14) (xv 15) (xv 17) w0 W) (fun _ _ => True) [xP_ g 0, xV_ (.int .i64 0), xP_ g 0, xP_ g 0, xP_ g 0, xP_ a0 0, xP_ g 0, xV_ (.int .i64 0), xP_ g 0, xP_ g 4, xP_ g 4, xV_ (.int .u64 (n0 : Int)), xV_ (.slice (some ⟨w.heap.size, 0, none⟩) 3 3), fun v _ => True, fun v _ => True, fun v _ => True, xV_ (.int .i64 (ee : Int)), fun v _ => True, fun v _ => True, xV_ (.int .i64 (ee : Int))] (fun xv => (SndSt.start HS1.out.drew)) ?_ ?_
  ·refine Ep 1 0 g 0 ?_
   refine Ei 2 1 (.int .i64 0) ?_
   refine Ee 3 22 0 ?_
   refine Ee 4 24 2 ?_
   refine Eee 5 23 1 25 3 ?_
   refine EC 6 rfl (fun g h W F a b c d e H K f => ?_) ?_
   ·have f26 := gE (a 26) (by kernel_rfl) (H 4) (by kernel_rfl); have hr := SndSt.rst e; have kk := cA (i := 0) hr rfl 0 rfl; clear H c b d a; refine oP rfl ?_; go_simp; exact f.out _ _ rfl trivial e
   refine Ep 7 0 g 0 ?_
   refine Ei 8 1 (.int .i64 0) ?_
   refine Ee 9 28 6 ?_
   refine Ee 10 30 8 ?_
   refine Eee 11 29 7 31 9 ?_
   refine EC 12 rfl (fun g h W F a b c d e H K f => ?_) ?_
   ·have f32 := gE (a 32) (by kernel_rfl) (H 10) (by kernel_rfl); have hr := SndSt.rst e; have kk := cA (i := 0) hr rfl 4 rfl; clear H c b d a; refine oP rfl ?_; go_simp; exact f.out _ _ rfl trivial e
   refine Ei 13 4 (.slice (some ⟨w.heap.size, 0, none⟩) 3 3) ?_
   refine EC 14 rfl (fun h i W F a b c d f H K g => ?_) ?_
   ·have f27 := gE (a 27) (by kernel_rfl) (H 5) (by kernel_rfl); have f33 := gE (a 33) (by kernel_rfl) (H 11) (by kernel_rfl); have f34 := gE (a 34) (by kernel_rfl) (H 12) (by kernel_rfl); have q14 := c 14 uE; have q15 := c 15 (uM 14 uE); have q18 := c 18 (uM 15 (uM 14 uE)); rw [b, q14, q15, q18] at f; clear H c b d a; refine oP rfl ?_; go_simp; refine (HCALL.out W _ _ _ _ _ f).mono ?_; rintro e W' ⟨v, rfl, hs⟩; exact g.out v W' trivial trivial (by simpa [upB, upd, q14, q15, q18] using hs)
   refine EC 15 rfl (fun g h W F a b c d e H K f => ?_) ?_
   ·have f35 : F.tmps.getD 35 undef = h 13 := (a 35).trans (by kernel_rfl); have q13 := (H 13 uE).1; have q18 := c 18 (uM 15 uE); rw [b, q13, q18] at e; have hs := e.moved; clear H c b d a; refine oP rfl ?_; go_simp; exact f.out _ W trivial trivial (by simpa [upB, upd, q13, q18] using hs)
   refine EC 16 rfl (fun g h W F a b c d e H K f => ?_) ?_
   ·have f21 : F.tmps.getD 21 undef = h 14 := (a 21).trans (by kernel_rfl); have q14 := (H 14 uE).1; have q13 := (H 13 (uM 14 uE)).1; have q18 := c 18 uE; rw [b, q14, q13, q18] at e; obtain ⟨vF, e14, hs⟩ := e.part; have g21 := f21.trans e14; clear H c b d a; refine oP rfl ?_; go_simp; exact f.out _ W trivial trivial (by simpa [upB, upd, q14, q13, q18] using hs)
   refine EC 17 rfl (fun g h W F a b c d e H K f => ?_) ?_
   ·have f21 : F.tmps.getD 21 undef = h 14 := (a 21).trans (by kernel_rfl); have q14 := (H 14 uE).1; have q13 := (H 13 (uM 14 uE)).1; have hI2 := e; rw [q13, q14] at hI2; obtain ⟨vF, e14⟩ := hI2.form; rw [HEE.out] at e14; have g21 := f21.trans e14; clear H c b d a; refine oP rfl ?_; go_simp; exact f.out _ _ rfl trivial e
   refine EC 18 rfl (fun g h W F a b c d e H K f => ?_) ?_
   ·have q18 := c 18 uE; rw [b, q18] at e; have hs := e.made; clear H c b d a; refine oP rfl ?_; go_simp; exact f.out _ _ trivial trivial (by simpa [upB, upd, q18] using hs)
   refine EC 19 rfl (fun h i W F b c d e f H K g => ?_) ?_
   ·have f5 : F.tmps.getD 5 undef = i 17 := (b 5).trans (by kernel_rfl); have f36 : F.tmps.getD 36 undef = i 15 := (b 36).trans (by kernel_rfl); have q15 := (H 15 uE).1; have q14 := (H 14 (uM 15 uE)).1; have q13 := (H 13 (uM 15 (uM 14 uE))).1; have q17 := (H 17 uE).1; rw [c, q15, q14, q13, q17] at f; obtain ⟨a, Af, kf, cf, ea, ev, fz0, fz1, cz0, cz1, hs⟩ := f.stored; have g5 := f5.trans ea; have g36 := f36.trans ev; clear H d c e b; refine oP rfl ?_; go_simp; exact g.out undef _ trivial trivial (by simpa [upB, upd, q15, q14, q13, q17] using hs)
   refine Ee 20 37 16 ?_
   exact EN
  ·intro dn xv W hI H; have q19 : xv 19 = .int .i64 (ee : Int) := (H 19 (of_decide_eq_true (by kernel_rfl))).2; have q18 := (H 18 (of_decide_eq_true (by kernel_rfl))).1; rw [q18] at hI; obtain ⟨a, vF, bx2, LP, e5, hLP, hS⟩ := SndSt.done hI; clear H hI; simp only [putAll, Act.put, List.setIfInBounds_toArray, List.set_cons_zero, List.set_cons_succ, Nat.reduceAdd, q19]; clear q19; obtain ⟨AF, cF, rfl, _, _, _⟩ := sep_rwForm (i := 1) hS rfl; rw [e5]; clear e5; unfold SndPost at hS; obtain ⟨s2, Hs2⟩ : ∃ x, Hid (s.send n0 bb = x) := ⟨_, Lib.hid rfl⟩; rw [Hs2.out] at hS; have HU : Hid (s2.up = s.up ∧ s2.sn = s.sn ∧ s2.si = s.si ∧ s2.peer = s.peer ∧ s2.conn = s.conn ∧ s2.inc = s.inc ∧ s2.known = s.known) := Lib.hid (by rw [← Hs2.out]; exact send_up); have HSN : Hid (s2.sn ≠ 0) := Lib.hid (by rw [HU.out.2.1]; exact HN.out.sn); have HX1 : Hid (∀ u ∈ fR_ LP, u.oneCell' = true) := Lib.hid (frRow_one (i := 2) hS rfl); have HLF := Lib.hid hLP; have HLP : Hid (LP.length ≤ 1) := Lib.hid (by
    have h1 := congrArg List.length hLP; rw [List.length_map] at h1; rw [h1, LS.sendF]; split <;> simp)
   have hc : (ee = 7 ∧ s2.up = false) ∨ (ee = 4 ∧ s2.up = true) ∨ ee = 0 := by
    rw [← HEE.out, HU.out.1]
    rcases sendE_is HN.out (b := bb) (by simp [bodyB, Hb3.out]) with ⟨h1, h2⟩ | ⟨h1, h2 | h2⟩
    ·exact .inl ⟨h2, h1⟩
    ·exact .inr (.inl ⟨h2, h1⟩)
    ·exact .inr (.inr h2)
   have HQ : Hid (prOk (0, i0, s.conn, s.inc, s.known)) := Lib.hid hq; have HQ2 : Hid (prOk (1, s2.inc, s2.known, i0, s2.conn)) := Lib.hid (by rw [HU.out.2.2.2.2.1, HU.out.2.2.2.2.2.1, HU.out.2.2.2.2.2.2]; exact hq2); have HSL := Lib.hid hsl; have HTL := Lib.hid htl; have hln : nw + LP.length ≤ 1000000000000 := by have := HLP.out; omega
   clear hq hq2 hsl htl; have HS2 := Lib.hid hS; clear hS hLP HS1 HCALL
   rcases hc with ⟨he, hu⟩ | ⟨he, hu⟩ | he
   ·subst he; have kl := cA (i := 6) HS2.out rfl 0 rfl
    go_wp2_with fail
    refine (up_any _ a0 s2.sn s2.up HSN.out (cA (i := 3) HS2.out rfl 3 rfl) (cA (i := 3) HS2.out rfl 9 rfl)).mono ?_; rintro e w3 ⟨rfl, hb⟩; have HS3 := Lib.hid (HS2.out.grow hb); clear HS2 kl hb; rw [hu]; clear hu; have k0 := cA (i := 0) HS3.out rfl 0 rfl; have k1 := cA (i := 0) HS3.out rfl 1 rfl; have hp1 := (sep_rwNil (sep_bodsNil HS3.out) 49 4).lastFront; have HSA := Lib.hid (show Sep w0 w3 (Rw 51 10 (.slice AF LP.length cF) LP.length (fR_ LP) :: Rw 49 4 (.slice none 0 0) 0 [] :: Bods [] :: Ce g 34 (twC (.pointer (some ⟨a0, 0, none⟩)) (.pointer (some ⟨a1, 0, none⟩)) i0 i1 n0 n1 v0 v1 bs bt n) :: Ce a0 72 (s2.cells bx2) :: RwO 51 10 v1 nw ys :: MapT bt told :: Ce a 43 #[.slice AF LP.length cF, .slice none 0 0] :: Bods (fB_ LP) :: BoxT bx2 s2.box :: (Ce w.heap.size 5 #[.int .u8 (y0 : Int), .int .u8 (y1 : Int), .int .u8 0]) :: MapT bs sent :: Qs) from ((((((((((((hp1).tF 10 rfl).tF 8 rfl).tF 8 rfl).tF 7 rfl).tF 6 rfl).tF 11 rfl).tF 11 rfl).tF 10 rfl).tF 11 rfl).tF 10 rfl).tF 10 rfl).tF 11 rfl); clear hp1
    go_wp2_with fail
    refine (answer0 (v1 := .slice none 0 0) (LE := []) HSA.out HX1.out HSN.out HQ2.out hln (by simp) (fun p => by have := HTL.out p; simpa using this)).mono ?_; rintro e w9 ⟨rfl, v', hs9⟩; clear HSA
    go_wp2_with fail
    go_end0
    refine ⟨rfl, v', bx2, LP, by rw [Hbb.out]; exact HLF.out, ?_⟩; rw [Hbb.out, HEE.out, if_neg (by decide), if_neg (by decide), Hs2.out]; have h9 := (hs9.drop 4).drop 6; exact (((((((h9).tF 4 rfl).tF 4 rfl).tF 6 rfl).tF 5 rfl).tF 6 rfl).tF 6 rfl).tF 6 rfl
   ·subst he; have kl := cA (i := 6) HS2.out rfl 0 rfl
    go_wp2_with fail
    refine (up_any _ a0 s2.sn s2.up HSN.out (cA (i := 3) HS2.out rfl 3 rfl) (cA (i := 3) HS2.out rfl 9 rfl)).mono ?_; rintro e w3 ⟨rfl, hb⟩; have HS3 := Lib.hid (HS2.out.grow hb); clear HS2 kl hb; rw [hu]; clear hu; have k0 := cA (i := 0) HS3.out rfl 0 rfl; have k1 := cA (i := 0) HS3.out rfl 1 rfl; have hp1 := (sep_rwNil (sep_bodsNil HS3.out) 49 4).lastFront; have HSA := Lib.hid (show Sep w0 w3 (Rw 51 10 (.slice AF LP.length cF) LP.length (fR_ LP) :: Rw 49 4 (.slice none 0 0) 0 [] :: Bods [] :: Ce g 34 (twC (.pointer (some ⟨a0, 0, none⟩)) (.pointer (some ⟨a1, 0, none⟩)) i0 i1 n0 n1 v0 v1 bs bt n) :: Ce a0 72 (s2.cells bx2) :: RwO 51 10 v1 nw ys :: MapT bt told :: Ce a 43 #[.slice AF LP.length cF, .slice none 0 0] :: Bods (fB_ LP) :: BoxT bx2 s2.box :: (Ce w.heap.size 5 #[.int .u8 (y0 : Int), .int .u8 (y1 : Int), .int .u8 0]) :: MapT bs sent :: Qs) from ((((((((((((hp1).tF 10 rfl).tF 8 rfl).tF 8 rfl).tF 7 rfl).tF 6 rfl).tF 11 rfl).tF 11 rfl).tF 10 rfl).tF 11 rfl).tF 10 rfl).tF 10 rfl).tF 11 rfl); clear hp1
    go_wp2_with fail
    refine (answer0 (v1 := .slice none 0 0) (LE := []) HSA.out HX1.out HSN.out HQ2.out hln (by simp) (fun p => by have := HTL.out p; simpa using this)).mono ?_; rintro e w9 ⟨rfl, v', hs9⟩; clear HSA
    go_wp2_with fail
    go_end0
    refine ⟨rfl, v', bx2, LP, by rw [Hbb.out]; exact HLF.out, ?_⟩; rw [Hbb.out, HEE.out, if_neg (by decide), if_neg (by decide), Hs2.out]; have h9 := (hs9.drop 4).drop 6; exact (((((((h9).tF 4 rfl).tF 4 rfl).tF 6 rfl).tF 5 rfl).tF 6 rfl).tF 6 rfl).tF 6 rfl
   ·subst he; have kn := cA (i := 6) HS2.out rfl 10 rfl; have yn := cFz (i := 6) HS2.out rfl 10; have ew : IntKind.i64.wrap ((n : Int) + 1) = (n : Int) + 1 := by rw [IntKind.wrap_i64]; omega
    have HS4 := Lib.hid (show Sep w0 (W.setCell ⟨g, 10, none⟩ (.int .i64 ((n : Int) + 1))) (MapT bs sent :: (Ce a 43 #[.slice AF LP.length cF, .slice none 0 0] :: Rw 51 10 (.slice AF LP.length cF) LP.length (fR_ LP) :: Bods (fB_ LP) :: Ce a0 72 (s2.cells bx2) :: BoxT bx2 s2.box :: (Ce w.heap.size 5 #[.int .u8 (y0 : Int), .int .u8 (y1 : Int), .int .u8 0]) :: Ce g 34 #[.pointer (some ⟨a0, 0, none⟩), .pointer (some ⟨a1, 0, none⟩), .int .u64 (i0 : Int), .int .u64 (i1 : Int), .int .u64 (n0 : Int), .int .u64 (n1 : Int), v0, v1, .map (some bs), .map (some bt), .int .i64 ((n : Int) + 1), .bool false] :: RwO 51 10 v1 nw ys :: MapT bt told :: Qs)) from (cS (i := 6) HS2.out rfl 10 (.int .i64 ((n : Int) + 1))).tF 8 rfl); have HOF : Hid (∀ W : World, Sep w0 W (Ce a 43 #[.slice AF LP.length cF, .slice none 0 0] :: Rw 51 10 (.slice AF LP.length cF) LP.length (fR_ LP) :: Bods (fB_ LP) :: Ce a0 72 (s2.cells bx2) :: BoxT bx2 s2.box :: (Ce w.heap.size 5 #[.int .u8 (y0 : Int), .int .u8 (y1 : Int), .int .u8 0]) :: Ce g 34 #[.pointer (some ⟨a0, 0, none⟩), .pointer (some ⟨a1, 0, none⟩), .int .u64 (i0 : Int), .int .u64 (i1 : Int), .int .u64 (n0 : Int), .int .u64 (n1 : Int), v0, v1, .map (some bs), .map (some bt), .int .i64 ((n : Int) + 1), .bool false] :: RwO 51 10 v1 nw ys :: MapT bt told :: Qs) → Calls Try.prog 28 #[.pointer (some ⟨g, 0, none⟩), .int .i64 0] W (fun e w' => e = .returned (prV (0, i0, s.conn, s.inc, s.known)) ∧ Below W.heap.size W w')) := Lib.hid (fun W hr => by
     have hq := of0 W (n := n + 1) (cH (i := 6) hr rfl) (cH (i := 3) hr rfl) HSN.out; rw [HU.out.2.2.2.2.1, HU.out.2.2.2.2.2.1, HU.out.2.2.2.2.2.2] at hq; exact hq)
    clear HS2
    go_wp2_with fail
    refine wRG (fun dn xv W => MapS2 bs sent (0, i0, s.conn, s.inc, s.known) bb (dn 17) (dn 14) (dn 18) (dn 19) (xv 17) (xv 14) (xv 18) w0 W (Ce a 43 #[.slice AF LP.length cF, .slice none 0 0] :: Rw 51 10 (.slice AF LP.length cF) LP.length (fR_ LP) :: Bods (fB_ LP) :: Ce a0 72 (s2.cells bx2) :: BoxT bx2 s2.box :: (Ce w.heap.size 5 #[.int .u8 (y0 : Int), .int .u8 (y1 : Int), .int .u8 0]) :: Ce g 34 #[.pointer (some ⟨a0, 0, none⟩), .pointer (some ⟨a1, 0, none⟩), .int .u64 (i0 : Int), .int .u64 (i1 : Int), .int .u64 (n0 : Int), .int .u64 (n1 : Int), v0, v1, .map (some bs), .map (some bt), .int .i64 ((n : Int) + 1), .bool false] :: RwO 51 10 v1 nw ys :: MapT bt told :: Qs)) (fun _ _ => True) [xP_ g 0, xP_ g 0, xP_ g 8, xV_ (.map (some bs)), xP_ g 0, xV_ (.int .i64 0), xV_ (prV (0, i0, s.conn, s.inc, s.known)), xP_ g 0, xP_ g 0, xP_ g 8, xV_ (.map (some bs)), xP_ g 0, xV_ (.int .i64 0), xV_ (prV (0, i0, s.conn, s.inc, s.known)), fun v _ => True, xV_ (.slice (some ⟨w.heap.size, 0, none⟩) 3 3), xV_ (.string ⟨bb.toArray⟩), fun v _ => True, fun v _ => True, fun v _ => True] (fun xv => (MapS2.start (q := (0, i0, s.conn, s.inc, s.known)) (y := bb) (x12 := xv 17) (x13 := xv 14) (x15 := xv 18) HS4.out.drew)) ?_ ?_
    ·refine Ep 1 0 g 0 ?_
     refine Ee 2 47 0 ?_
     refine Ee 3 48 1 ?_
     refine EC 4 rfl (fun g h W F a b c d e H K f => ?_) ?_
     ·have f49 := gE (a 49) (by kernel_rfl) (H 2) (by kernel_rfl); have hr := MapS2.rst e; have kk := cA (i := 6) hr rfl 8 rfl; clear H c b d a; refine oP rfl ?_; go_simp; exact f.out _ _ rfl trivial e
     refine Ep 5 0 g 0 ?_
     refine Ei 6 1 (.int .i64 0) ?_
     refine EC 7 rfl (fun h i W F a b c d f H K g => ?_) ?_
     ·have f51 := gE (a 51) (by kernel_rfl) (H 4) (by kernel_rfl); have f52 := gE (a 52) (by kernel_rfl) (H 5) (by kernel_rfl); have hr := MapS2.rst f; clear H c b d a; refine oP rfl ?_; go_simp; refine (HOF.out W hr).mono ?_; rintro e W' ⟨rfl, hb⟩; have hs := f.grow hb; exact g.out _ W' rfl trivial (by simpa [upB, upd] using hs)
     refine Ep 8 0 g 0 ?_
     refine Ee 9 54 7 ?_
     refine Ee 10 55 8 ?_
     refine EC 11 rfl (fun g h W F a b c d e H K f => ?_) ?_
     ·have f56 := gE (a 56) (by kernel_rfl) (H 9) (by kernel_rfl); have hr := MapS2.rst e; have kk := cA (i := 6) hr rfl 8 rfl; clear H c b d a; refine oP rfl ?_; go_simp; exact f.out _ _ rfl trivial e
     refine Ep 12 0 g 0 ?_
     refine Ei 13 1 (.int .i64 0) ?_
     refine EC 14 rfl (fun h i W F a b c d f H K g => ?_) ?_
     ·have f58 := gE (a 58) (by kernel_rfl) (H 11) (by kernel_rfl); have f59 := gE (a 59) (by kernel_rfl) (H 12) (by kernel_rfl); have hr := MapS2.rst f; clear H c b d a; refine oP rfl ?_; go_simp; refine (HOF.out W hr).mono ?_; rintro e W' ⟨rfl, hb⟩; have hs := f.grow hb; exact g.out _ W' rfl trivial (by simpa [upB, upd] using hs)
     refine EC 15 rfl (fun g h W F a b c d e H K f => ?_) ?_
     ·have f57 := gE (a 57) (by kernel_rfl) (H 10) (by kernel_rfl); have f60 := gE (a 60) (by kernel_rfl) (H 13) (by kernel_rfl); have q18 := c 18 uE; have q19 := c 19 (uM 18 uE); rw [b, q18, q19] at e; obtain ⟨u, hrun, hs⟩ := e.look HQ.out; clear H c b d a; refine oP rfl ?_; go_simp; exact f.out _ _ trivial trivial (by simpa [upB, upd, q18, q19] using hs)
     refine Ei 16 4 (.slice (some ⟨w.heap.size, 0, none⟩) 3 3) ?_
     refine EC 17 rfl (fun h j W F a b d e f H K g => ?_) ?_
     ·have f62 := gE (a 62) (by kernel_rfl) (H 15) (by kernel_rfl); have hr := MapS2.rst f; have ky := run_str (c := 3) (sep_reads (i := 5) hr rfl (reads_ce HUS.out)); rw [Hb3.out] at ky; clear H d b e a; refine oP rfl ?_; go_simp; exact g.out _ _ rfl trivial f
     refine EC 18 rfl (fun g h W F a b c d e H K f => ?_) ?_
     ·have f63 := gE (a 63) (by kernel_rfl) (H 16) (by kernel_rfl); have q18 := c 18 uE; have q19 := c 19 (uM 18 uE); rw [b, q18, q19] at e; have hs := e.made; clear H c b d a; refine oP rfl ?_; have g63 := f63; rw [Array.getD_eq_getD_getElem?] at g63; go_simp; exact f.out _ _ trivial trivial (by simpa [upB, upd, q18, q19] using hs)
     refine EC 19 rfl (fun g h W F a b c d e H K f => ?_) ?_
     ·have f61 : F.tmps.getD 61 undef = h 14 := (a 61).trans (by kernel_rfl); have f64 : F.tmps.getD 64 undef = h 17 := (a 64).trans (by kernel_rfl); have q14 := (H 14 uE).1; have q17 := (H 17 uE).1; have q19 := c 19 uE; rw [b, q14, q17, q19] at e; clear H c b d a; refine oP rfl ?_; refine e.app (s := .tmp 61) (x := .tmp 64) (by rfl) f61 f64 HSL.out ?_; intro v W' hs; exact f.out v W' trivial trivial (by simpa [upB, upd, q14, q17, q19] using hs)
     refine EC 20 rfl (fun g h W F a b c d e H K f => ?_) ?_
     ·have f50 := gE (a 50) (by kernel_rfl) (H 3) (by kernel_rfl); have f53 := gE (a 53) (by kernel_rfl) (H 6) (by kernel_rfl); have f65 : F.tmps.getD 65 undef = h 18 := (a 65).trans (by kernel_rfl); have q14 := (H 14 (uM 18 uE)).1; have q18 := (H 18 uE).1; rw [b, q14, q18] at e; obtain ⟨W', hrun, hs⟩ := e.stored; clear H c b d a; refine oP rfl ?_; go_simp; exact f.out undef _ trivial trivial (by simpa [upB, upd, q14, q18] using hs)
     exact EN
    ·intro dn xv W hI H; have q19 := (H 19 (of_decide_eq_true (by kernel_rfl))).1; rw [q19] at hI; have hS := MapS2.done hI; clear H hI; simp only [putAll, Act.put, List.setIfInBounds_toArray, List.set_cons_zero, List.set_cons_succ, Nat.reduceAdd]; clear kn yn ew HOF HS4; have HS5 := Lib.hid hS; clear hS; have k0 := cA (i := 1) HS5.out rfl 0 rfl; have k1 := cA (i := 1) HS5.out rfl 1 rfl; have hp1 := (sep_rwNil (sep_bodsNil HS5.out) 49 4).lastFront; have HSA := Lib.hid (show Sep w0 W (Rw 51 10 (.slice AF LP.length cF) LP.length (fR_ LP) :: Rw 49 4 (.slice none 0 0) 0 [] :: Bods [] :: Ce g 34 (twC (.pointer (some ⟨a0, 0, none⟩)) (.pointer (some ⟨a1, 0, none⟩)) i0 i1 n0 n1 v0 v1 bs bt (n + 1)) :: Ce a0 72 (s2.cells bx2) :: RwO 51 10 v1 nw ys :: MapT bt told :: MapT bs (updM sent (0, i0, s.conn, s.inc, s.known) (sent (0, i0, s.conn, s.inc, s.known) ++ [bb])) :: Ce a 43 #[.slice AF LP.length cF, .slice none 0 0] :: Bods (fB_ LP) :: BoxT bx2 s2.box :: (Ce w.heap.size 5 #[.int .u8 (y0 : Int), .int .u8 (y1 : Int), .int .u8 0]) :: Qs) from ((((((((((((hp1).tF 8 rfl).tF 8 rfl).tF 7 rfl).tF 6 rfl).tF 6 rfl).tF 11 rfl).tF 11 rfl).tF 10 rfl).tF 11 rfl).tF 10 rfl).tF 10 rfl).tF 11 rfl); clear hp1
     go_wp2_with fail
     refine (answer0 (v1 := .slice none 0 0) (LE := []) HSA.out HX1.out HSN.out HQ2.out hln (by simp) (fun p => by have := HTL.out p; simpa using this)).mono ?_; rintro e w9 ⟨rfl, v', hs9⟩; clear HSA
     go_wp2_with fail
     go_end0
     refine ⟨rfl, v', bx2, LP, by rw [Hbb.out]; exact HLF.out, ?_⟩; rw [Hbb.out, HEE.out, if_pos rfl, if_pos rfl, Hs2.out]; have h9 := (hs9.drop 5).drop 7; exact (((((((h9).tF 5 rfl).tF 4 rfl).tF 5 rfl).tF 5 rfl).tF 6 rfl).tF 6 rfl).tF 6 rfl
set_option maxHeartbeats 6400000 in
theorem send1 {w0 w : World} {Qs : List SP} {g a0 a1 i0 i1 n0 n1 bs bt n : Nat} {v0 v1 bx : Value} {s : LS} {nw : Nat} {ys : List Value} {sent told : Pr → List (List UInt8)}
  (h : Sep w0 w (Ce g 34 (twC (.pointer (some ⟨a0, 0, none⟩)) (.pointer (some ⟨a1, 0, none⟩)) i0 i1 n0 n1 v0 v1 bs bt n) :: Ce a1 72 (s.cells bx) :: BoxT bx s.box :: RwO 51 10 v0 nw ys :: MapT bs sent :: MapT bt told :: Qs))
  (hs : s.Num) (hn : n ≤ 1000000000000) (hq : prOk (1, i1, s.conn, s.inc, s.known)) (hq2 : prOk (0, s.inc, s.known, i1, s.conn)) (hnw : nw + 8 ≤ 1000000000000) (hsl : (sent (1, i1, s.conn, s.inc, s.known)).length ≤ 1000000000000) (htl : ∀ p, (told p).length ≤ 1000000000000) (hn1 : n1 < 18446744073709551616) :
  Calls Try.prog 29 #[.pointer (some ⟨g, 0, none⟩), .int .i64 1] w fun e w' => e = .returned (.tuple #[]) ∧ SPost w0 w' (fun v' k => (twC (.pointer (some ⟨a0, 0, none⟩)) (.pointer (some ⟨a1, 0, none⟩)) i0 i1 n0 n1 v' v1 bs bt k)) g a1 s n1 (bodyN n true) nw ys n bs bt sent told (1, i1, s.conn, s.inc, s.known) Qs := by
 have HS0 := Lib.hid (show Sep w0 w (Ce g 34 #[.pointer (some ⟨a0, 0, none⟩), .pointer (some ⟨a1, 0, none⟩), .int .u64 (i0 : Int), .int .u64 (i1 : Int), .int .u64 (n0 : Int), .int .u64 (n1 : Int), v0, v1, .map (some bs), .map (some bt), .int .i64 (n : Int), .bool false] :: Ce a1 72 (s.cells bx) :: BoxT bx s.box :: RwO 51 10 v0 nw ys :: MapT bs sent :: MapT bt told :: Qs) from h); have HN := Lib.hid hs; obtain ⟨y0, Hy0⟩ : ∃ x, Hid ((UInt8.ofNat n).toNat = x) := ⟨_, Lib.hid rfl⟩; obtain ⟨y1, Hy1⟩ : ∃ x, Hid ((UInt8.ofNat (n / 256)).toNat = x) := ⟨_, Lib.hid rfl⟩; obtain ⟨n2, Hn2⟩ : ∃ x, Hid (n / 256 = x) := ⟨_, Lib.hid rfl⟩; have e0 : IntKind.u8.wrap (n : Int) = (y0 : Int) := by rw [← Hy0.out, u8_nat]
 have e1 : IntKind.u8.wrap (n2 : Int) = (y1 : Int) := by rw [← Hy1.out, ← Hn2.out, u8_nat]
 have e2 : (n : Int) / 256 = (n2 : Int) := by rw [← Hn2.out]; rfl
 obtain ⟨bb, Hbb⟩ : ∃ x, Hid ((bodyN n true) = x) := ⟨_, Lib.hid rfl⟩; have Hb3 : Hid (bb.length = 3) := Lib.hid (by rw [← Hbb.out]; rfl); obtain ⟨ee, HEE⟩ : ∃ x, Hid (s.sendE bb = x) := ⟨_, Lib.hid rfl⟩; have HUS : Hid ((#[.int .u8 (y0 : Int), .int .u8 (y1 : Int), .int .u8 1] : Array Value).toList = us bb) := Lib.hid (by rw [← Hbb.out, ← Hy0.out, ← Hy1.out]; rfl); have HCALL := Lib.hid (fun (W : World) (d17 : Bool) (x13 x14 x15 x17 : Value) (hI : SndSt a1 s n1 bb bx (Ce w.heap.size 5 #[.int .u8 (y0 : Int), .int .u8 (y1 : Int), .int .u8 1]) (Ce g 34 #[.pointer (some ⟨a0, 0, none⟩), .pointer (some ⟨a1, 0, none⟩), .int .u64 (i0 : Int), .int .u64 (i1 : Int), .int .u64 (n0 : Int), .int .u64 (n1 : Int), v0, v1, .map (some bs), .map (some bt), .int .i64 (n : Int), .bool false] :: RwO 51 10 v0 nw ys :: MapT bs sent :: MapT bt told :: Qs) false false false d17 false x13 x14 x15 x17 w0 W) => show Calls Try.prog 21 #[.pointer (some ⟨a1, 0, none⟩), .int .u64 (n1 : Int), .slice (some ⟨w.heap.size, 0, none⟩) 3 3] W (fun e W' => ∃ v, e = .returned v ∧ SndSt a1 s n1 bb bx (Ce w.heap.size 5 #[.int .u8 (y0 : Int), .int .u8 (y1 : Int), .int .u8 1]) (Ce g 34 #[.pointer (some ⟨a0, 0, none⟩), .pointer (some ⟨a1, 0, none⟩), .int .u64 (i0 : Int), .int .u64 (i1 : Int), .int .u64 (n0 : Int), .int .u64 (n1 : Int), v0, v1, .map (some bs), .map (some bt), .int .i64 (n : Int), .bool false] :: RwO 51 10 v0 nw ys :: MapT bs sent :: MapT bt told :: Qs) true false false d17 false v x14 x15 x17 w0 W') from by
  have hq := SndSt.call (A := some ⟨w.heap.size, 0, none⟩) (c := 3) hI (reads_ce HUS.out) HN.out (by rw [Hb3.out]; omega); rw [Hb3.out] at hq; exact hq)
 have HKN : ∀ (dn : Nat → Bool) (xv : Nat → Value) (W : World), (if dn 13 = true then Sep w0 W (Ce w.heap.size 5 #[.int .u8 (y0 : Int), .int .u8 (y1 : Int), .int .u8 1] :: Ce g 34 #[.pointer (some ⟨a0, 0, none⟩), .pointer (some ⟨a1, 0, none⟩), .int .u64 (i0 : Int), .int .u64 (i1 : Int), .int .u64 (n0 : Int), .int .u64 (n1 : Int), v0, v1, .map (some bs), .map (some bt), .int .i64 (n : Int), .bool false] :: Ce a1 72 (s.cells bx) :: BoxT bx s.box :: RwO 51 10 v0 nw ys :: MapT bs sent :: MapT bt told :: Qs) else Sep w0 W (Ce g 34 #[.pointer (some ⟨a0, 0, none⟩), .pointer (some ⟨a1, 0, none⟩), .int .u64 (i0 : Int), .int .u64 (i1 : Int), .int .u64 (n0 : Int), .int .u64 (n1 : Int), v0, v1, .map (some bs), .map (some bt), .int .i64 (n : Int), .bool false] :: Ce a1 72 (s.cells bx) :: BoxT bx s.box :: RwO 51 10 v0 nw ys :: MapT bs sent :: MapT bt told :: Qs) ∧ W.heap.size = w.heap.size) → W.cell? ⟨g, 10, none⟩ = some (.int .i64 (n : Int)) := fun dn xv W h => by
  split at h
  ·exact cA (i := 1) h rfl 10 rfl
  ·exact cA (i := 0) h.1 rfl 10 rfl
 have HI0 : Hid (∀ xv : Nat → Value, True) := Lib.hid (fun _ => trivial); clear h hs; go_enter Try.func29, Try.ntmps29
 go_wp2_with fail
 refine wRG (fun dn xv W => if dn 13 = true then Sep w0 W (Ce w.heap.size 5 #[.int .u8 (y0 : Int), .int .u8 (y1 : Int), .int .u8 1] :: Ce g 34 #[.pointer (some ⟨a0, 0, none⟩), .pointer (some ⟨a1, 0, none⟩), .int .u64 (i0 : Int), .int .u64 (i1 : Int), .int .u64 (n0 : Int), .int .u64 (n1 : Int), v0, v1, .map (some bs), .map (some bt), .int .i64 (n : Int), .bool false] :: Ce a1 72 (s.cells bx) :: BoxT bx s.box :: RwO 51 10 v0 nw ys :: MapT bs sent :: MapT bt told :: Qs) else Sep w0 W (Ce g 34 #[.pointer (some ⟨a0, 0, none⟩), .pointer (some ⟨a1, 0, none⟩), .int .u64 (i0 : Int), .int .u64 (i1 : Int), .int .u64 (n0 : Int), .int .u64 (n1 : Int), v0, v1, .map (some bs), .map (some bt), .int .i64 (n : Int), .bool false] :: Ce a1 72 (s.cells bx) :: BoxT bx s.box :: RwO 51 10 v0 nw ys :: MapT bs sent :: MapT bt told :: Qs) ∧ W.heap.size = w.heap.size) (fun _ _ => True) [xP_ g 0, xP_ g 0, xP_ g 10, xV_ (.int .i64 (n : Int)), xV_ (.int .u8 (y0 : Int)), xP_ g 0, xP_ g 0, xP_ g 10, xV_ (.int .i64 (n : Int)), xV_ (.int .i64 (n2 : Int)), xV_ (.int .u8 (y1 : Int)), xV_ (.int .i64 1), xV_ (.int .u8 1), xV_ (.slice (some ⟨w.heap.size, 0, none⟩) 3 3), xV_ (.slice (some ⟨w.heap.size, 0, none⟩) 3 3)] (fun xv => by simpa using HS0.out.drew) ?_ ?_
 ·refine Ep 1 0 g 0 ?_
  refine Ee 2 7 0 ?_
  refine Ee 3 8 1 ?_
  refine Eek 4 9 2 (fun g h W e => HKN g h W e) ?_
  refine Ee 5 10 3 ?_
  refine Ep 6 0 g 0 ?_
  refine Ee 7 12 5 ?_
  refine Ee 8 13 6 ?_
  refine Eek 9 14 7 (fun g h W e => HKN g h W e) ?_
  refine Ee 10 15 8 ?_
  refine Ee 11 16 9 ?_
  refine Ei 12 1 (.int .i64 1) ?_
  refine Ee 13 18 11 ?_
  refine EC 14 rfl (fun g h W F a b c d e H K f => ?_) ?_
  ·have f11 := gE (a 11) (by kernel_rfl) (H 4) (by kernel_rfl); have f17 := gE (a 17) (by kernel_rfl) (H 10) (by kernel_rfl); have f19 := gE (a 19) (by kernel_rfl) (H 12) (by kernel_rfl); rw [if_neg (by simp [b])] at e; have hS := e; clear e c b d a H; refine oP rfl ?_; have g11 := f11; have g17 := f17; have g19 := f19; rw [Array.getD_eq_getD_getElem?] at g11 g17 g19; go_simp
   try rw [hS.2]
   have hs := sep_ceF hS.1 #[.int .u8 (y0 : Int), .int .u8 (y1 : Int), .int .u8 1] 5; rw [hS.2] at hs; exact f.out _ _ rfl trivial (by simpa [upB, upd] using hs)
  refine Ee 15 20 13 ?_
  exact EN
 ·intro dn xv W hI H; have q14 : xv 14 = .slice (some ⟨w.heap.size, 0, none⟩) 3 3 := (H 14 (of_decide_eq_true (by kernel_rfl))).2; have qe : dn 13 = true := (H 13 (of_decide_eq_true (by kernel_rfl))).1; rw [if_pos qe] at hI; have hS := hI; clear H hI qe; simp only [putAll, Act.put, List.setIfInBounds_toArray, List.set_cons_zero, List.set_cons_succ, Nat.reduceAdd, q14]; clear q14; have HS1 := Lib.hid (show Sep w0 W (SndPre a1 s bx (Ce w.heap.size 5 #[.int .u8 (y0 : Int), .int .u8 (y1 : Int), .int .u8 1]) (Ce g 34 #[.pointer (some ⟨a0, 0, none⟩), .pointer (some ⟨a1, 0, none⟩), .int .u64 (i0 : Int), .int .u64 (i1 : Int), .int .u64 (n0 : Int), .int .u64 (n1 : Int), v0, v1, .map (some bs), .map (some bt), .int .i64 (n : Int), .bool false] :: RwO 51 10 v0 nw ys :: MapT bs sent :: MapT bt told :: Qs)) from ((((hS).tF 1 rfl).tF 1 rfl).tF 3 rfl).tF 3 rfl); clear hS HKN HS0 e0 e1 e2
  go_wp2_with fail
  refine wRG (fun dn xv W => SndSt a1 s n1 bb bx (Ce w.heap.size 5 #[.int .u8 (y0 : Int), .int .u8 (y1 : Int), .int .u8 1]) (Ce g 34 #[.pointer (some ⟨a0, 0, none⟩), .pointer (some ⟨a1, 0, none⟩), .int .u64 (i0 : Int), .int .u64 (i1 : Int), .int .u64 (n0 : Int), .int .u64 (n1 : Int), v0, v1, .map (some bs), .map (some bt), .int .i64 (n : Int), .bool false] :: RwO 51 10 v0 nw ys :: MapT bs sent :: MapT bt told :: Qs) (dn 13) (dn 14) (dn 15) (dn 17) (dn 18) (xv 13) (xv 14) (xv 15) (xv 17) w0 W) (fun _ _ => True) [xP_ g 0, xV_ (.int .i64 1), xP_ g 0, xP_ g 0, xP_ g 1, xP_ a1 0, xP_ g 0, xV_ (.int .i64 1), xP_ g 0, xP_ g 4, xP_ g 5, xV_ (.int .u64 (n1 : Int)), xV_ (.slice (some ⟨w.heap.size, 0, none⟩) 3 3), fun v _ => True, fun v _ => True, fun v _ => True, xV_ (.int .i64 (ee : Int)), fun v _ => True, fun v _ => True, xV_ (.int .i64 (ee : Int))] (fun xv => (SndSt.start HS1.out.drew)) ?_ ?_
  ·refine Ep 1 0 g 0 ?_
   refine Ei 2 1 (.int .i64 1) ?_
   refine Ee 3 22 0 ?_
   refine Ee 4 24 2 ?_
   refine Eee 5 23 1 25 3 ?_
   refine EC 6 rfl (fun g h W F a b c d e H K f => ?_) ?_
   ·have f26 := gE (a 26) (by kernel_rfl) (H 4) (by kernel_rfl); have hr := SndSt.rst e; have kk := cA (i := 0) hr rfl 1 rfl; clear H c b d a; refine oP rfl ?_; go_simp; exact f.out _ _ rfl trivial e
   refine Ep 7 0 g 0 ?_
   refine Ei 8 1 (.int .i64 1) ?_
   refine Ee 9 28 6 ?_
   refine Ee 10 30 8 ?_
   refine Eee 11 29 7 31 9 ?_
   refine EC 12 rfl (fun g h W F a b c d e H K f => ?_) ?_
   ·have f32 := gE (a 32) (by kernel_rfl) (H 10) (by kernel_rfl); have hr := SndSt.rst e; have kk := cA (i := 0) hr rfl 5 rfl; clear H c b d a; refine oP rfl ?_; go_simp; exact f.out _ _ rfl trivial e
   refine Ei 13 4 (.slice (some ⟨w.heap.size, 0, none⟩) 3 3) ?_
   refine EC 14 rfl (fun h i W F a b c d f H K g => ?_) ?_
   ·have f27 := gE (a 27) (by kernel_rfl) (H 5) (by kernel_rfl); have f33 := gE (a 33) (by kernel_rfl) (H 11) (by kernel_rfl); have f34 := gE (a 34) (by kernel_rfl) (H 12) (by kernel_rfl); have q14 := c 14 uE; have q15 := c 15 (uM 14 uE); have q18 := c 18 (uM 15 (uM 14 uE)); rw [b, q14, q15, q18] at f; clear H c b d a; refine oP rfl ?_; go_simp; refine (HCALL.out W _ _ _ _ _ f).mono ?_; rintro e W' ⟨v, rfl, hs⟩; exact g.out v W' trivial trivial (by simpa [upB, upd, q14, q15, q18] using hs)
   refine EC 15 rfl (fun g h W F a b c d e H K f => ?_) ?_
   ·have f35 : F.tmps.getD 35 undef = h 13 := (a 35).trans (by kernel_rfl); have q13 := (H 13 uE).1; have q18 := c 18 (uM 15 uE); rw [b, q13, q18] at e; have hs := e.moved; clear H c b d a; refine oP rfl ?_; go_simp; exact f.out _ W trivial trivial (by simpa [upB, upd, q13, q18] using hs)
   refine EC 16 rfl (fun g h W F a b c d e H K f => ?_) ?_
   ·have f21 : F.tmps.getD 21 undef = h 14 := (a 21).trans (by kernel_rfl); have q14 := (H 14 uE).1; have q13 := (H 13 (uM 14 uE)).1; have q18 := c 18 uE; rw [b, q14, q13, q18] at e; obtain ⟨vF, e14, hs⟩ := e.part; have g21 := f21.trans e14; clear H c b d a; refine oP rfl ?_; go_simp; exact f.out _ W trivial trivial (by simpa [upB, upd, q14, q13, q18] using hs)
   refine EC 17 rfl (fun g h W F a b c d e H K f => ?_) ?_
   ·have f21 : F.tmps.getD 21 undef = h 14 := (a 21).trans (by kernel_rfl); have q14 := (H 14 uE).1; have q13 := (H 13 (uM 14 uE)).1; have hI2 := e; rw [q13, q14] at hI2; obtain ⟨vF, e14⟩ := hI2.form; rw [HEE.out] at e14; have g21 := f21.trans e14; clear H c b d a; refine oP rfl ?_; go_simp; exact f.out _ _ rfl trivial e
   refine EC 18 rfl (fun g h W F a b c d e H K f => ?_) ?_
   ·have q18 := c 18 uE; rw [b, q18] at e; have hs := e.made; clear H c b d a; refine oP rfl ?_; go_simp; exact f.out _ _ trivial trivial (by simpa [upB, upd, q18] using hs)
   refine EC 19 rfl (fun h i W F b c d e f H K g => ?_) ?_
   ·have f5 : F.tmps.getD 5 undef = i 17 := (b 5).trans (by kernel_rfl); have f36 : F.tmps.getD 36 undef = i 15 := (b 36).trans (by kernel_rfl); have q15 := (H 15 uE).1; have q14 := (H 14 (uM 15 uE)).1; have q13 := (H 13 (uM 15 (uM 14 uE))).1; have q17 := (H 17 uE).1; rw [c, q15, q14, q13, q17] at f; obtain ⟨a, Af, kf, cf, ea, ev, fz0, fz1, cz0, cz1, hs⟩ := f.stored; have g5 := f5.trans ea; have g36 := f36.trans ev; clear H d c e b; refine oP rfl ?_; go_simp; exact g.out undef _ trivial trivial (by simpa [upB, upd, q15, q14, q13, q17] using hs)
   refine Ee 20 37 16 ?_
   exact EN
  ·intro dn xv W hI H; have q19 : xv 19 = .int .i64 (ee : Int) := (H 19 (of_decide_eq_true (by kernel_rfl))).2; have q18 := (H 18 (of_decide_eq_true (by kernel_rfl))).1; rw [q18] at hI; obtain ⟨a, vF, bx2, LP, e5, hLP, hS⟩ := SndSt.done hI; clear H hI; simp only [putAll, Act.put, List.setIfInBounds_toArray, List.set_cons_zero, List.set_cons_succ, Nat.reduceAdd, q19]; clear q19; obtain ⟨AF, cF, rfl, _, _, _⟩ := sep_rwForm (i := 1) hS rfl; rw [e5]; clear e5; unfold SndPost at hS; obtain ⟨s2, Hs2⟩ : ∃ x, Hid (s.send n1 bb = x) := ⟨_, Lib.hid rfl⟩; rw [Hs2.out] at hS; have HU : Hid (s2.up = s.up ∧ s2.sn = s.sn ∧ s2.si = s.si ∧ s2.peer = s.peer ∧ s2.conn = s.conn ∧ s2.inc = s.inc ∧ s2.known = s.known) := Lib.hid (by rw [← Hs2.out]; exact send_up); have HSN : Hid (s2.sn ≠ 0) := Lib.hid (by rw [HU.out.2.1]; exact HN.out.sn); have HX1 : Hid (∀ u ∈ fR_ LP, u.oneCell' = true) := Lib.hid (frRow_one (i := 2) hS rfl); have HLF := Lib.hid hLP; have HLP : Hid (LP.length ≤ 1) := Lib.hid (by
    have h1 := congrArg List.length hLP; rw [List.length_map] at h1; rw [h1, LS.sendF]; split <;> simp)
   have hc : (ee = 7 ∧ s2.up = false) ∨ (ee = 4 ∧ s2.up = true) ∨ ee = 0 := by
    rw [← HEE.out, HU.out.1]
    rcases sendE_is HN.out (b := bb) (by simp [bodyB, Hb3.out]) with ⟨h1, h2⟩ | ⟨h1, h2 | h2⟩
    ·exact .inl ⟨h2, h1⟩
    ·exact .inr (.inl ⟨h2, h1⟩)
    ·exact .inr (.inr h2)
   have HQ : Hid (prOk (1, i1, s.conn, s.inc, s.known)) := Lib.hid hq; have HQ2 : Hid (prOk (0, s2.inc, s2.known, i1, s2.conn)) := Lib.hid (by rw [HU.out.2.2.2.2.1, HU.out.2.2.2.2.2.1, HU.out.2.2.2.2.2.2]; exact hq2); have HSL := Lib.hid hsl; have HTL := Lib.hid htl; have hln : nw + LP.length ≤ 1000000000000 := by have := HLP.out; omega
   clear hq hq2 hsl htl; have HS2 := Lib.hid hS; clear hS hLP HS1 HCALL
   rcases hc with ⟨he, hu⟩ | ⟨he, hu⟩ | he
   ·subst he; have kl := cA (i := 6) HS2.out rfl 1 rfl
    go_wp2_with fail
    refine (up_any _ a1 s2.sn s2.up HSN.out (cA (i := 3) HS2.out rfl 3 rfl) (cA (i := 3) HS2.out rfl 9 rfl)).mono ?_; rintro e w3 ⟨rfl, hb⟩; have HS3 := Lib.hid (HS2.out.grow hb); clear HS2 kl hb; rw [hu]; clear hu; have k0 := cA (i := 0) HS3.out rfl 0 rfl; have k1 := cA (i := 0) HS3.out rfl 1 rfl; have hp1 := (sep_rwNil (sep_bodsNil HS3.out) 49 4).lastFront; have HSA := Lib.hid (show Sep w0 w3 (Rw 51 10 (.slice AF LP.length cF) LP.length (fR_ LP) :: Rw 49 4 (.slice none 0 0) 0 [] :: Bods [] :: Ce g 34 (twC (.pointer (some ⟨a0, 0, none⟩)) (.pointer (some ⟨a1, 0, none⟩)) i0 i1 n0 n1 v0 v1 bs bt n) :: Ce a1 72 (s2.cells bx2) :: RwO 51 10 v0 nw ys :: MapT bt told :: Ce a 43 #[.slice AF LP.length cF, .slice none 0 0] :: Bods (fB_ LP) :: BoxT bx2 s2.box :: (Ce w.heap.size 5 #[.int .u8 (y0 : Int), .int .u8 (y1 : Int), .int .u8 1]) :: MapT bs sent :: Qs) from ((((((((((((hp1).tF 10 rfl).tF 8 rfl).tF 8 rfl).tF 7 rfl).tF 6 rfl).tF 11 rfl).tF 11 rfl).tF 10 rfl).tF 11 rfl).tF 10 rfl).tF 10 rfl).tF 11 rfl); clear hp1
    go_wp2_with fail
    refine (answer1 (v0 := .slice none 0 0) (LE := []) HSA.out HX1.out HSN.out HQ2.out hln (by simp) (fun p => by have := HTL.out p; simpa using this)).mono ?_; rintro e w9 ⟨rfl, v', hs9⟩; clear HSA
    go_wp2_with fail
    go_end0
    refine ⟨rfl, v', bx2, LP, by rw [Hbb.out]; exact HLF.out, ?_⟩; rw [Hbb.out, HEE.out, if_neg (by decide), if_neg (by decide), Hs2.out]; have h9 := (hs9.drop 4).drop 6; exact (((((((h9).tF 4 rfl).tF 4 rfl).tF 6 rfl).tF 5 rfl).tF 6 rfl).tF 6 rfl).tF 6 rfl
   ·subst he; have kl := cA (i := 6) HS2.out rfl 1 rfl
    go_wp2_with fail
    refine (up_any _ a1 s2.sn s2.up HSN.out (cA (i := 3) HS2.out rfl 3 rfl) (cA (i := 3) HS2.out rfl 9 rfl)).mono ?_; rintro e w3 ⟨rfl, hb⟩; have HS3 := Lib.hid (HS2.out.grow hb); clear HS2 kl hb; rw [hu]; clear hu; have k0 := cA (i := 0) HS3.out rfl 0 rfl; have k1 := cA (i := 0) HS3.out rfl 1 rfl; have hp1 := (sep_rwNil (sep_bodsNil HS3.out) 49 4).lastFront; have HSA := Lib.hid (show Sep w0 w3 (Rw 51 10 (.slice AF LP.length cF) LP.length (fR_ LP) :: Rw 49 4 (.slice none 0 0) 0 [] :: Bods [] :: Ce g 34 (twC (.pointer (some ⟨a0, 0, none⟩)) (.pointer (some ⟨a1, 0, none⟩)) i0 i1 n0 n1 v0 v1 bs bt n) :: Ce a1 72 (s2.cells bx2) :: RwO 51 10 v0 nw ys :: MapT bt told :: Ce a 43 #[.slice AF LP.length cF, .slice none 0 0] :: Bods (fB_ LP) :: BoxT bx2 s2.box :: (Ce w.heap.size 5 #[.int .u8 (y0 : Int), .int .u8 (y1 : Int), .int .u8 1]) :: MapT bs sent :: Qs) from ((((((((((((hp1).tF 10 rfl).tF 8 rfl).tF 8 rfl).tF 7 rfl).tF 6 rfl).tF 11 rfl).tF 11 rfl).tF 10 rfl).tF 11 rfl).tF 10 rfl).tF 10 rfl).tF 11 rfl); clear hp1
    go_wp2_with fail
    refine (answer1 (v0 := .slice none 0 0) (LE := []) HSA.out HX1.out HSN.out HQ2.out hln (by simp) (fun p => by have := HTL.out p; simpa using this)).mono ?_; rintro e w9 ⟨rfl, v', hs9⟩; clear HSA
    go_wp2_with fail
    go_end0
    refine ⟨rfl, v', bx2, LP, by rw [Hbb.out]; exact HLF.out, ?_⟩; rw [Hbb.out, HEE.out, if_neg (by decide), if_neg (by decide), Hs2.out]; have h9 := (hs9.drop 4).drop 6; exact (((((((h9).tF 4 rfl).tF 4 rfl).tF 6 rfl).tF 5 rfl).tF 6 rfl).tF 6 rfl).tF 6 rfl
   ·subst he; have kn := cA (i := 6) HS2.out rfl 10 rfl; have yn := cFz (i := 6) HS2.out rfl 10; have ew : IntKind.i64.wrap ((n : Int) + 1) = (n : Int) + 1 := by rw [IntKind.wrap_i64]; omega
    have HS4 := Lib.hid (show Sep w0 (W.setCell ⟨g, 10, none⟩ (.int .i64 ((n : Int) + 1))) (MapT bs sent :: (Ce a 43 #[.slice AF LP.length cF, .slice none 0 0] :: Rw 51 10 (.slice AF LP.length cF) LP.length (fR_ LP) :: Bods (fB_ LP) :: Ce a1 72 (s2.cells bx2) :: BoxT bx2 s2.box :: (Ce w.heap.size 5 #[.int .u8 (y0 : Int), .int .u8 (y1 : Int), .int .u8 1]) :: Ce g 34 #[.pointer (some ⟨a0, 0, none⟩), .pointer (some ⟨a1, 0, none⟩), .int .u64 (i0 : Int), .int .u64 (i1 : Int), .int .u64 (n0 : Int), .int .u64 (n1 : Int), v0, v1, .map (some bs), .map (some bt), .int .i64 ((n : Int) + 1), .bool false] :: RwO 51 10 v0 nw ys :: MapT bt told :: Qs)) from (cS (i := 6) HS2.out rfl 10 (.int .i64 ((n : Int) + 1))).tF 8 rfl); have HOF : Hid (∀ W : World, Sep w0 W (Ce a 43 #[.slice AF LP.length cF, .slice none 0 0] :: Rw 51 10 (.slice AF LP.length cF) LP.length (fR_ LP) :: Bods (fB_ LP) :: Ce a1 72 (s2.cells bx2) :: BoxT bx2 s2.box :: (Ce w.heap.size 5 #[.int .u8 (y0 : Int), .int .u8 (y1 : Int), .int .u8 1]) :: Ce g 34 #[.pointer (some ⟨a0, 0, none⟩), .pointer (some ⟨a1, 0, none⟩), .int .u64 (i0 : Int), .int .u64 (i1 : Int), .int .u64 (n0 : Int), .int .u64 (n1 : Int), v0, v1, .map (some bs), .map (some bt), .int .i64 ((n : Int) + 1), .bool false] :: RwO 51 10 v0 nw ys :: MapT bt told :: Qs) → Calls Try.prog 28 #[.pointer (some ⟨g, 0, none⟩), .int .i64 1] W (fun e w' => e = .returned (prV (1, i1, s.conn, s.inc, s.known)) ∧ Below W.heap.size W w')) := Lib.hid (fun W hr => by
     have hq := of1 W (n := n + 1) (cH (i := 6) hr rfl) (cH (i := 3) hr rfl) HSN.out; rw [HU.out.2.2.2.2.1, HU.out.2.2.2.2.2.1, HU.out.2.2.2.2.2.2] at hq; exact hq)
    clear HS2
    go_wp2_with fail
    refine wRG (fun dn xv W => MapS2 bs sent (1, i1, s.conn, s.inc, s.known) bb (dn 17) (dn 14) (dn 18) (dn 19) (xv 17) (xv 14) (xv 18) w0 W (Ce a 43 #[.slice AF LP.length cF, .slice none 0 0] :: Rw 51 10 (.slice AF LP.length cF) LP.length (fR_ LP) :: Bods (fB_ LP) :: Ce a1 72 (s2.cells bx2) :: BoxT bx2 s2.box :: (Ce w.heap.size 5 #[.int .u8 (y0 : Int), .int .u8 (y1 : Int), .int .u8 1]) :: Ce g 34 #[.pointer (some ⟨a0, 0, none⟩), .pointer (some ⟨a1, 0, none⟩), .int .u64 (i0 : Int), .int .u64 (i1 : Int), .int .u64 (n0 : Int), .int .u64 (n1 : Int), v0, v1, .map (some bs), .map (some bt), .int .i64 ((n : Int) + 1), .bool false] :: RwO 51 10 v0 nw ys :: MapT bt told :: Qs)) (fun _ _ => True) [xP_ g 0, xP_ g 0, xP_ g 8, xV_ (.map (some bs)), xP_ g 0, xV_ (.int .i64 1), xV_ (prV (1, i1, s.conn, s.inc, s.known)), xP_ g 0, xP_ g 0, xP_ g 8, xV_ (.map (some bs)), xP_ g 0, xV_ (.int .i64 1), xV_ (prV (1, i1, s.conn, s.inc, s.known)), fun v _ => True, xV_ (.slice (some ⟨w.heap.size, 0, none⟩) 3 3), xV_ (.string ⟨bb.toArray⟩), fun v _ => True, fun v _ => True, fun v _ => True] (fun xv => (MapS2.start (q := (1, i1, s.conn, s.inc, s.known)) (y := bb) (x12 := xv 17) (x13 := xv 14) (x15 := xv 18) HS4.out.drew)) ?_ ?_
    ·refine Ep 1 0 g 0 ?_
     refine Ee 2 47 0 ?_
     refine Ee 3 48 1 ?_
     refine EC 4 rfl (fun g h W F a b c d e H K f => ?_) ?_
     ·have f49 := gE (a 49) (by kernel_rfl) (H 2) (by kernel_rfl); have hr := MapS2.rst e; have kk := cA (i := 6) hr rfl 8 rfl; clear H c b d a; refine oP rfl ?_; go_simp; exact f.out _ _ rfl trivial e
     refine Ep 5 0 g 0 ?_
     refine Ei 6 1 (.int .i64 1) ?_
     refine EC 7 rfl (fun h i W F a b c d f H K g => ?_) ?_
     ·have f51 := gE (a 51) (by kernel_rfl) (H 4) (by kernel_rfl); have f52 := gE (a 52) (by kernel_rfl) (H 5) (by kernel_rfl); have hr := MapS2.rst f; clear H c b d a; refine oP rfl ?_; go_simp; refine (HOF.out W hr).mono ?_; rintro e W' ⟨rfl, hb⟩; have hs := f.grow hb; exact g.out _ W' rfl trivial (by simpa [upB, upd] using hs)
     refine Ep 8 0 g 0 ?_
     refine Ee 9 54 7 ?_
     refine Ee 10 55 8 ?_
     refine EC 11 rfl (fun g h W F a b c d e H K f => ?_) ?_
     ·have f56 := gE (a 56) (by kernel_rfl) (H 9) (by kernel_rfl); have hr := MapS2.rst e; have kk := cA (i := 6) hr rfl 8 rfl; clear H c b d a; refine oP rfl ?_; go_simp; exact f.out _ _ rfl trivial e
     refine Ep 12 0 g 0 ?_
     refine Ei 13 1 (.int .i64 1) ?_
     refine EC 14 rfl (fun h i W F a b c d f H K g => ?_) ?_
     ·have f58 := gE (a 58) (by kernel_rfl) (H 11) (by kernel_rfl); have f59 := gE (a 59) (by kernel_rfl) (H 12) (by kernel_rfl); have hr := MapS2.rst f; clear H c b d a; refine oP rfl ?_; go_simp; refine (HOF.out W hr).mono ?_; rintro e W' ⟨rfl, hb⟩; have hs := f.grow hb; exact g.out _ W' rfl trivial (by simpa [upB, upd] using hs)
     refine EC 15 rfl (fun g h W F a b c d e H K f => ?_) ?_
     ·have f57 := gE (a 57) (by kernel_rfl) (H 10) (by kernel_rfl); have f60 := gE (a 60) (by kernel_rfl) (H 13) (by kernel_rfl); have q18 := c 18 uE; have q19 := c 19 (uM 18 uE); rw [b, q18, q19] at e; obtain ⟨u, hrun, hs⟩ := e.look HQ.out; clear H c b d a; refine oP rfl ?_; go_simp; exact f.out _ _ trivial trivial (by simpa [upB, upd, q18, q19] using hs)
     refine Ei 16 4 (.slice (some ⟨w.heap.size, 0, none⟩) 3 3) ?_
     refine EC 17 rfl (fun h j W F a b d e f H K g => ?_) ?_
     ·have f62 := gE (a 62) (by kernel_rfl) (H 15) (by kernel_rfl); have hr := MapS2.rst f; have ky := run_str (c := 3) (sep_reads (i := 5) hr rfl (reads_ce HUS.out)); rw [Hb3.out] at ky; clear H d b e a; refine oP rfl ?_; go_simp; exact g.out _ _ rfl trivial f
     refine EC 18 rfl (fun g h W F a b c d e H K f => ?_) ?_
     ·have f63 := gE (a 63) (by kernel_rfl) (H 16) (by kernel_rfl); have q18 := c 18 uE; have q19 := c 19 (uM 18 uE); rw [b, q18, q19] at e; have hs := e.made; clear H c b d a; refine oP rfl ?_; have g63 := f63; rw [Array.getD_eq_getD_getElem?] at g63; go_simp; exact f.out _ _ trivial trivial (by simpa [upB, upd, q18, q19] using hs)
     refine EC 19 rfl (fun g h W F a b c d e H K f => ?_) ?_
     ·have f61 : F.tmps.getD 61 undef = h 14 := (a 61).trans (by kernel_rfl); have f64 : F.tmps.getD 64 undef = h 17 := (a 64).trans (by kernel_rfl); have q14 := (H 14 uE).1; have q17 := (H 17 uE).1; have q19 := c 19 uE; rw [b, q14, q17, q19] at e; clear H c b d a; refine oP rfl ?_; refine e.app (s := .tmp 61) (x := .tmp 64) (by rfl) f61 f64 HSL.out ?_; intro v W' hs; exact f.out v W' trivial trivial (by simpa [upB, upd, q14, q17, q19] using hs)
     refine EC 20 rfl (fun g h W F a b c d e H K f => ?_) ?_
     ·have f50 := gE (a 50) (by kernel_rfl) (H 3) (by kernel_rfl); have f53 := gE (a 53) (by kernel_rfl) (H 6) (by kernel_rfl); have f65 : F.tmps.getD 65 undef = h 18 := (a 65).trans (by kernel_rfl); have q14 := (H 14 (uM 18 uE)).1; have q18 := (H 18 uE).1; rw [b, q14, q18] at e; obtain ⟨W', hrun, hs⟩ := e.stored; clear H c b d a; refine oP rfl ?_; go_simp; exact f.out undef _ trivial trivial (by simpa [upB, upd, q14, q18] using hs)
     exact EN
    ·intro dn xv W hI H; have q19 := (H 19 (of_decide_eq_true (by kernel_rfl))).1; rw [q19] at hI; have hS := MapS2.done hI; clear H hI; simp only [putAll, Act.put, List.setIfInBounds_toArray, List.set_cons_zero, List.set_cons_succ, Nat.reduceAdd]; clear kn yn ew HOF HS4; have HS5 := Lib.hid hS; clear hS; have k0 := cA (i := 1) HS5.out rfl 0 rfl; have k1 := cA (i := 1) HS5.out rfl 1 rfl; have hp1 := (sep_rwNil (sep_bodsNil HS5.out) 49 4).lastFront; have HSA := Lib.hid (show Sep w0 W (Rw 51 10 (.slice AF LP.length cF) LP.length (fR_ LP) :: Rw 49 4 (.slice none 0 0) 0 [] :: Bods [] :: Ce g 34 (twC (.pointer (some ⟨a0, 0, none⟩)) (.pointer (some ⟨a1, 0, none⟩)) i0 i1 n0 n1 v0 v1 bs bt (n + 1)) :: Ce a1 72 (s2.cells bx2) :: RwO 51 10 v0 nw ys :: MapT bt told :: MapT bs (updM sent (1, i1, s.conn, s.inc, s.known) (sent (1, i1, s.conn, s.inc, s.known) ++ [bb])) :: Ce a 43 #[.slice AF LP.length cF, .slice none 0 0] :: Bods (fB_ LP) :: BoxT bx2 s2.box :: (Ce w.heap.size 5 #[.int .u8 (y0 : Int), .int .u8 (y1 : Int), .int .u8 1]) :: Qs) from ((((((((((((hp1).tF 8 rfl).tF 8 rfl).tF 7 rfl).tF 6 rfl).tF 6 rfl).tF 11 rfl).tF 11 rfl).tF 10 rfl).tF 11 rfl).tF 10 rfl).tF 10 rfl).tF 11 rfl); clear hp1
     go_wp2_with fail
     refine (answer1 (v0 := .slice none 0 0) (LE := []) HSA.out HX1.out HSN.out HQ2.out hln (by simp) (fun p => by have := HTL.out p; simpa using this)).mono ?_; rintro e w9 ⟨rfl, v', hs9⟩; clear HSA
     go_wp2_with fail
     go_end0
     refine ⟨rfl, v', bx2, LP, by rw [Hbb.out]; exact HLF.out, ?_⟩; rw [Hbb.out, HEE.out, if_pos rfl, if_pos rfl, Hs2.out]; have h9 := (hs9.drop 5).drop 7; exact (((((((h9).tF 5 rfl).tF 4 rfl).tF 5 rfl).tF 5 rfl).tF 6 rfl).tF 6 rfl).tF 6 rfl
end Go.Proofs.Ytngegjboenfmeaa
/- Take of any link. -/
namespace Go.Proofs.Ytngegjboenfmeaa
open Go Go.RowKit Go.Shelf
set_option linter.unusedVariables false
set_option maxRecDepth 100000
set_option linter.unusedSimpArgs false
attribute [local go_sem] Oper.semAt_some

set_option maxHeartbeats 51200000 in
theorem takeNo {w0 w : World} {Qs : List SP} {X : SP} {g now : Nat} {s : LS} {f : Fr} {bx : Value} {A : Option Addr} {c : Nat} (h : Sep w0 w (Ce g 72 (s.cells bx) :: BoxT bx s.box :: X :: Qs)) (hX : Reads X A f.body) (hs : s.Num) (hbl : f.body.length ≤ maxLen) (hack : f.ack < 18446744073709551616) (hseq : f.seq < 18446744073709551616) (hnow : now < 18446744073709551616) (hlk : s.looks f = false) :
  Calls Try.prog 15 #[.pointer (some ⟨g, 0, none⟩), .int .u64 (now : Int), .agg (f.cells A c)] w (Ans w0 g (X :: Qs) (s.takeF now f) (s.takeE now f) (s.take now f)) := by
 obtain ⟨BA, bc, rfl, hcc, hcm, hbx⟩ := sep_boxForm (i := 1) h rfl hs.small; have HOK := Lib.hid hs; obtain ⟨sS, HSS⟩ : ∃ x, Hid (s = x) := ⟨_, Lib.hid rfl⟩; obtain ⟨fF, HFF⟩ : ∃ x, Hid (f = x) := ⟨_, Lib.hid rfl⟩; have HOS : Hid (sS.Num) := Lib.hid (by rw [← HSS.out]; exact HOK.out)
 suffices hgoal : Calls Try.prog 15 #[.pointer (some ⟨g, 0, none⟩), .int .u64 (now : Int), .agg (f.cells A c)] w (Ans w0 g (X :: Qs) (sS.takeF now fF) (sS.takeE now fF) (sS.take now fF)) by
  rw [HSS.out, HFF.out]; rw [HFF.out] at hgoal; exact hgoal
 obtain ⟨base, box, got, sn, si, peer, conn, inc, known, up, heard, sent⟩ := s; obtain ⟨kk, ffr, fto, finc, fconn, pinc, pconn, ack, seq, body⟩ := f; have hsn : sn ≠ 0 := hs.sn; have HSN := Lib.hid hsn; have HBL : Hid (body.length ≤ maxLen) := Lib.hid hbl; have hack : ack < 18446744073709551616 := hack; have hseq : seq < 18446744073709551616 := hseq; have HX : Hid (Reads X A body) := Lib.hid hX; obtain ⟨p1, Hp1⟩ : ∃ q, Hid ((!(mayB kk ffr fto finc fconn pinc pconn ack seq body.length && decide (ffr = peer) && decide (fto = sn))) = q) := ⟨_, Lib.hid rfl⟩; obtain ⟨p2, Hp2⟩ : ∃ q, Hid ((decide (finc < inc) || (decide (finc = inc) && decide (fconn < known))) = q) := ⟨_, Lib.hid rfl⟩
 obtain ⟨p3, Hp3⟩ : ∃ q, Hid ((decide (finc ≠ inc) || decide (fconn ≠ known)) = q) := ⟨_, Lib.hid rfl⟩
 have HLOOK : Hid (sS.looks fF = (!p1 && !p2)) := Lib.hid (by rw [← HSS.out, ← HFF.out, ← Hp1.out, ← Hp2.out]; simp [LS.looks]); have HOTH : Hid (sS.other fF = p3) := Lib.hid (by rw [← HSS.out, ← HFF.out]; exact Hp3.out); show Calls Try.prog 15 #[.pointer (some ⟨g, 0, none⟩), .int .u64 (now : Int), .agg #[.int .i64 kk, .int .i64 ffr, .int .i64 fto, .int .u64 (finc : Int), .int .u64 (fconn : Int), .int .u64 (pinc : Int), .int .u64 (pconn : Int), .int .u64 (ack : Int), .int .u64 (seq : Int), .slice A body.length c]] w _; have HS0 := Lib.hid (show Sep w0 (((((w.alloc (.cells #[.pointer (some ⟨g, 0, none⟩)] 26)).alloc (.cells #[.int .u64 (now : Int)] 28)).alloc (.cells #[.int .i64 kk, .int .i64 ffr, .int .i64 fto, .int .u64 (finc : Int), .int .u64 (fconn : Int), .int .u64 (pinc : Int), .int .u64 (pconn : Int), .int .u64 (ack : Int), .int .u64 (seq : Int), .slice A body.length c] 51)).alloc (.cells #[.slice none 0 0, .slice none 0 0] 43)).alloc (.cells #[.slice none 0 0, .slice none 0 0] 43)) (TKaF w now g X Qs kk ffr fto finc fconn pinc pconn ack seq A body.length c (Rw 51 10 (.slice none 0 0) 0 []) (Bods []) (Rw 49 4 (.slice none 0 0) 0 []) (Bods []) (#[.slice none 0 0, .slice none 0 0]) (#[.int .u64 (base : Int), .slice BA box.length bc, .int .u64 (got : Int), .int .i64 sn, .int .u64 (si : Int), .int .i64 peer, .int .u64 (conn : Int), .int .u64 (inc : Int), .int .u64 (known : Int), .bool up, .int .u64 (heard : Int), .int .u64 (sent : Int)]) (BoxT (.slice BA box.length bc) box)) by
  have := sep_ceF (sep_ceF (sep_ceF (sep_ceF (sep_ceF h #[.pointer (some ⟨g, 0, none⟩)] 26) #[.int .u64 (now : Int)] 28) #[.int .i64 kk, .int .i64 ffr, .int .i64 fto, .int .u64 (finc : Int), .int .u64 (fconn : Int), .int .u64 (pinc : Int), .int .u64 (pconn : Int), .int .u64 (ack : Int), .int .u64 (seq : Int), .slice A body.length c] 51) #[.slice none 0 0, .slice none 0 0] 43) #[.slice none 0 0, .slice none 0 0] 43
  simp only [World.size_alloc] at this; have := sep_bodsNil (sep_rwNil (sep_bodsNil (sep_rwNil this 51 10).lastFront) 49 4).lastFront; exact (((((((((((this).tF 7 rfl).tF 7 rfl).tF 10 rfl).tF 10 rfl).tF 10 rfl).tF 10 rfl).tF 10 rfl).tF 7 rfl).tF 8 rfl).tF 9 rfl).tF 10 rfl)
 clear h hs hsn hbx hbl hX; refine calls_marks 6 Try.func15 rfl ?_; have HLOOK2 : Hid (sS.looks fF = false) := Lib.hid (by rw [← HSS.out, ← HFF.out]; exact hlk); clear hlk; simp only [Try.ntmps15, List.size_toArray, List.length_cons, List.length_nil, Nat.reduceAdd, Nat.reduceSub, Array.replicate_succ, Array.replicate_zero, List.push_toArray, List.append_toArray, List.nil_append, List.cons_append]
 go_upto_region 2 with fail
 go_cut [42] from 16 to 42 (fun t wx => t = .bool p1 ∧ Sep w0 wx (TKaF w now g X Qs kk ffr fto finc fconn pinc pconn ack seq A body.length c (Rw 51 10 (.slice none 0 0) 0 []) (Bods []) (Rw 49 4 (.slice none 0 0) 0 []) (Bods []) (#[.slice none 0 0, .slice none 0 0]) (#[.int .u64 (base : Int), .slice BA box.length bc, .int .u64 (got : Int), .int .i64 sn, .int .u64 (si : Int), .int .i64 peer, .int .u64 (conn : Int), .int .u64 (inc : Int), .int .u64 (known : Int), .bool up, .int .u64 (heard : Int), .int .u64 (sent : Int)]) (BoxT (.slice BA box.length bc) box)))
 case first =>
  by_cases hm : mayB kk ffr fto finc fconn pinc pconn ack seq body.length = true
  ·have HM := Lib.hid hm; clear hm
   by_cases hf : ffr = peer
   ·have e1 : (ffr != peer) = false := by simp [hf]
    have Hf := Lib.hid hf; clear hf
    by_cases ht : fto = sn
    ·have e2 : (fto != sn) = false := by simp [ht]
     have Ht := Lib.hid ht; clear ht
     go_wp2_with fail
     refine wRG (fun dn xv W => Sep w0 W (TKaF w now g X Qs kk ffr fto finc fconn pinc pconn ack seq A body.length c (Rw 51 10 (.slice none 0 0) 0 []) (Bods []) (Rw 49 4 (.slice none 0 0) 0 []) (Bods []) (#[.slice none 0 0, .slice none 0 0]) (#[.int .u64 (base : Int), .slice BA box.length bc, .int .u64 (got : Int), .int .i64 sn, .int .u64 (si : Int), .int .i64 peer, .int .u64 (conn : Int), .int .u64 (inc : Int), .int .u64 (known : Int), .bool up, .int .u64 (heard : Int), .int .u64 (sent : Int)]) (BoxT (.slice BA box.length bc) box))) (fun _ _ => True) [xP_ g 0, xV_ (.bool true), xV_ (.bool false), xV_ (.bool false), xV_ (.agg #[.int .i64 kk, .int .i64 ffr, .int .i64 fto, .int .u64 (finc : Int), .int .u64 (fconn : Int), .int .u64 (pinc : Int), .int .u64 (pconn : Int), .int .u64 (ack : Int), .int .u64 (seq : Int), .slice A body.length c]), xV_ (.bool true), xV_ (.bool false), xV_ (.bool false), xV_ (.bool false), xP_ (w.heap.size + 1 + 1) 1, xV_ (.int .i64 ffr), xP_ g 0, xP_ g 0, xP_ g 5, xV_ (.int .i64 peer), xV_ (.bool false), xV_ (.bool false), xV_ (.bool false), xP_ (w.heap.size + 1 + 1) 2, xV_ (.int .i64 fto), xP_ g 0, xP_ g 0, xP_ g 3, xP_ g 3, xV_ (.int .i64 sn), xV_ (.bool false), xV_ (.bool false)] (fun xv => by simpa using HS0.out.drew) ?_ ?_
     ·refine Epk 1 3 w.heap.size 0 (fun _ _ _ e => cA (i := 6) e rfl 0 rfl) ?_
      refine EC 2 rfl (fun j k W F a b c d f H K h => ?_) ?_
      ·have f16 := gE (a 16) (by kernel_rfl) (H 0) (by kernel_rfl); clear H c b d a; refine oP rfl ?_; go_simp; refine (made_yes W g sn HSN.out (cA (i := 7) f rfl 3 rfl)).mono ?_; rintro e W' ⟨rfl, hb⟩; exact h.out _ W' rfl trivial (by simpa [upB, upd] using f.grow hb)
      refine Ee 3 17 1 ?_
      refine Ee 4 18 2 ?_
      refine EC 5 rfl (fun g h W F a b c d e H K f => ?_) ?_
      ·have f5 : F.tmps.getD 5 undef = .pointer (some ⟨w.heap.size + 1 + 1, 0, none⟩) := (a 5).trans (by kernel_rfl); have f19 := gE (a 19) (by kernel_rfl) (H 3) (by kernel_rfl); have k9_0 := cA (i := 9) e rfl 0 rfl; have k9_1 := cA (i := 9) e rfl 1 rfl; have k9_2 := cA (i := 9) e rfl 2 rfl; have k9_3 := cA (i := 9) e rfl 3 rfl; have k9_4 := cA (i := 9) e rfl 4 rfl; have k9_5 := cA (i := 9) e rfl 5 rfl; have k9_6 := cA (i := 9) e rfl 6 rfl; have k9_7 := cA (i := 9) e rfl 7 rfl; have k9_8 := cA (i := 9) e rfl 8 rfl; have k9_9 := cA (i := 9) e rfl 9 rfl; clear H c b d a; refine oG rfl (by kernel_rfl) f19 ?_; go_simp; exact f.out _ _ rfl trivial e
      refine EC 6 rfl (fun i j W F a b d f g H K h => ?_) ?_
      ·have f20 := gE (a 20) (by kernel_rfl) (H 4) (by kernel_rfl); have f19 := gE (a 19) (by kernel_rfl) (H 3) (by kernel_rfl); clear H d b f a; refine oG rfl (by kernel_rfl) f19 ?_; go_simp; refine (mayFk (w := W) (c := c) (A := A) HM.out HBL.out).mono ?_; rintro e W' ⟨rfl, hb⟩; exact h.out _ W' rfl trivial (by simpa [upB, upd] using g.grow hb)
      refine Eeeg 7 21 5 19 3 ?_
      refine Eee 8 19 3 22 6 ?_
      refine Ee 9 23 7 ?_
      refine Epeg 10 5 (w.heap.size + 1 + 1) 0 24 8 ?_
      refine Eeegk 11 25 9 24 8 (fun _ _ _ e => cA (i := 9) e rfl 1 rfl) ?_
      refine Epegk 12 3 w.heap.size 0 24 8 (fun _ _ _ e => cA (i := 6) e rfl 0 rfl) ?_
      refine Eeeg 13 27 11 24 8 ?_
      refine Eeeg 14 28 12 24 8 ?_
      refine Eeegk 15 29 13 24 8 (fun _ _ _ e => cA (i := 7) e rfl 5 rfl) ?_
      refine Eeeeg 16 26 10 30 14 24 8 ?_
      refine Eee 17 24 8 31 15 ?_
      refine Ee 18 32 16 ?_
      refine Epeg 19 5 (w.heap.size + 1 + 1) 0 33 17 ?_
      refine Eeegk 20 34 18 33 17 (fun _ _ _ e => cA (i := 9) e rfl 2 rfl) ?_
      refine Epegk 21 3 w.heap.size 0 33 17 (fun _ _ _ e => cA (i := 6) e rfl 0 rfl) ?_
      refine Eeeg 22 36 20 33 17 ?_
      refine Eeeg 23 37 21 33 17 ?_
      refine Eeeg 24 38 22 33 17 ?_
      refine Eeegk 25 39 23 33 17 (fun _ _ _ e => cA (i := 7) e rfl 3 rfl) ?_
      refine Eeeeg 26 35 19 40 24 33 17 ?_
      refine Eee 27 33 17 41 25 ?_
      exact EN
     ·intro dn xv W hI H; have q26 : xv 26 = .bool false := (H 26 (of_decide_eq_true (by kernel_rfl))).2; have hS : Sep w0 W (TKaF w now g X Qs kk ffr fto finc fconn pinc pconn ack seq A body.length c (Rw 51 10 (.slice none 0 0) 0 []) (Bods []) (Rw 49 4 (.slice none 0 0) 0 []) (Bods []) (#[.slice none 0 0, .slice none 0 0]) (#[.int .u64 (base : Int), .slice BA box.length bc, .int .u64 (got : Int), .int .i64 sn, .int .u64 (si : Int), .int .i64 peer, .int .u64 (conn : Int), .int .u64 (inc : Int), .int .u64 (known : Int), .bool up, .int .u64 (heard : Int), .int .u64 (sent : Int)]) (BoxT (.slice BA box.length bc) box)) := hI; clear H hI; simp only [putAll, Act.put, List.setIfInBounds_toArray, List.set_cons_zero, List.set_cons_succ, Nat.reduceAdd, q26]; clear q26
      go_wp2_with fail
      go_meet
      case rel => exact ⟨by rw [← Hp1.out, HM.out, decide_eq_true Hf.out, decide_eq_true Ht.out]; rfl, hS⟩
    ·have e2 : (fto != sn) = true := by simp [ht]
     have Ht := Lib.hid ht; clear ht
     go_wp2_with fail
     refine wRG (fun dn xv W => Sep w0 W (TKaF w now g X Qs kk ffr fto finc fconn pinc pconn ack seq A body.length c (Rw 51 10 (.slice none 0 0) 0 []) (Bods []) (Rw 49 4 (.slice none 0 0) 0 []) (Bods []) (#[.slice none 0 0, .slice none 0 0]) (#[.int .u64 (base : Int), .slice BA box.length bc, .int .u64 (got : Int), .int .i64 sn, .int .u64 (si : Int), .int .i64 peer, .int .u64 (conn : Int), .int .u64 (inc : Int), .int .u64 (known : Int), .bool up, .int .u64 (heard : Int), .int .u64 (sent : Int)]) (BoxT (.slice BA box.length bc) box))) (fun _ _ => True) [xP_ g 0, xV_ (.bool true), xV_ (.bool false), xV_ (.bool false), xV_ (.agg #[.int .i64 kk, .int .i64 ffr, .int .i64 fto, .int .u64 (finc : Int), .int .u64 (fconn : Int), .int .u64 (pinc : Int), .int .u64 (pconn : Int), .int .u64 (ack : Int), .int .u64 (seq : Int), .slice A body.length c]), xV_ (.bool true), xV_ (.bool false), xV_ (.bool false), xV_ (.bool false), xP_ (w.heap.size + 1 + 1) 1, xV_ (.int .i64 ffr), xP_ g 0, xP_ g 0, xP_ g 5, xV_ (.int .i64 peer), xV_ (.bool false), xV_ (.bool false), xV_ (.bool false), xP_ (w.heap.size + 1 + 1) 2, xV_ (.int .i64 fto), xP_ g 0, xP_ g 0, xP_ g 3, xP_ g 3, xV_ (.int .i64 sn), xV_ (.bool true), xV_ (.bool true)] (fun xv => by simpa using HS0.out.drew) ?_ ?_
     ·refine Epk 1 3 w.heap.size 0 (fun _ _ _ e => cA (i := 6) e rfl 0 rfl) ?_
      refine EC 2 rfl (fun j k W F a b c d f H K h => ?_) ?_
      ·have f16 := gE (a 16) (by kernel_rfl) (H 0) (by kernel_rfl); clear H c b d a; refine oP rfl ?_; go_simp; refine (made_yes W g sn HSN.out (cA (i := 7) f rfl 3 rfl)).mono ?_; rintro e W' ⟨rfl, hb⟩; exact h.out _ W' rfl trivial (by simpa [upB, upd] using f.grow hb)
      refine Ee 3 17 1 ?_
      refine Ee 4 18 2 ?_
      refine EC 5 rfl (fun g h W F a b c d e H K f => ?_) ?_
      ·have f5 : F.tmps.getD 5 undef = .pointer (some ⟨w.heap.size + 1 + 1, 0, none⟩) := (a 5).trans (by kernel_rfl); have f19 := gE (a 19) (by kernel_rfl) (H 3) (by kernel_rfl); have k9_0 := cA (i := 9) e rfl 0 rfl; have k9_1 := cA (i := 9) e rfl 1 rfl; have k9_2 := cA (i := 9) e rfl 2 rfl; have k9_3 := cA (i := 9) e rfl 3 rfl; have k9_4 := cA (i := 9) e rfl 4 rfl; have k9_5 := cA (i := 9) e rfl 5 rfl; have k9_6 := cA (i := 9) e rfl 6 rfl; have k9_7 := cA (i := 9) e rfl 7 rfl; have k9_8 := cA (i := 9) e rfl 8 rfl; have k9_9 := cA (i := 9) e rfl 9 rfl; clear H c b d a; refine oG rfl (by kernel_rfl) f19 ?_; go_simp; exact f.out _ _ rfl trivial e
      refine EC 6 rfl (fun i j W F a b d f g H K h => ?_) ?_
      ·have f20 := gE (a 20) (by kernel_rfl) (H 4) (by kernel_rfl); have f19 := gE (a 19) (by kernel_rfl) (H 3) (by kernel_rfl); clear H d b f a; refine oG rfl (by kernel_rfl) f19 ?_; go_simp; refine (mayFk (w := W) (c := c) (A := A) HM.out HBL.out).mono ?_; rintro e W' ⟨rfl, hb⟩; exact h.out _ W' rfl trivial (by simpa [upB, upd] using g.grow hb)
      refine Eeeg 7 21 5 19 3 ?_
      refine Eee 8 19 3 22 6 ?_
      refine Ee 9 23 7 ?_
      refine Epeg 10 5 (w.heap.size + 1 + 1) 0 24 8 ?_
      refine Eeegk 11 25 9 24 8 (fun _ _ _ e => cA (i := 9) e rfl 1 rfl) ?_
      refine Epegk 12 3 w.heap.size 0 24 8 (fun _ _ _ e => cA (i := 6) e rfl 0 rfl) ?_
      refine Eeeg 13 27 11 24 8 ?_
      refine Eeeg 14 28 12 24 8 ?_
      refine Eeegk 15 29 13 24 8 (fun _ _ _ e => cA (i := 7) e rfl 5 rfl) ?_
      refine Eeeeg 16 26 10 30 14 24 8 ?_
      refine Eee 17 24 8 31 15 ?_
      refine Ee 18 32 16 ?_
      refine Epeg 19 5 (w.heap.size + 1 + 1) 0 33 17 ?_
      refine Eeegk 20 34 18 33 17 (fun _ _ _ e => cA (i := 9) e rfl 2 rfl) ?_
      refine Epegk 21 3 w.heap.size 0 33 17 (fun _ _ _ e => cA (i := 6) e rfl 0 rfl) ?_
      refine Eeeg 22 36 20 33 17 ?_
      refine Eeeg 23 37 21 33 17 ?_
      refine Eeeg 24 38 22 33 17 ?_
      refine Eeegk 25 39 23 33 17 (fun _ _ _ e => cA (i := 7) e rfl 3 rfl) ?_
      refine Eeeeg 26 35 19 40 24 33 17 ?_
      refine Eee 27 33 17 41 25 ?_
      exact EN
     ·intro dn xv W hI H; have q26 : xv 26 = .bool true := (H 26 (of_decide_eq_true (by kernel_rfl))).2; have hS : Sep w0 W (TKaF w now g X Qs kk ffr fto finc fconn pinc pconn ack seq A body.length c (Rw 51 10 (.slice none 0 0) 0 []) (Bods []) (Rw 49 4 (.slice none 0 0) 0 []) (Bods []) (#[.slice none 0 0, .slice none 0 0]) (#[.int .u64 (base : Int), .slice BA box.length bc, .int .u64 (got : Int), .int .i64 sn, .int .u64 (si : Int), .int .i64 peer, .int .u64 (conn : Int), .int .u64 (inc : Int), .int .u64 (known : Int), .bool up, .int .u64 (heard : Int), .int .u64 (sent : Int)]) (BoxT (.slice BA box.length bc) box)) := hI; clear H hI; simp only [putAll, Act.put, List.setIfInBounds_toArray, List.set_cons_zero, List.set_cons_succ, Nat.reduceAdd, q26]; clear q26
      go_wp2_with fail
      go_meet
      case rel => exact ⟨by rw [← Hp1.out, HM.out, decide_eq_true Hf.out, decide_eq_false Ht.out]; rfl, hS⟩
   ·have e1 : (ffr != peer) = true := by simp [hf]
    have Hf := Lib.hid hf; clear hf
    go_wp2_with fail
    refine wRG (fun dn xv W => Sep w0 W (TKaF w now g X Qs kk ffr fto finc fconn pinc pconn ack seq A body.length c (Rw 51 10 (.slice none 0 0) 0 []) (Bods []) (Rw 49 4 (.slice none 0 0) 0 []) (Bods []) (#[.slice none 0 0, .slice none 0 0]) (#[.int .u64 (base : Int), .slice BA box.length bc, .int .u64 (got : Int), .int .i64 sn, .int .u64 (si : Int), .int .i64 peer, .int .u64 (conn : Int), .int .u64 (inc : Int), .int .u64 (known : Int), .bool up, .int .u64 (heard : Int), .int .u64 (sent : Int)]) (BoxT (.slice BA box.length bc) box))) (fun _ _ => True) [xP_ g 0, xV_ (.bool true), xV_ (.bool false), xV_ (.bool false), xV_ (.agg #[.int .i64 kk, .int .i64 ffr, .int .i64 fto, .int .u64 (finc : Int), .int .u64 (fconn : Int), .int .u64 (pinc : Int), .int .u64 (pconn : Int), .int .u64 (ack : Int), .int .u64 (seq : Int), .slice A body.length c]), xV_ (.bool true), xV_ (.bool false), xV_ (.bool false), xV_ (.bool false), xP_ (w.heap.size + 1 + 1) 1, xV_ (.int .i64 ffr), xP_ g 0, xP_ g 0, xP_ g 5, xV_ (.int .i64 peer), xV_ (.bool true), xV_ (.bool true), xV_ (.bool true), xV_ undef, xV_ undef, xV_ undef, xV_ undef, xV_ undef, xV_ undef, xV_ undef, xV_ undef, xV_ (.bool true)] (fun xv => by simpa using HS0.out.drew) ?_ ?_
    ·refine Epk 1 3 w.heap.size 0 (fun _ _ _ e => cA (i := 6) e rfl 0 rfl) ?_
     refine EC 2 rfl (fun j k W F a b c d f H K h => ?_) ?_
     ·have f16 := gE (a 16) (by kernel_rfl) (H 0) (by kernel_rfl); clear H c b d a; refine oP rfl ?_; go_simp; refine (made_yes W g sn HSN.out (cA (i := 7) f rfl 3 rfl)).mono ?_; rintro e W' ⟨rfl, hb⟩; exact h.out _ W' rfl trivial (by simpa [upB, upd] using f.grow hb)
     refine Ee 3 17 1 ?_
     refine Ee 4 18 2 ?_
     refine EC 5 rfl (fun g h W F a b c d e H K f => ?_) ?_
     ·have f5 : F.tmps.getD 5 undef = .pointer (some ⟨w.heap.size + 1 + 1, 0, none⟩) := (a 5).trans (by kernel_rfl); have f19 := gE (a 19) (by kernel_rfl) (H 3) (by kernel_rfl); have k9_0 := cA (i := 9) e rfl 0 rfl; have k9_1 := cA (i := 9) e rfl 1 rfl; have k9_2 := cA (i := 9) e rfl 2 rfl; have k9_3 := cA (i := 9) e rfl 3 rfl; have k9_4 := cA (i := 9) e rfl 4 rfl; have k9_5 := cA (i := 9) e rfl 5 rfl; have k9_6 := cA (i := 9) e rfl 6 rfl; have k9_7 := cA (i := 9) e rfl 7 rfl; have k9_8 := cA (i := 9) e rfl 8 rfl; have k9_9 := cA (i := 9) e rfl 9 rfl; clear H c b d a; refine oG rfl (by kernel_rfl) f19 ?_; go_simp; exact f.out _ _ rfl trivial e
     refine EC 6 rfl (fun i j W F a b d f g H K h => ?_) ?_
     ·have f20 := gE (a 20) (by kernel_rfl) (H 4) (by kernel_rfl); have f19 := gE (a 19) (by kernel_rfl) (H 3) (by kernel_rfl); clear H d b f a; refine oG rfl (by kernel_rfl) f19 ?_; go_simp; refine (mayFk (w := W) (c := c) (A := A) HM.out HBL.out).mono ?_; rintro e W' ⟨rfl, hb⟩; exact h.out _ W' rfl trivial (by simpa [upB, upd] using g.grow hb)
     refine Eeeg 7 21 5 19 3 ?_
     refine Eee 8 19 3 22 6 ?_
     refine Ee 9 23 7 ?_
     refine Epeg 10 5 (w.heap.size + 1 + 1) 0 24 8 ?_
     refine Eeegk 11 25 9 24 8 (fun _ _ _ e => cA (i := 9) e rfl 1 rfl) ?_
     refine Epegk 12 3 w.heap.size 0 24 8 (fun _ _ _ e => cA (i := 6) e rfl 0 rfl) ?_
     refine Eeeg 13 27 11 24 8 ?_
     refine Eeeg 14 28 12 24 8 ?_
     refine Eeegk 15 29 13 24 8 (fun _ _ _ e => cA (i := 7) e rfl 5 rfl) ?_
     refine Eeeeg 16 26 10 30 14 24 8 ?_
     refine Eee 17 24 8 31 15 ?_
     refine Ee 18 32 16 ?_
     refine Eo 19 33 17 ?_
     refine EC 20 rfl (fun g h W F a b c d e H K f => ?_) ?_
     ·have f33 := gE (a 33) (by kernel_rfl) (H 17) (by kernel_rfl); have k9_2 := cA (i := 9) e rfl 2 rfl; clear H c b d a; refine off_guard rfl (by kernel_rfl) f33 (by decide) ?_; exact f.out _ _ rfl trivial e
     refine EC 21 rfl (fun g h W F a b c d e H K f => ?_) ?_
     ·have f33 := gE (a 33) (by kernel_rfl) (H 17) (by kernel_rfl); have k6_0 := cA (i := 6) e rfl 0 rfl; clear H c b d a; refine off_guard rfl (by kernel_rfl) f33 (by decide) ?_; exact f.out _ _ rfl trivial e
     refine Eo 22 33 17 ?_
     refine Eo 23 33 17 ?_
     refine Eo 24 33 17 ?_
     refine EC 25 rfl (fun g h W F a b c d e H K f => ?_) ?_
     ·have f33 := gE (a 33) (by kernel_rfl) (H 17) (by kernel_rfl); have k7_3 := cA (i := 7) e rfl 3 rfl; clear H c b d a; refine off_guard rfl (by kernel_rfl) f33 (by decide) ?_; exact f.out _ _ rfl trivial e
     refine Eo 26 33 17 ?_
     refine Eee 27 33 17 41 25 ?_
     exact EN
    ·intro dn xv W hI H; have q26 : xv 26 = .bool true := (H 26 (of_decide_eq_true (by kernel_rfl))).2; have hS : Sep w0 W (TKaF w now g X Qs kk ffr fto finc fconn pinc pconn ack seq A body.length c (Rw 51 10 (.slice none 0 0) 0 []) (Bods []) (Rw 49 4 (.slice none 0 0) 0 []) (Bods []) (#[.slice none 0 0, .slice none 0 0]) (#[.int .u64 (base : Int), .slice BA box.length bc, .int .u64 (got : Int), .int .i64 sn, .int .u64 (si : Int), .int .i64 peer, .int .u64 (conn : Int), .int .u64 (inc : Int), .int .u64 (known : Int), .bool up, .int .u64 (heard : Int), .int .u64 (sent : Int)]) (BoxT (.slice BA box.length bc) box)) := hI; clear H hI; simp only [putAll, Act.put, List.setIfInBounds_toArray, List.set_cons_zero, List.set_cons_succ, Nat.reduceAdd, q26]; clear q26
     go_wp2_with fail
     go_meet
     case rel => exact ⟨by rw [← Hp1.out, HM.out, decide_eq_false Hf.out]; rfl, hS⟩
  ·simp only [Bool.not_eq_true] at hm; have HM := Lib.hid hm; clear hm
   go_wp2_with fail
   refine wRG (fun dn xv W => Sep w0 W (TKaF w now g X Qs kk ffr fto finc fconn pinc pconn ack seq A body.length c (Rw 51 10 (.slice none 0 0) 0 []) (Bods []) (Rw 49 4 (.slice none 0 0) 0 []) (Bods []) (#[.slice none 0 0, .slice none 0 0]) (#[.int .u64 (base : Int), .slice BA box.length bc, .int .u64 (got : Int), .int .i64 sn, .int .u64 (si : Int), .int .i64 peer, .int .u64 (conn : Int), .int .u64 (inc : Int), .int .u64 (known : Int), .bool up, .int .u64 (heard : Int), .int .u64 (sent : Int)]) (BoxT (.slice BA box.length bc) box))) (fun _ _ => True) [xP_ g 0, xV_ (.bool true), xV_ (.bool false), xV_ (.bool false), xV_ (.agg #[.int .i64 kk, .int .i64 ffr, .int .i64 fto, .int .u64 (finc : Int), .int .u64 (fconn : Int), .int .u64 (pinc : Int), .int .u64 (pconn : Int), .int .u64 (ack : Int), .int .u64 (seq : Int), .slice A body.length c]), xV_ (.bool false), xV_ (.bool true), xV_ (.bool true), xV_ (.bool true), xV_ undef, xV_ undef, xV_ undef, xV_ undef, xV_ undef, xV_ undef, xV_ undef, xV_ (.bool true), xV_ (.bool true), xV_ undef, xV_ undef, xV_ undef, xV_ undef, xV_ undef, xV_ undef, xV_ undef, xV_ undef, xV_ (.bool true)] (fun xv => by simpa using HS0.out.drew) ?_ ?_
   ·refine Epk 1 3 w.heap.size 0 (fun _ _ _ e => cA (i := 6) e rfl 0 rfl) ?_
    refine EC 2 rfl (fun j k W F a b c d f H K h => ?_) ?_
    ·have f16 := gE (a 16) (by kernel_rfl) (H 0) (by kernel_rfl); clear H c b d a; refine oP rfl ?_; go_simp; refine (made_yes W g sn HSN.out (cA (i := 7) f rfl 3 rfl)).mono ?_; rintro e W' ⟨rfl, hb⟩; exact h.out _ W' rfl trivial (by simpa [upB, upd] using f.grow hb)
    refine Ee 3 17 1 ?_
    refine Ee 4 18 2 ?_
    refine EC 5 rfl (fun g h W F a b c d e H K f => ?_) ?_
    ·have f5 : F.tmps.getD 5 undef = .pointer (some ⟨w.heap.size + 1 + 1, 0, none⟩) := (a 5).trans (by kernel_rfl); have f19 := gE (a 19) (by kernel_rfl) (H 3) (by kernel_rfl); have k9_0 := cA (i := 9) e rfl 0 rfl; have k9_1 := cA (i := 9) e rfl 1 rfl; have k9_2 := cA (i := 9) e rfl 2 rfl; have k9_3 := cA (i := 9) e rfl 3 rfl; have k9_4 := cA (i := 9) e rfl 4 rfl; have k9_5 := cA (i := 9) e rfl 5 rfl; have k9_6 := cA (i := 9) e rfl 6 rfl; have k9_7 := cA (i := 9) e rfl 7 rfl; have k9_8 := cA (i := 9) e rfl 8 rfl; have k9_9 := cA (i := 9) e rfl 9 rfl; clear H c b d a; refine oG rfl (by kernel_rfl) f19 ?_; go_simp; exact f.out _ _ rfl trivial e
    refine EC 6 rfl (fun i j W F a b d f g H K h => ?_) ?_
    ·have f20 := gE (a 20) (by kernel_rfl) (H 4) (by kernel_rfl); have f19 := gE (a 19) (by kernel_rfl) (H 3) (by kernel_rfl); clear H d b f a; refine oG rfl (by kernel_rfl) f19 ?_; go_simp; refine (mayFk (w := W) (c := c) (A := A) HM.out HBL.out).mono ?_; rintro e W' ⟨rfl, hb⟩; exact h.out _ W' rfl trivial (by simpa [upB, upd] using g.grow hb)
    refine Eeeg 7 21 5 19 3 ?_
    refine Eee 8 19 3 22 6 ?_
    refine Ee 9 23 7 ?_
    refine Eo 10 24 8 ?_
    refine EC 11 rfl (fun g h W F a b c d e H K f => ?_) ?_
    ·have f24 := gE (a 24) (by kernel_rfl) (H 8) (by kernel_rfl); have k9_1 := cA (i := 9) e rfl 1 rfl; clear H c b d a; refine off_guard rfl (by kernel_rfl) f24 (by decide) ?_; exact f.out _ _ rfl trivial e
    refine EC 12 rfl (fun g h W F a b c d e H K f => ?_) ?_
    ·have f24 := gE (a 24) (by kernel_rfl) (H 8) (by kernel_rfl); have k6_0 := cA (i := 6) e rfl 0 rfl; clear H c b d a; refine off_guard rfl (by kernel_rfl) f24 (by decide) ?_; exact f.out _ _ rfl trivial e
    refine Eo 13 24 8 ?_
    refine Eo 14 24 8 ?_
    refine EC 15 rfl (fun g h W F a b c d e H K f => ?_) ?_
    ·have f24 := gE (a 24) (by kernel_rfl) (H 8) (by kernel_rfl); have k7_5 := cA (i := 7) e rfl 5 rfl; clear H c b d a; refine off_guard rfl (by kernel_rfl) f24 (by decide) ?_; exact f.out _ _ rfl trivial e
    refine Eo 16 24 8 ?_
    refine Eee 17 24 8 31 15 ?_
    refine Ee 18 32 16 ?_
    refine Eo 19 33 17 ?_
    refine EC 20 rfl (fun g h W F a b c d e H K f => ?_) ?_
    ·have f33 := gE (a 33) (by kernel_rfl) (H 17) (by kernel_rfl); have k9_2 := cA (i := 9) e rfl 2 rfl; clear H c b d a; refine off_guard rfl (by kernel_rfl) f33 (by decide) ?_; exact f.out _ _ rfl trivial e
    refine EC 21 rfl (fun g h W F a b c d e H K f => ?_) ?_
    ·have f33 := gE (a 33) (by kernel_rfl) (H 17) (by kernel_rfl); have k6_0 := cA (i := 6) e rfl 0 rfl; clear H c b d a; refine off_guard rfl (by kernel_rfl) f33 (by decide) ?_; exact f.out _ _ rfl trivial e
    refine Eo 22 33 17 ?_
    refine Eo 23 33 17 ?_
    refine Eo 24 33 17 ?_
    refine EC 25 rfl (fun g h W F a b c d e H K f => ?_) ?_
    ·have f33 := gE (a 33) (by kernel_rfl) (H 17) (by kernel_rfl); have k7_3 := cA (i := 7) e rfl 3 rfl; clear H c b d a; refine off_guard rfl (by kernel_rfl) f33 (by decide) ?_; exact f.out _ _ rfl trivial e
    refine Eo 26 33 17 ?_
    refine Eee 27 33 17 41 25 ?_
    exact EN
   ·intro dn xv W hI H; have q26 : xv 26 = .bool true := (H 26 (of_decide_eq_true (by kernel_rfl))).2; have hS : Sep w0 W (TKaF w now g X Qs kk ffr fto finc fconn pinc pconn ack seq A body.length c (Rw 51 10 (.slice none 0 0) 0 []) (Bods []) (Rw 49 4 (.slice none 0 0) 0 []) (Bods []) (#[.slice none 0 0, .slice none 0 0]) (#[.int .u64 (base : Int), .slice BA box.length bc, .int .u64 (got : Int), .int .i64 sn, .int .u64 (si : Int), .int .i64 peer, .int .u64 (conn : Int), .int .u64 (inc : Int), .int .u64 (known : Int), .bool up, .int .u64 (heard : Int), .int .u64 (sent : Int)]) (BoxT (.slice BA box.length bc) box)) := hI; clear H hI; simp only [putAll, Act.put, List.setIfInBounds_toArray, List.set_cons_zero, List.set_cons_succ, Nat.reduceAdd, q26]; clear q26
    go_wp2_with fail
    go_meet
    case rel => exact ⟨by rw [← Hp1.out, HM.out]; rfl, hS⟩
 case rest =>
  obtain ⟨rfl, hS⟩ := hcut; clear HS0; have HS2 := Lib.hid hS; clear hS; cases p1 with
  | true =>
   have HLK : Hid (sS.looks fF = false) := Lib.hid (by rw [HLOOK.out]; rfl); have k0 := cA (i := 4) HS2.out rfl 0 rfl; have k1 := cA (i := 4) HS2.out rfl 1 rfl; have y0 := cFz (i := 5) HS2.out rfl 0; have y1 := cFz (i := 5) HS2.out rfl 1; have z0 := cA (i := 5) HS2.out rfl 0 rfl; have z1 := cA (i := 5) HS2.out rfl 1 rfl; have HSZ := Lib.hid (cS (i := 5) (cS (i := 5) HS2.out rfl 0 (.slice none 0 0)) rfl 1 (.slice none 0 0))
   go_wp2_with fail
   have k0 := cA (i := 5) HSZ.out rfl 0 rfl; have k1 := cA (i := 5) HSZ.out rfl 1 rfl; refine ⟨.agg #[.slice none 0 0, .slice none 0 0], by simp [results, Try.results15, go_sem, k0, k1], ?_⟩; refine ⟨_, _, .slice BA box.length bc, [], [], rfl, ?_, ?_, ?_⟩
   ·rw [LS.takeF, if_neg (by rw [HLK.out]; simp)]; rfl
   ·rw [LS.takeE, if_neg (by rw [HLK.out]; simp)]; rfl
   ·have hx := ((((HSZ.out.drop 4).drop 4).drop 4).drop 6).drop 6; rw [LS.take, if_neg (by rw [HLK.out]; simp), ← HSS.out]; exact hx
  | false =>
   have hm2 : mayB kk ffr fto finc fconn pinc pconn ack seq body.length = true ∧ ffr = peer ∧ fto = sn := by
    have h := Hp1.out; simp only [Bool.not_eq_false', Bool.and_eq_true, decide_eq_true_eq] at h; exact ⟨h.1.1, h.1.2, h.2⟩
   have hb448 : body.length ≤ 448 := mayB_len hm2.1; clear hm2
   go_upto_region 4 with fail
   go_cut [68] from 44 to 68 (fun t wx => t = .bool p2 ∧ Sep w0 wx (TKaF w now g X Qs kk ffr fto finc fconn pinc pconn ack seq A body.length c (Rw 51 10 (.slice none 0 0) 0 []) (Bods []) (Rw 49 4 (.slice none 0 0) 0 []) (Bods []) (#[.slice none 0 0, .slice none 0 0]) (#[.int .u64 (base : Int), .slice BA box.length bc, .int .u64 (got : Int), .int .i64 sn, .int .u64 (si : Int), .int .i64 peer, .int .u64 (conn : Int), .int .u64 (inc : Int), .int .u64 (known : Int), .bool up, .int .u64 (heard : Int), .int .u64 (sent : Int)]) (BoxT (.slice BA box.length bc) box)))
   case first =>
    by_cases h1 : finc < inc
    ·have e1 : decide (finc < inc) = true := decide_eq_true h1; have H1 := Lib.hid h1; clear h1
     go_wp2_with fail
     refine wRG (fun dn xv W => Sep w0 W (TKaF w now g X Qs kk ffr fto finc fconn pinc pconn ack seq A body.length c (Rw 51 10 (.slice none 0 0) 0 []) (Bods []) (Rw 49 4 (.slice none 0 0) 0 []) (Bods []) (#[.slice none 0 0, .slice none 0 0]) (#[.int .u64 (base : Int), .slice BA box.length bc, .int .u64 (got : Int), .int .i64 sn, .int .u64 (si : Int), .int .i64 peer, .int .u64 (conn : Int), .int .u64 (inc : Int), .int .u64 (known : Int), .bool up, .int .u64 (heard : Int), .int .u64 (sent : Int)]) (BoxT (.slice BA box.length bc) box))) (fun _ _ => True) [xP_ (w.heap.size + 1 + 1) 3, xV_ (.int .u64 (finc : Int)), xP_ g 0, xP_ g 0, xP_ g 7, xV_ (.int .u64 (inc : Int)), xV_ (.bool true), xV_ (.bool true), xV_ undef, xV_ undef, xV_ undef, xV_ undef, xV_ undef, xV_ undef, xV_ undef, xV_ undef, xV_ undef, xV_ undef, xV_ undef, xV_ undef, xV_ undef, xV_ undef, xV_ undef, xV_ undef, xV_ (.bool true)] (fun xv => by simpa using HS2.out.drew) ?_ ?_
     ·refine Ep 1 5 (w.heap.size + 1 + 1) 0 ?_
      refine Eek 2 44 0 (fun _ _ _ e => cA (i := 9) e rfl 3 rfl) ?_
      refine Epk 3 3 w.heap.size 0 (fun _ _ _ e => cA (i := 6) e rfl 0 rfl) ?_
      refine Ee 4 46 2 ?_
      refine Ee 5 47 3 ?_
      refine Eek 6 48 4 (fun _ _ _ e => cA (i := 7) e rfl 7 rfl) ?_
      refine Eee 7 45 1 49 5 ?_
      refine Ee 8 50 6 ?_
      refine Eo 9 51 7 ?_
      refine EC 10 rfl (fun g h W F a b c d e H K f => ?_) ?_
      ·have f51 := gE (a 51) (by kernel_rfl) (H 7) (by kernel_rfl); have k9_3 := cA (i := 9) e rfl 3 rfl; clear H c b d a; refine off_guard rfl (by kernel_rfl) f51 (by decide) ?_; exact f.out _ _ rfl trivial e
      refine EC 11 rfl (fun g h W F a b c d e H K f => ?_) ?_
      ·have f51 := gE (a 51) (by kernel_rfl) (H 7) (by kernel_rfl); have k6_0 := cA (i := 6) e rfl 0 rfl; clear H c b d a; refine off_guard rfl (by kernel_rfl) f51 (by decide) ?_; exact f.out _ _ rfl trivial e
      refine Eo 12 51 7 ?_
      refine Eo 13 51 7 ?_
      refine EC 14 rfl (fun g h W F a b c d e H K f => ?_) ?_
      ·have f51 := gE (a 51) (by kernel_rfl) (H 7) (by kernel_rfl); have k7_7 := cA (i := 7) e rfl 7 rfl; clear H c b d a; refine off_guard rfl (by kernel_rfl) f51 (by decide) ?_; exact f.out _ _ rfl trivial e
      refine Eo 15 51 7 ?_
      refine Eo 16 51 7 ?_
      refine EC 17 rfl (fun g h W F a b c d e H K f => ?_) ?_
      ·have f59 := gE (a 59) (by kernel_rfl) (H 15) (by kernel_rfl); clear H c b d a; refine off_undef rfl (by kernel_rfl) f59 ?_; exact f.out _ _ rfl trivial e
      refine EC 18 rfl (fun g h W F a b c d e H K f => ?_) ?_
      ·have f59 := gE (a 59) (by kernel_rfl) (H 15) (by kernel_rfl); have k9_4 := cA (i := 9) e rfl 4 rfl; clear H c b d a; refine off_undef rfl (by kernel_rfl) f59 ?_; exact f.out _ _ rfl trivial e
      refine EC 19 rfl (fun g h W F a b c d e H K f => ?_) ?_
      ·have f59 := gE (a 59) (by kernel_rfl) (H 15) (by kernel_rfl); have k6_0 := cA (i := 6) e rfl 0 rfl; clear H c b d a; refine off_undef rfl (by kernel_rfl) f59 ?_; exact f.out _ _ rfl trivial e
      refine EC 20 rfl (fun g h W F a b c d e H K f => ?_) ?_
      ·have f59 := gE (a 59) (by kernel_rfl) (H 15) (by kernel_rfl); clear H c b d a; refine off_undef rfl (by kernel_rfl) f59 ?_; exact f.out _ _ rfl trivial e
      refine EC 21 rfl (fun g h W F a b c d e H K f => ?_) ?_
      ·have f59 := gE (a 59) (by kernel_rfl) (H 15) (by kernel_rfl); clear H c b d a; refine off_undef rfl (by kernel_rfl) f59 ?_; exact f.out _ _ rfl trivial e
      refine EC 22 rfl (fun g h W F a b c d e H K f => ?_) ?_
      ·have f59 := gE (a 59) (by kernel_rfl) (H 15) (by kernel_rfl); have k7_8 := cA (i := 7) e rfl 8 rfl; clear H c b d a; refine off_undef rfl (by kernel_rfl) f59 ?_; exact f.out _ _ rfl trivial e
      refine EC 23 rfl (fun g h W F a b c d e H K f => ?_) ?_
      ·have f59 := gE (a 59) (by kernel_rfl) (H 15) (by kernel_rfl); clear H c b d a; refine off_undef rfl (by kernel_rfl) f59 ?_; exact f.out _ _ rfl trivial e
      refine Eo 24 51 7 ?_
      refine Eee 25 51 7 67 23 ?_
      exact EN
     ·intro dn xv W hI H; have q24 : xv 24 = .bool true := (H 24 (of_decide_eq_true (by kernel_rfl))).2; have hS : Sep w0 W (TKaF w now g X Qs kk ffr fto finc fconn pinc pconn ack seq A body.length c (Rw 51 10 (.slice none 0 0) 0 []) (Bods []) (Rw 49 4 (.slice none 0 0) 0 []) (Bods []) (#[.slice none 0 0, .slice none 0 0]) (#[.int .u64 (base : Int), .slice BA box.length bc, .int .u64 (got : Int), .int .i64 sn, .int .u64 (si : Int), .int .i64 peer, .int .u64 (conn : Int), .int .u64 (inc : Int), .int .u64 (known : Int), .bool up, .int .u64 (heard : Int), .int .u64 (sent : Int)]) (BoxT (.slice BA box.length bc) box)) := hI; clear H hI; simp only [putAll, Act.put, List.setIfInBounds_toArray, List.set_cons_zero, List.set_cons_succ, Nat.reduceAdd, q24]; clear q24
      go_wp2_with fail
      go_meet
      case rel => exact ⟨by rw [← Hp2.out, decide_eq_true H1.out]; rfl, hS⟩
    ·have e1 : decide (finc < inc) = false := decide_eq_false h1; have H1 := Lib.hid h1
     by_cases h2 : finc = inc
     ·have e2 : ((finc : Int) == (inc : Int)) = true := by simp [h2]
      have H2 := Lib.hid h2; clear h1 h2
      by_cases h3 : fconn < known
      ·have e3 : decide (fconn < known) = true := decide_eq_true h3; have H3 := Lib.hid h3; clear h3
       go_wp2_with fail
       refine wRG (fun dn xv W => Sep w0 W (TKaF w now g X Qs kk ffr fto finc fconn pinc pconn ack seq A body.length c (Rw 51 10 (.slice none 0 0) 0 []) (Bods []) (Rw 49 4 (.slice none 0 0) 0 []) (Bods []) (#[.slice none 0 0, .slice none 0 0]) (#[.int .u64 (base : Int), .slice BA box.length bc, .int .u64 (got : Int), .int .i64 sn, .int .u64 (si : Int), .int .i64 peer, .int .u64 (conn : Int), .int .u64 (inc : Int), .int .u64 (known : Int), .bool up, .int .u64 (heard : Int), .int .u64 (sent : Int)]) (BoxT (.slice BA box.length bc) box))) (fun _ _ => True) [xP_ (w.heap.size + 1 + 1) 3, xV_ (.int .u64 (finc : Int)), xP_ g 0, xP_ g 0, xP_ g 7, xV_ (.int .u64 (inc : Int)), xV_ (.bool false), xV_ (.bool false), xP_ (w.heap.size + 1 + 1) 3, xV_ (.int .u64 (finc : Int)), xP_ g 0, xP_ g 0, xP_ g 7, xV_ (.int .u64 (inc : Int)), xV_ (.bool true), xV_ (.bool true), xP_ (w.heap.size + 1 + 1) 4, xV_ (.int .u64 (fconn : Int)), xP_ g 0, xP_ g 0, xP_ g 8, xV_ (.int .u64 (known : Int)), xV_ (.bool true), xV_ (.bool true), xV_ (.bool true)] (fun xv => by simpa using HS2.out.drew) ?_ ?_
       ·refine Ep 1 5 (w.heap.size + 1 + 1) 0 ?_
        refine Eek 2 44 0 (fun _ _ _ e => cA (i := 9) e rfl 3 rfl) ?_
        refine Epk 3 3 w.heap.size 0 (fun _ _ _ e => cA (i := 6) e rfl 0 rfl) ?_
        refine Ee 4 46 2 ?_
        refine Ee 5 47 3 ?_
        refine Eek 6 48 4 (fun _ _ _ e => cA (i := 7) e rfl 7 rfl) ?_
        refine Eee 7 45 1 49 5 ?_
        refine Ee 8 50 6 ?_
        refine Epeg 9 5 (w.heap.size + 1 + 1) 0 51 7 ?_
        refine Eeegk 10 52 8 51 7 (fun _ _ _ e => cA (i := 9) e rfl 3 rfl) ?_
        refine Epegk 11 3 w.heap.size 0 51 7 (fun _ _ _ e => cA (i := 6) e rfl 0 rfl) ?_
        refine Eeeg 12 54 10 51 7 ?_
        refine Eeeg 13 55 11 51 7 ?_
        refine Eeegk 14 56 12 51 7 (fun _ _ _ e => cA (i := 7) e rfl 7 rfl) ?_
        refine Eeeeg 15 53 9 57 13 51 7 ?_
        refine Eeeg 16 58 14 51 7 ?_
        refine Epeg 17 5 (w.heap.size + 1 + 1) 0 59 15 ?_
        refine Eeegk 18 60 16 59 15 (fun _ _ _ e => cA (i := 9) e rfl 4 rfl) ?_
        refine Epegk 19 3 w.heap.size 0 59 15 (fun _ _ _ e => cA (i := 6) e rfl 0 rfl) ?_
        refine Eeeg 20 62 18 59 15 ?_
        refine Eeeg 21 63 19 59 15 ?_
        refine Eeegk 22 64 20 59 15 (fun _ _ _ e => cA (i := 7) e rfl 8 rfl) ?_
        refine Eeeeg 23 61 17 65 21 59 15 ?_
        refine Eeeeg 24 59 15 66 22 51 7 ?_
        refine Eee 25 51 7 67 23 ?_
        exact EN
       ·intro dn xv W hI H; have q24 : xv 24 = .bool true := (H 24 (of_decide_eq_true (by kernel_rfl))).2; have hS : Sep w0 W (TKaF w now g X Qs kk ffr fto finc fconn pinc pconn ack seq A body.length c (Rw 51 10 (.slice none 0 0) 0 []) (Bods []) (Rw 49 4 (.slice none 0 0) 0 []) (Bods []) (#[.slice none 0 0, .slice none 0 0]) (#[.int .u64 (base : Int), .slice BA box.length bc, .int .u64 (got : Int), .int .i64 sn, .int .u64 (si : Int), .int .i64 peer, .int .u64 (conn : Int), .int .u64 (inc : Int), .int .u64 (known : Int), .bool up, .int .u64 (heard : Int), .int .u64 (sent : Int)]) (BoxT (.slice BA box.length bc) box)) := hI; clear H hI; simp only [putAll, Act.put, List.setIfInBounds_toArray, List.set_cons_zero, List.set_cons_succ, Nat.reduceAdd, q24]; clear q24
        go_wp2_with fail
        go_meet
        case rel => exact ⟨by rw [← Hp2.out, decide_eq_true H3.out, decide_eq_true H2.out]; simp, hS⟩
      ·have e3 : decide (fconn < known) = false := decide_eq_false h3; have H3 := Lib.hid h3; clear h3
       go_wp2_with fail
       refine wRG (fun dn xv W => Sep w0 W (TKaF w now g X Qs kk ffr fto finc fconn pinc pconn ack seq A body.length c (Rw 51 10 (.slice none 0 0) 0 []) (Bods []) (Rw 49 4 (.slice none 0 0) 0 []) (Bods []) (#[.slice none 0 0, .slice none 0 0]) (#[.int .u64 (base : Int), .slice BA box.length bc, .int .u64 (got : Int), .int .i64 sn, .int .u64 (si : Int), .int .i64 peer, .int .u64 (conn : Int), .int .u64 (inc : Int), .int .u64 (known : Int), .bool up, .int .u64 (heard : Int), .int .u64 (sent : Int)]) (BoxT (.slice BA box.length bc) box))) (fun _ _ => True) [xP_ (w.heap.size + 1 + 1) 3, xV_ (.int .u64 (finc : Int)), xP_ g 0, xP_ g 0, xP_ g 7, xV_ (.int .u64 (inc : Int)), xV_ (.bool false), xV_ (.bool false), xP_ (w.heap.size + 1 + 1) 3, xV_ (.int .u64 (finc : Int)), xP_ g 0, xP_ g 0, xP_ g 7, xV_ (.int .u64 (inc : Int)), xV_ (.bool true), xV_ (.bool true), xP_ (w.heap.size + 1 + 1) 4, xV_ (.int .u64 (fconn : Int)), xP_ g 0, xP_ g 0, xP_ g 8, xV_ (.int .u64 (known : Int)), xV_ (.bool false), xV_ (.bool false), xV_ (.bool false)] (fun xv => by simpa using HS2.out.drew) ?_ ?_
       ·refine Ep 1 5 (w.heap.size + 1 + 1) 0 ?_
        refine Eek 2 44 0 (fun _ _ _ e => cA (i := 9) e rfl 3 rfl) ?_
        refine Epk 3 3 w.heap.size 0 (fun _ _ _ e => cA (i := 6) e rfl 0 rfl) ?_
        refine Ee 4 46 2 ?_
        refine Ee 5 47 3 ?_
        refine Eek 6 48 4 (fun _ _ _ e => cA (i := 7) e rfl 7 rfl) ?_
        refine Eee 7 45 1 49 5 ?_
        refine Ee 8 50 6 ?_
        refine Epeg 9 5 (w.heap.size + 1 + 1) 0 51 7 ?_
        refine Eeegk 10 52 8 51 7 (fun _ _ _ e => cA (i := 9) e rfl 3 rfl) ?_
        refine Epegk 11 3 w.heap.size 0 51 7 (fun _ _ _ e => cA (i := 6) e rfl 0 rfl) ?_
        refine Eeeg 12 54 10 51 7 ?_
        refine Eeeg 13 55 11 51 7 ?_
        refine Eeegk 14 56 12 51 7 (fun _ _ _ e => cA (i := 7) e rfl 7 rfl) ?_
        refine Eeeeg 15 53 9 57 13 51 7 ?_
        refine Eeeg 16 58 14 51 7 ?_
        refine Epeg 17 5 (w.heap.size + 1 + 1) 0 59 15 ?_
        refine Eeegk 18 60 16 59 15 (fun _ _ _ e => cA (i := 9) e rfl 4 rfl) ?_
        refine Epegk 19 3 w.heap.size 0 59 15 (fun _ _ _ e => cA (i := 6) e rfl 0 rfl) ?_
        refine Eeeg 20 62 18 59 15 ?_
        refine Eeeg 21 63 19 59 15 ?_
        refine Eeegk 22 64 20 59 15 (fun _ _ _ e => cA (i := 7) e rfl 8 rfl) ?_
        refine Eeeeg 23 61 17 65 21 59 15 ?_
        refine Eeeeg 24 59 15 66 22 51 7 ?_
        refine Eee 25 51 7 67 23 ?_
        exact EN
       ·intro dn xv W hI H; have q24 : xv 24 = .bool false := (H 24 (of_decide_eq_true (by kernel_rfl))).2; have hS : Sep w0 W (TKaF w now g X Qs kk ffr fto finc fconn pinc pconn ack seq A body.length c (Rw 51 10 (.slice none 0 0) 0 []) (Bods []) (Rw 49 4 (.slice none 0 0) 0 []) (Bods []) (#[.slice none 0 0, .slice none 0 0]) (#[.int .u64 (base : Int), .slice BA box.length bc, .int .u64 (got : Int), .int .i64 sn, .int .u64 (si : Int), .int .i64 peer, .int .u64 (conn : Int), .int .u64 (inc : Int), .int .u64 (known : Int), .bool up, .int .u64 (heard : Int), .int .u64 (sent : Int)]) (BoxT (.slice BA box.length bc) box)) := hI; clear H hI; simp only [putAll, Act.put, List.setIfInBounds_toArray, List.set_cons_zero, List.set_cons_succ, Nat.reduceAdd, q24]; clear q24
        go_wp2_with fail
        go_meet
        case rel => exact ⟨by rw [← Hp2.out, decide_eq_false H3.out, decide_eq_false H1.out]; simp, hS⟩
     ·have e2 : ((finc : Int) == (inc : Int)) = false := beq_eq_false_iff_ne.2 (by omega); have H2 := Lib.hid h2; clear h1 h2
      go_wp2_with fail
      refine wRG (fun dn xv W => Sep w0 W (TKaF w now g X Qs kk ffr fto finc fconn pinc pconn ack seq A body.length c (Rw 51 10 (.slice none 0 0) 0 []) (Bods []) (Rw 49 4 (.slice none 0 0) 0 []) (Bods []) (#[.slice none 0 0, .slice none 0 0]) (#[.int .u64 (base : Int), .slice BA box.length bc, .int .u64 (got : Int), .int .i64 sn, .int .u64 (si : Int), .int .i64 peer, .int .u64 (conn : Int), .int .u64 (inc : Int), .int .u64 (known : Int), .bool up, .int .u64 (heard : Int), .int .u64 (sent : Int)]) (BoxT (.slice BA box.length bc) box))) (fun _ _ => True) [xP_ (w.heap.size + 1 + 1) 3, xV_ (.int .u64 (finc : Int)), xP_ g 0, xP_ g 0, xP_ g 7, xV_ (.int .u64 (inc : Int)), xV_ (.bool false), xV_ (.bool false), xP_ (w.heap.size + 1 + 1) 3, xV_ (.int .u64 (finc : Int)), xP_ g 0, xP_ g 0, xP_ g 7, xV_ (.int .u64 (inc : Int)), xV_ (.bool false), xV_ (.bool false), xV_ undef, xV_ undef, xV_ undef, xV_ undef, xV_ undef, xV_ undef, xV_ undef, xV_ (.bool false), xV_ (.bool false)] (fun xv => by simpa using HS2.out.drew) ?_ ?_
      ·refine Ep 1 5 (w.heap.size + 1 + 1) 0 ?_
       refine Eek 2 44 0 (fun _ _ _ e => cA (i := 9) e rfl 3 rfl) ?_
       refine Epk 3 3 w.heap.size 0 (fun _ _ _ e => cA (i := 6) e rfl 0 rfl) ?_
       refine Ee 4 46 2 ?_
       refine Ee 5 47 3 ?_
       refine Eek 6 48 4 (fun _ _ _ e => cA (i := 7) e rfl 7 rfl) ?_
       refine Eee 7 45 1 49 5 ?_
       refine Ee 8 50 6 ?_
       refine Epeg 9 5 (w.heap.size + 1 + 1) 0 51 7 ?_
       refine Eeegk 10 52 8 51 7 (fun _ _ _ e => cA (i := 9) e rfl 3 rfl) ?_
       refine Epegk 11 3 w.heap.size 0 51 7 (fun _ _ _ e => cA (i := 6) e rfl 0 rfl) ?_
       refine Eeeg 12 54 10 51 7 ?_
       refine Eeeg 13 55 11 51 7 ?_
       refine Eeegk 14 56 12 51 7 (fun _ _ _ e => cA (i := 7) e rfl 7 rfl) ?_
       refine Eeeeg 15 53 9 57 13 51 7 ?_
       refine Eeeg 16 58 14 51 7 ?_
       refine Eo 17 59 15 ?_
       refine EC 18 rfl (fun g h W F a b c d e H K f => ?_) ?_
       ·have f59 := gE (a 59) (by kernel_rfl) (H 15) (by kernel_rfl); have k9_4 := cA (i := 9) e rfl 4 rfl; clear H c b d a; refine off_guard rfl (by kernel_rfl) f59 (by decide) ?_; exact f.out _ _ rfl trivial e
       refine EC 19 rfl (fun g h W F a b c d e H K f => ?_) ?_
       ·have f59 := gE (a 59) (by kernel_rfl) (H 15) (by kernel_rfl); have k6_0 := cA (i := 6) e rfl 0 rfl; clear H c b d a; refine off_guard rfl (by kernel_rfl) f59 (by decide) ?_; exact f.out _ _ rfl trivial e
       refine Eo 20 59 15 ?_
       refine Eo 21 59 15 ?_
       refine EC 22 rfl (fun g h W F a b c d e H K f => ?_) ?_
       ·have f59 := gE (a 59) (by kernel_rfl) (H 15) (by kernel_rfl); have k7_8 := cA (i := 7) e rfl 8 rfl; clear H c b d a; refine off_guard rfl (by kernel_rfl) f59 (by decide) ?_; exact f.out _ _ rfl trivial e
       refine Eo 23 59 15 ?_
       refine Eeeeg 24 59 15 66 22 51 7 ?_
       refine Eee 25 51 7 67 23 ?_
       exact EN
      ·intro dn xv W hI H; have q24 : xv 24 = .bool false := (H 24 (of_decide_eq_true (by kernel_rfl))).2; have hS : Sep w0 W (TKaF w now g X Qs kk ffr fto finc fconn pinc pconn ack seq A body.length c (Rw 51 10 (.slice none 0 0) 0 []) (Bods []) (Rw 49 4 (.slice none 0 0) 0 []) (Bods []) (#[.slice none 0 0, .slice none 0 0]) (#[.int .u64 (base : Int), .slice BA box.length bc, .int .u64 (got : Int), .int .i64 sn, .int .u64 (si : Int), .int .i64 peer, .int .u64 (conn : Int), .int .u64 (inc : Int), .int .u64 (known : Int), .bool up, .int .u64 (heard : Int), .int .u64 (sent : Int)]) (BoxT (.slice BA box.length bc) box)) := hI; clear H hI; simp only [putAll, Act.put, List.setIfInBounds_toArray, List.set_cons_zero, List.set_cons_succ, Nat.reduceAdd, q24]; clear q24
       go_wp2_with fail
       go_meet
       case rel => exact ⟨by rw [← Hp2.out, decide_eq_false H2.out, decide_eq_false H1.out]; rfl, hS⟩
   case rest =>
    obtain ⟨rfl, hS⟩ := hcut; clear HS2; have HS4 := Lib.hid hS; clear hS; cases p2 with
    | true =>
     have HLK : Hid (sS.looks fF = false) := Lib.hid (by rw [HLOOK.out]; rfl); have k0 := cA (i := 4) HS4.out rfl 0 rfl; have k1 := cA (i := 4) HS4.out rfl 1 rfl; have y0 := cFz (i := 5) HS4.out rfl 0; have y1 := cFz (i := 5) HS4.out rfl 1; have z0 := cA (i := 5) HS4.out rfl 0 rfl; have z1 := cA (i := 5) HS4.out rfl 1 rfl; have HSZ := Lib.hid (cS (i := 5) (cS (i := 5) HS4.out rfl 0 (.slice none 0 0)) rfl 1 (.slice none 0 0))
     go_wp2_with fail
     have k0 := cA (i := 5) HSZ.out rfl 0 rfl; have k1 := cA (i := 5) HSZ.out rfl 1 rfl; refine ⟨.agg #[.slice none 0 0, .slice none 0 0], by simp [results, Try.results15, go_sem, k0, k1], ?_⟩; refine ⟨_, _, .slice BA box.length bc, [], [], rfl, ?_, ?_, ?_⟩
     ·rw [LS.takeF, if_neg (by rw [HLK.out]; simp)]; rfl
     ·rw [LS.takeE, if_neg (by rw [HLK.out]; simp)]; rfl
     ·have hx := ((((HSZ.out.drop 4).drop 4).drop 4).drop 6).drop 6; rw [LS.take, if_neg (by rw [HLK.out]; simp), ← HSS.out]; exact hx
    | false =>
     have HLK : Hid (sS.looks fF = true) := Lib.hid (by rw [HLOOK.out]; rfl); exact absurd HLK.out (by rw [HLOOK2.out]; simp)
end Go.Proofs.Ytngegjboenfmeaa
/- Take of any link. -/
namespace Go.Proofs.Ytngegjboenfmeaa
open Go Go.RowKit Go.Shelf
set_option linter.unusedVariables false
set_option maxRecDepth 100000
set_option linter.unusedSimpArgs false
attribute [local go_sem] Oper.semAt_some

set_option maxHeartbeats 51200000 in
theorem takeBack {w0 w : World} {Qs : List SP} {X : SP} {g now : Nat} {s : LS} {f : Fr} {bx : Value} {A : Option Addr} {c : Nat} (h : Sep w0 w (Ce g 72 (s.cells bx) :: BoxT bx s.box :: X :: Qs)) (hX : Reads X A f.body) (hs : s.Num) (hbl : f.body.length ≤ maxLen) (hack : f.ack < 18446744073709551616) (hseq : f.seq < 18446744073709551616) (hnow : now < 18446744073709551616) (hlk : s.looks f = true) (hkn : (s.take1 now f).knows f = false) :
  Calls Try.prog 15 #[.pointer (some ⟨g, 0, none⟩), .int .u64 (now : Int), .agg (f.cells A c)] w (Ans w0 g (X :: Qs) (s.takeF now f) (s.takeE now f) (s.take now f)) := by
 obtain ⟨BA, bc, rfl, hcc, hcm, hbx⟩ := sep_boxForm (i := 1) h rfl hs.small; have HOK := Lib.hid hs; obtain ⟨sS, HSS⟩ : ∃ x, Hid (s = x) := ⟨_, Lib.hid rfl⟩; obtain ⟨fF, HFF⟩ : ∃ x, Hid (f = x) := ⟨_, Lib.hid rfl⟩; have HOS : Hid (sS.Num) := Lib.hid (by rw [← HSS.out]; exact HOK.out)
 suffices hgoal : Calls Try.prog 15 #[.pointer (some ⟨g, 0, none⟩), .int .u64 (now : Int), .agg (f.cells A c)] w (Ans w0 g (X :: Qs) (sS.takeF now fF) (sS.takeE now fF) (sS.take now fF)) by
  rw [HSS.out, HFF.out]; rw [HFF.out] at hgoal; exact hgoal
 obtain ⟨base, box, got, sn, si, peer, conn, inc, known, up, heard, sent⟩ := s; obtain ⟨kk, ffr, fto, finc, fconn, pinc, pconn, ack, seq, body⟩ := f; have hsn : sn ≠ 0 := hs.sn; have HSN := Lib.hid hsn; have HBL : Hid (body.length ≤ maxLen) := Lib.hid hbl; have hack : ack < 18446744073709551616 := hack; have hseq : seq < 18446744073709551616 := hseq; have HX : Hid (Reads X A body) := Lib.hid hX; obtain ⟨p1, Hp1⟩ : ∃ q, Hid ((!(mayB kk ffr fto finc fconn pinc pconn ack seq body.length && decide (ffr = peer) && decide (fto = sn))) = q) := ⟨_, Lib.hid rfl⟩; obtain ⟨p2, Hp2⟩ : ∃ q, Hid ((decide (finc < inc) || (decide (finc = inc) && decide (fconn < known))) = q) := ⟨_, Lib.hid rfl⟩
 obtain ⟨p3, Hp3⟩ : ∃ q, Hid ((decide (finc ≠ inc) || decide (fconn ≠ known)) = q) := ⟨_, Lib.hid rfl⟩
 have HLOOK : Hid (sS.looks fF = (!p1 && !p2)) := Lib.hid (by rw [← HSS.out, ← HFF.out, ← Hp1.out, ← Hp2.out]; simp [LS.looks]); have HOTH : Hid (sS.other fF = p3) := Lib.hid (by rw [← HSS.out, ← HFF.out]; exact Hp3.out); show Calls Try.prog 15 #[.pointer (some ⟨g, 0, none⟩), .int .u64 (now : Int), .agg #[.int .i64 kk, .int .i64 ffr, .int .i64 fto, .int .u64 (finc : Int), .int .u64 (fconn : Int), .int .u64 (pinc : Int), .int .u64 (pconn : Int), .int .u64 (ack : Int), .int .u64 (seq : Int), .slice A body.length c]] w _; have HS0 := Lib.hid (show Sep w0 (((((w.alloc (.cells #[.pointer (some ⟨g, 0, none⟩)] 26)).alloc (.cells #[.int .u64 (now : Int)] 28)).alloc (.cells #[.int .i64 kk, .int .i64 ffr, .int .i64 fto, .int .u64 (finc : Int), .int .u64 (fconn : Int), .int .u64 (pinc : Int), .int .u64 (pconn : Int), .int .u64 (ack : Int), .int .u64 (seq : Int), .slice A body.length c] 51)).alloc (.cells #[.slice none 0 0, .slice none 0 0] 43)).alloc (.cells #[.slice none 0 0, .slice none 0 0] 43)) (TKaF w now g X Qs kk ffr fto finc fconn pinc pconn ack seq A body.length c (Rw 51 10 (.slice none 0 0) 0 []) (Bods []) (Rw 49 4 (.slice none 0 0) 0 []) (Bods []) (#[.slice none 0 0, .slice none 0 0]) (#[.int .u64 (base : Int), .slice BA box.length bc, .int .u64 (got : Int), .int .i64 sn, .int .u64 (si : Int), .int .i64 peer, .int .u64 (conn : Int), .int .u64 (inc : Int), .int .u64 (known : Int), .bool up, .int .u64 (heard : Int), .int .u64 (sent : Int)]) (BoxT (.slice BA box.length bc) box)) by
  have := sep_ceF (sep_ceF (sep_ceF (sep_ceF (sep_ceF h #[.pointer (some ⟨g, 0, none⟩)] 26) #[.int .u64 (now : Int)] 28) #[.int .i64 kk, .int .i64 ffr, .int .i64 fto, .int .u64 (finc : Int), .int .u64 (fconn : Int), .int .u64 (pinc : Int), .int .u64 (pconn : Int), .int .u64 (ack : Int), .int .u64 (seq : Int), .slice A body.length c] 51) #[.slice none 0 0, .slice none 0 0] 43) #[.slice none 0 0, .slice none 0 0] 43
  simp only [World.size_alloc] at this; have := sep_bodsNil (sep_rwNil (sep_bodsNil (sep_rwNil this 51 10).lastFront) 49 4).lastFront; exact (((((((((((this).tF 7 rfl).tF 7 rfl).tF 10 rfl).tF 10 rfl).tF 10 rfl).tF 10 rfl).tF 10 rfl).tF 7 rfl).tF 8 rfl).tF 9 rfl).tF 10 rfl)
 have HKN0 : Hid ((sS.take1 now fF).knows fF = false) := Lib.hid (by rw [← HSS.out, ← HFF.out]; exact hkn); clear hkn; clear h hs hsn hbx hbl hX; refine calls_marks 6 Try.func15 rfl ?_; have HLOOK2 : Hid (sS.looks fF = true) := Lib.hid (by rw [← HSS.out, ← HFF.out]; exact hlk); clear hlk; simp only [Try.ntmps15, List.size_toArray, List.length_cons, List.length_nil, Nat.reduceAdd, Nat.reduceSub, Array.replicate_succ, Array.replicate_zero, List.push_toArray, List.append_toArray, List.nil_append, List.cons_append]; have hm2 : mayB kk ffr fto finc fconn pinc pconn ack seq body.length = true ∧ ffr = peer ∧ fto = sn ∧ (decide (finc < inc) || (decide (finc = inc) && decide (fconn < known))) = false := by
  have h := HLOOK2.out; rw [← HSS.out, ← HFF.out] at h; simp only [LS.looks, Bool.and_eq_true, Bool.not_eq_true', decide_eq_true_eq] at h; exact ⟨h.1.1.1, h.1.1.2, h.1.2, h.2⟩
 have HLK : Hid (sS.looks fF = true) := HLOOK2; have hb448 : body.length ≤ 448 := mayB_len hm2.1; have HM := Lib.hid hm2.1; have e1 : (ffr != peer) = false := by simp [hm2.2.1]
 have e2 : (fto != sn) = false := by simp [hm2.2.2.1]
 have HN4 := Lib.hid hm2.2.2.2; clear hm2
 go_wp2_with fail
 refine wRG (fun dn xv W => Sep w0 W (TKaF w now g X Qs kk ffr fto finc fconn pinc pconn ack seq A body.length c (Rw 51 10 (.slice none 0 0) 0 []) (Bods []) (Rw 49 4 (.slice none 0 0) 0 []) (Bods []) (#[.slice none 0 0, .slice none 0 0]) (#[.int .u64 (base : Int), .slice BA box.length bc, .int .u64 (got : Int), .int .i64 sn, .int .u64 (si : Int), .int .i64 peer, .int .u64 (conn : Int), .int .u64 (inc : Int), .int .u64 (known : Int), .bool up, .int .u64 (heard : Int), .int .u64 (sent : Int)]) (BoxT (.slice BA box.length bc) box))) (fun _ _ => True) [xP_ g 0, xV_ (.bool true), xV_ (.bool false), xV_ (.bool false), xV_ (.agg #[.int .i64 kk, .int .i64 ffr, .int .i64 fto, .int .u64 (finc : Int), .int .u64 (fconn : Int), .int .u64 (pinc : Int), .int .u64 (pconn : Int), .int .u64 (ack : Int), .int .u64 (seq : Int), .slice A body.length c]), xV_ (.bool true), xV_ (.bool false), xV_ (.bool false), xV_ (.bool false), xP_ (w.heap.size + 1 + 1) 1, xV_ (.int .i64 ffr), xP_ g 0, xP_ g 0, xP_ g 5, xV_ (.int .i64 peer), xV_ (.bool false), xV_ (.bool false), xV_ (.bool false), xP_ (w.heap.size + 1 + 1) 2, xV_ (.int .i64 fto), xP_ g 0, xP_ g 0, xP_ g 3, xP_ g 3, xV_ (.int .i64 sn), xV_ (.bool false), xV_ (.bool false)] (fun xv => by simpa using HS0.out.drew) ?_ ?_
 ·refine Epk 1 3 w.heap.size 0 (fun _ _ _ e => cA (i := 6) e rfl 0 rfl) ?_
  refine EC 2 rfl (fun j k W F a b c d f H K h => ?_) ?_
  ·have f16 := gE (a 16) (by kernel_rfl) (H 0) (by kernel_rfl); clear H c b d a; refine oP rfl ?_; go_simp; refine (made_yes W g sn HSN.out (cA (i := 7) f rfl 3 rfl)).mono ?_; rintro e W' ⟨rfl, hb⟩; exact h.out _ W' rfl trivial (by simpa [upB, upd] using f.grow hb)
  refine Ee 3 17 1 ?_
  refine Ee 4 18 2 ?_
  refine EC 5 rfl (fun g h W F a b c d e H K f => ?_) ?_
  ·have f5 : F.tmps.getD 5 undef = .pointer (some ⟨w.heap.size + 1 + 1, 0, none⟩) := (a 5).trans (by kernel_rfl); have f19 := gE (a 19) (by kernel_rfl) (H 3) (by kernel_rfl); have k9_0 := cA (i := 9) e rfl 0 rfl; have k9_1 := cA (i := 9) e rfl 1 rfl; have k9_2 := cA (i := 9) e rfl 2 rfl; have k9_3 := cA (i := 9) e rfl 3 rfl; have k9_4 := cA (i := 9) e rfl 4 rfl; have k9_5 := cA (i := 9) e rfl 5 rfl; have k9_6 := cA (i := 9) e rfl 6 rfl; have k9_7 := cA (i := 9) e rfl 7 rfl; have k9_8 := cA (i := 9) e rfl 8 rfl; have k9_9 := cA (i := 9) e rfl 9 rfl; clear H c b d a; refine oG rfl (by kernel_rfl) f19 ?_; go_simp; exact f.out _ _ rfl trivial e
  refine EC 6 rfl (fun i j W F a b d f g H K h => ?_) ?_
  ·have f20 := gE (a 20) (by kernel_rfl) (H 4) (by kernel_rfl); have f19 := gE (a 19) (by kernel_rfl) (H 3) (by kernel_rfl); clear H d b f a; refine oG rfl (by kernel_rfl) f19 ?_; go_simp; refine (mayFk (w := W) (c := c) (A := A) HM.out HBL.out).mono ?_; rintro e W' ⟨rfl, hb⟩; exact h.out _ W' rfl trivial (by simpa [upB, upd] using g.grow hb)
  refine Eeeg 7 21 5 19 3 ?_
  refine Eee 8 19 3 22 6 ?_
  refine Ee 9 23 7 ?_
  refine Epeg 10 5 (w.heap.size + 1 + 1) 0 24 8 ?_
  refine Eeegk 11 25 9 24 8 (fun _ _ _ e => cA (i := 9) e rfl 1 rfl) ?_
  refine Epegk 12 3 w.heap.size 0 24 8 (fun _ _ _ e => cA (i := 6) e rfl 0 rfl) ?_
  refine Eeeg 13 27 11 24 8 ?_
  refine Eeeg 14 28 12 24 8 ?_
  refine Eeegk 15 29 13 24 8 (fun _ _ _ e => cA (i := 7) e rfl 5 rfl) ?_
  refine Eeeeg 16 26 10 30 14 24 8 ?_
  refine Eee 17 24 8 31 15 ?_
  refine Ee 18 32 16 ?_
  refine Epeg 19 5 (w.heap.size + 1 + 1) 0 33 17 ?_
  refine Eeegk 20 34 18 33 17 (fun _ _ _ e => cA (i := 9) e rfl 2 rfl) ?_
  refine Epegk 21 3 w.heap.size 0 33 17 (fun _ _ _ e => cA (i := 6) e rfl 0 rfl) ?_
  refine Eeeg 22 36 20 33 17 ?_
  refine Eeeg 23 37 21 33 17 ?_
  refine Eeeg 24 38 22 33 17 ?_
  refine Eeegk 25 39 23 33 17 (fun _ _ _ e => cA (i := 7) e rfl 3 rfl) ?_
  refine Eeeeg 26 35 19 40 24 33 17 ?_
  refine Eee 27 33 17 41 25 ?_
  exact EN
 ·intro dn xv W hI H; have q26 : xv 26 = .bool false := (H 26 (of_decide_eq_true (by kernel_rfl))).2; have hS : Sep w0 W (TKaF w now g X Qs kk ffr fto finc fconn pinc pconn ack seq A body.length c (Rw 51 10 (.slice none 0 0) 0 []) (Bods []) (Rw 49 4 (.slice none 0 0) 0 []) (Bods []) (#[.slice none 0 0, .slice none 0 0]) (#[.int .u64 (base : Int), .slice BA box.length bc, .int .u64 (got : Int), .int .i64 sn, .int .u64 (si : Int), .int .i64 peer, .int .u64 (conn : Int), .int .u64 (inc : Int), .int .u64 (known : Int), .bool up, .int .u64 (heard : Int), .int .u64 (sent : Int)]) (BoxT (.slice BA box.length bc) box)) := hI; clear H hI; simp only [putAll, Act.put, List.setIfInBounds_toArray, List.set_cons_zero, List.set_cons_succ, Nat.reduceAdd, q26]; clear q26; have HS2 := Lib.hid hS; clear hS e1 e2 HS0; obtain ⟨W2, HW2⟩ : ∃ x, Hid (W = x) := ⟨_, Lib.hid rfl⟩; rw [HW2.out] at HS2 ⊢
  go_upto_region 4 with fail
  go_cut [68] from 44 to 68 (fun t wx => t = .bool false ∧ Sep w0 wx (TKaF w now g X Qs kk ffr fto finc fconn pinc pconn ack seq A body.length c (Rw 51 10 (.slice none 0 0) 0 []) (Bods []) (Rw 49 4 (.slice none 0 0) 0 []) (Bods []) (#[.slice none 0 0, .slice none 0 0]) (#[.int .u64 (base : Int), .slice BA box.length bc, .int .u64 (got : Int), .int .i64 sn, .int .u64 (si : Int), .int .i64 peer, .int .u64 (conn : Int), .int .u64 (inc : Int), .int .u64 (known : Int), .bool up, .int .u64 (heard : Int), .int .u64 (sent : Int)]) (BoxT (.slice BA box.length bc) box)))
  case first =>
   have h1 : ¬ finc < inc := by
    intro h; have h2 := HN4.out; rw [decide_eq_true h] at h2; simp at h2
   have e1 : decide (finc < inc) = false := decide_eq_false h1
   by_cases h2 : finc = inc
   ·have e2 : ((finc : Int) == (inc : Int)) = true := by simp [h2]
    have h3 : ¬ fconn < known := by
     intro h; have h4 := HN4.out; rw [decide_eq_true h, decide_eq_true h2] at h4; simp at h4
    have e3 : decide (fconn < known) = false := decide_eq_false h3; clear h1 h2 h3
    go_wp2_with fail
    refine wRG (fun dn xv W => Sep w0 W (TKaF w now g X Qs kk ffr fto finc fconn pinc pconn ack seq A body.length c (Rw 51 10 (.slice none 0 0) 0 []) (Bods []) (Rw 49 4 (.slice none 0 0) 0 []) (Bods []) (#[.slice none 0 0, .slice none 0 0]) (#[.int .u64 (base : Int), .slice BA box.length bc, .int .u64 (got : Int), .int .i64 sn, .int .u64 (si : Int), .int .i64 peer, .int .u64 (conn : Int), .int .u64 (inc : Int), .int .u64 (known : Int), .bool up, .int .u64 (heard : Int), .int .u64 (sent : Int)]) (BoxT (.slice BA box.length bc) box))) (fun _ _ => True) [xP_ (w.heap.size + 1 + 1) 3, xV_ (.int .u64 (finc : Int)), xP_ g 0, xP_ g 0, xP_ g 7, xV_ (.int .u64 (inc : Int)), xV_ (.bool false), xV_ (.bool false), xP_ (w.heap.size + 1 + 1) 3, xV_ (.int .u64 (finc : Int)), xP_ g 0, xP_ g 0, xP_ g 7, xV_ (.int .u64 (inc : Int)), xV_ (.bool true), xV_ (.bool true), xP_ (w.heap.size + 1 + 1) 4, xV_ (.int .u64 (fconn : Int)), xP_ g 0, xP_ g 0, xP_ g 8, xV_ (.int .u64 (known : Int)), xV_ (.bool false), xV_ (.bool false), xV_ (.bool false)] (fun xv => by simpa using HS2.out.drew) ?_ ?_
    ·refine Ep 1 5 (w.heap.size + 1 + 1) 0 ?_
     refine Eek 2 44 0 (fun _ _ _ e => cA (i := 9) e rfl 3 rfl) ?_
     refine Epk 3 3 w.heap.size 0 (fun _ _ _ e => cA (i := 6) e rfl 0 rfl) ?_
     refine Ee 4 46 2 ?_
     refine Ee 5 47 3 ?_
     refine Eek 6 48 4 (fun _ _ _ e => cA (i := 7) e rfl 7 rfl) ?_
     refine Eee 7 45 1 49 5 ?_
     refine Ee 8 50 6 ?_
     refine Epeg 9 5 (w.heap.size + 1 + 1) 0 51 7 ?_
     refine Eeegk 10 52 8 51 7 (fun _ _ _ e => cA (i := 9) e rfl 3 rfl) ?_
     refine Epegk 11 3 w.heap.size 0 51 7 (fun _ _ _ e => cA (i := 6) e rfl 0 rfl) ?_
     refine Eeeg 12 54 10 51 7 ?_
     refine Eeeg 13 55 11 51 7 ?_
     refine Eeegk 14 56 12 51 7 (fun _ _ _ e => cA (i := 7) e rfl 7 rfl) ?_
     refine Eeeeg 15 53 9 57 13 51 7 ?_
     refine Eeeg 16 58 14 51 7 ?_
     refine Epeg 17 5 (w.heap.size + 1 + 1) 0 59 15 ?_
     refine Eeegk 18 60 16 59 15 (fun _ _ _ e => cA (i := 9) e rfl 4 rfl) ?_
     refine Epegk 19 3 w.heap.size 0 59 15 (fun _ _ _ e => cA (i := 6) e rfl 0 rfl) ?_
     refine Eeeg 20 62 18 59 15 ?_
     refine Eeeg 21 63 19 59 15 ?_
     refine Eeegk 22 64 20 59 15 (fun _ _ _ e => cA (i := 7) e rfl 8 rfl) ?_
     refine Eeeeg 23 61 17 65 21 59 15 ?_
     refine Eeeeg 24 59 15 66 22 51 7 ?_
     refine Eee 25 51 7 67 23 ?_
     exact EN
    ·intro dn xv W hI H; have q24 : xv 24 = .bool false := (H 24 (of_decide_eq_true (by kernel_rfl))).2; have hS : Sep w0 W (TKaF w now g X Qs kk ffr fto finc fconn pinc pconn ack seq A body.length c (Rw 51 10 (.slice none 0 0) 0 []) (Bods []) (Rw 49 4 (.slice none 0 0) 0 []) (Bods []) (#[.slice none 0 0, .slice none 0 0]) (#[.int .u64 (base : Int), .slice BA box.length bc, .int .u64 (got : Int), .int .i64 sn, .int .u64 (si : Int), .int .i64 peer, .int .u64 (conn : Int), .int .u64 (inc : Int), .int .u64 (known : Int), .bool up, .int .u64 (heard : Int), .int .u64 (sent : Int)]) (BoxT (.slice BA box.length bc) box)) := hI; clear H hI; simp only [putAll, Act.put, List.setIfInBounds_toArray, List.set_cons_zero, List.set_cons_succ, Nat.reduceAdd, q24]; clear q24
     go_wp2_with fail
     go_meet
     case rel => exact ⟨rfl, hS⟩
   ·have e2 : ((finc : Int) == (inc : Int)) = false := beq_eq_false_iff_ne.2 (by omega); clear h1 h2
    go_wp2_with fail
    refine wRG (fun dn xv W => Sep w0 W (TKaF w now g X Qs kk ffr fto finc fconn pinc pconn ack seq A body.length c (Rw 51 10 (.slice none 0 0) 0 []) (Bods []) (Rw 49 4 (.slice none 0 0) 0 []) (Bods []) (#[.slice none 0 0, .slice none 0 0]) (#[.int .u64 (base : Int), .slice BA box.length bc, .int .u64 (got : Int), .int .i64 sn, .int .u64 (si : Int), .int .i64 peer, .int .u64 (conn : Int), .int .u64 (inc : Int), .int .u64 (known : Int), .bool up, .int .u64 (heard : Int), .int .u64 (sent : Int)]) (BoxT (.slice BA box.length bc) box))) (fun _ _ => True) [xP_ (w.heap.size + 1 + 1) 3, xV_ (.int .u64 (finc : Int)), xP_ g 0, xP_ g 0, xP_ g 7, xV_ (.int .u64 (inc : Int)), xV_ (.bool false), xV_ (.bool false), xP_ (w.heap.size + 1 + 1) 3, xV_ (.int .u64 (finc : Int)), xP_ g 0, xP_ g 0, xP_ g 7, xV_ (.int .u64 (inc : Int)), xV_ (.bool false), xV_ (.bool false), xV_ undef, xV_ undef, xV_ undef, xV_ undef, xV_ undef, xV_ undef, xV_ undef, xV_ (.bool false), xV_ (.bool false)] (fun xv => by simpa using HS2.out.drew) ?_ ?_
    ·refine Ep 1 5 (w.heap.size + 1 + 1) 0 ?_
     refine Eek 2 44 0 (fun _ _ _ e => cA (i := 9) e rfl 3 rfl) ?_
     refine Epk 3 3 w.heap.size 0 (fun _ _ _ e => cA (i := 6) e rfl 0 rfl) ?_
     refine Ee 4 46 2 ?_
     refine Ee 5 47 3 ?_
     refine Eek 6 48 4 (fun _ _ _ e => cA (i := 7) e rfl 7 rfl) ?_
     refine Eee 7 45 1 49 5 ?_
     refine Ee 8 50 6 ?_
     refine Epeg 9 5 (w.heap.size + 1 + 1) 0 51 7 ?_
     refine Eeegk 10 52 8 51 7 (fun _ _ _ e => cA (i := 9) e rfl 3 rfl) ?_
     refine Epegk 11 3 w.heap.size 0 51 7 (fun _ _ _ e => cA (i := 6) e rfl 0 rfl) ?_
     refine Eeeg 12 54 10 51 7 ?_
     refine Eeeg 13 55 11 51 7 ?_
     refine Eeegk 14 56 12 51 7 (fun _ _ _ e => cA (i := 7) e rfl 7 rfl) ?_
     refine Eeeeg 15 53 9 57 13 51 7 ?_
     refine Eeeg 16 58 14 51 7 ?_
     refine Eo 17 59 15 ?_
     refine EC 18 rfl (fun g h W F a b c d e H K f => ?_) ?_
     ·have f59 := gE (a 59) (by kernel_rfl) (H 15) (by kernel_rfl); have k9_4 := cA (i := 9) e rfl 4 rfl; clear H c b d a; refine off_guard rfl (by kernel_rfl) f59 (by decide) ?_; exact f.out _ _ rfl trivial e
     refine EC 19 rfl (fun g h W F a b c d e H K f => ?_) ?_
     ·have f59 := gE (a 59) (by kernel_rfl) (H 15) (by kernel_rfl); have k6_0 := cA (i := 6) e rfl 0 rfl; clear H c b d a; refine off_guard rfl (by kernel_rfl) f59 (by decide) ?_; exact f.out _ _ rfl trivial e
     refine Eo 20 59 15 ?_
     refine Eo 21 59 15 ?_
     refine EC 22 rfl (fun g h W F a b c d e H K f => ?_) ?_
     ·have f59 := gE (a 59) (by kernel_rfl) (H 15) (by kernel_rfl); have k7_8 := cA (i := 7) e rfl 8 rfl; clear H c b d a; refine off_guard rfl (by kernel_rfl) f59 (by decide) ?_; exact f.out _ _ rfl trivial e
     refine Eo 23 59 15 ?_
     refine Eeeeg 24 59 15 66 22 51 7 ?_
     refine Eee 25 51 7 67 23 ?_
     exact EN
    ·intro dn xv W hI H; have q24 : xv 24 = .bool false := (H 24 (of_decide_eq_true (by kernel_rfl))).2; have hS : Sep w0 W (TKaF w now g X Qs kk ffr fto finc fconn pinc pconn ack seq A body.length c (Rw 51 10 (.slice none 0 0) 0 []) (Bods []) (Rw 49 4 (.slice none 0 0) 0 []) (Bods []) (#[.slice none 0 0, .slice none 0 0]) (#[.int .u64 (base : Int), .slice BA box.length bc, .int .u64 (got : Int), .int .i64 sn, .int .u64 (si : Int), .int .i64 peer, .int .u64 (conn : Int), .int .u64 (inc : Int), .int .u64 (known : Int), .bool up, .int .u64 (heard : Int), .int .u64 (sent : Int)]) (BoxT (.slice BA box.length bc) box)) := hI; clear H hI; simp only [putAll, Act.put, List.setIfInBounds_toArray, List.set_cons_zero, List.set_cons_succ, Nat.reduceAdd, q24]; clear q24
     go_wp2_with fail
     go_meet
     case rel => exact ⟨rfl, hS⟩
  case rest =>
   obtain ⟨rfl, hS⟩ := hcut; clear HS2; have HS4 := Lib.hid hS; clear hS; have kl := cA (i := 6) HS4.out rfl 0 rfl
   go_wp2_with fail
   refine (sep_teller HS4.out g (w.heap.size + 1 + 1 + 1 + 1)).mono ?_; rintro e w6 ⟨q1, q0, rfl, h6⟩; have HS6 : Hid (Sep w0 w6 (TKqF w now g q1 q0 X Qs kk ffr fto finc fconn pinc pconn ack seq A body.length c (Rw 51 10 (.slice none 0 0) 0 []) (Bods []) (Rw 49 4 (.slice none 0 0) 0 []) (Bods []) (#[.slice none 0 0, .slice none 0 0]) (#[.int .u64 (base : Int), .slice BA box.length bc, .int .u64 (got : Int), .int .i64 sn, .int .u64 (si : Int), .int .i64 peer, .int .u64 (conn : Int), .int .u64 (inc : Int), .int .u64 (known : Int), .bool up, .int .u64 (heard : Int), .int .u64 (sent : Int)]) (BoxT (.slice BA box.length bc) box))) := Lib.hid ((((((((((((h6).tF 1 rfl).tF 1 rfl).tF 10 rfl).tF 10 rfl).tF 10 rfl).tF 10 rfl).tF 10 rfl).tF 10 rfl).tF 10 rfl).tF 10 rfl).tF 10 rfl); clear h6 HS4 kl
   go_upto_region 7 with fail
   go_cut [87] from 72 to 87 (fun t wx => t = .bool p3 ∧ Sep w0 wx (TKqF w now g q1 q0 X Qs kk ffr fto finc fconn pinc pconn ack seq A body.length c (Rw 51 10 (.slice none 0 0) 0 []) (Bods []) (Rw 49 4 (.slice none 0 0) 0 []) (Bods []) (#[.slice none 0 0, .slice none 0 0]) (#[.int .u64 (base : Int), .slice BA box.length bc, .int .u64 (got : Int), .int .i64 sn, .int .u64 (si : Int), .int .i64 peer, .int .u64 (conn : Int), .int .u64 (inc : Int), .int .u64 (known : Int), .bool up, .int .u64 (heard : Int), .int .u64 (sent : Int)]) (BoxT (.slice BA box.length bc) box)))
   case first =>
      by_cases h1 : finc = inc
      ·have e1 : ((finc : Int) != (inc : Int)) = false := by simp [h1]
       have H1 := Lib.hid h1; clear h1
       by_cases h2 : fconn = known
       ·have e2 : ((fconn : Int) != (known : Int)) = false := by simp [h2]
        have H2 := Lib.hid h2; clear h2
        go_wp2_with fail
        refine wRG (fun dn xv W => Sep w0 W (TKqF w now g q1 q0 X Qs kk ffr fto finc fconn pinc pconn ack seq A body.length c (Rw 51 10 (.slice none 0 0) 0 []) (Bods []) (Rw 49 4 (.slice none 0 0) 0 []) (Bods []) (#[.slice none 0 0, .slice none 0 0]) (#[.int .u64 (base : Int), .slice BA box.length bc, .int .u64 (got : Int), .int .i64 sn, .int .u64 (si : Int), .int .i64 peer, .int .u64 (conn : Int), .int .u64 (inc : Int), .int .u64 (known : Int), .bool up, .int .u64 (heard : Int), .int .u64 (sent : Int)]) (BoxT (.slice BA box.length bc) box))) (fun _ _ => True) [xP_ (w.heap.size + 1 + 1) 3, xV_ (.int .u64 (finc : Int)), xP_ g 0, xP_ g 0, xP_ g 7, xV_ (.int .u64 (inc : Int)), xV_ (.bool false), xV_ (.bool false), xP_ (w.heap.size + 1 + 1) 4, xV_ (.int .u64 (fconn : Int)), xP_ g 0, xP_ g 0, xP_ g 8, xV_ (.int .u64 (known : Int)), xV_ (.bool false), xV_ (.bool false)] (fun xv => by simpa using HS6.out.drew) ?_ ?_
        ·refine Ep 1 5 (w.heap.size + 1 + 1) 0 ?_
         refine Eek 2 72 0 (fun _ _ _ e => cA (i := 11) e rfl 3 rfl) ?_
         refine Epk 3 3 w.heap.size 0 (fun _ _ _ e => cA (i := 6) e rfl 0 rfl) ?_
         refine Ee 4 74 2 ?_
         refine Ee 5 75 3 ?_
         refine Eek 6 76 4 (fun _ _ _ e => cA (i := 7) e rfl 7 rfl) ?_
         refine Eee 7 73 1 77 5 ?_
         refine Ee 8 78 6 ?_
         refine Epeg 9 5 (w.heap.size + 1 + 1) 0 79 7 ?_
         refine Eeegk 10 80 8 79 7 (fun _ _ _ e => cA (i := 11) e rfl 4 rfl) ?_
         refine Epegk 11 3 w.heap.size 0 79 7 (fun _ _ _ e => cA (i := 6) e rfl 0 rfl) ?_
         refine Eeeg 12 82 10 79 7 ?_
         refine Eeeg 13 83 11 79 7 ?_
         refine Eeegk 14 84 12 79 7 (fun _ _ _ e => cA (i := 7) e rfl 8 rfl) ?_
         refine Eeeeg 15 81 9 85 13 79 7 ?_
         refine Eee 16 79 7 86 14 ?_
         exact EN
        ·intro dn xv W hI H; have q15 : xv 15 = .bool false := (H 15 (of_decide_eq_true (by kernel_rfl))).2; have hS : Sep w0 W (TKqF w now g q1 q0 X Qs kk ffr fto finc fconn pinc pconn ack seq A body.length c (Rw 51 10 (.slice none 0 0) 0 []) (Bods []) (Rw 49 4 (.slice none 0 0) 0 []) (Bods []) (#[.slice none 0 0, .slice none 0 0]) (#[.int .u64 (base : Int), .slice BA box.length bc, .int .u64 (got : Int), .int .i64 sn, .int .u64 (si : Int), .int .i64 peer, .int .u64 (conn : Int), .int .u64 (inc : Int), .int .u64 (known : Int), .bool up, .int .u64 (heard : Int), .int .u64 (sent : Int)]) (BoxT (.slice BA box.length bc) box)) := hI; clear H hI; simp only [putAll, Act.put, List.setIfInBounds_toArray, List.set_cons_zero, List.set_cons_succ, Nat.reduceAdd, q15]; clear q15
         go_wp2_with fail
         go_meet
         case rel => exact ⟨by rw [← Hp3.out]; simp [H1.out, H2.out], hS⟩
       ·have e2 : ((fconn : Int) != (known : Int)) = true := by simp; omega
        have H2 := Lib.hid h2; clear h2
        go_wp2_with fail
        refine wRG (fun dn xv W => Sep w0 W (TKqF w now g q1 q0 X Qs kk ffr fto finc fconn pinc pconn ack seq A body.length c (Rw 51 10 (.slice none 0 0) 0 []) (Bods []) (Rw 49 4 (.slice none 0 0) 0 []) (Bods []) (#[.slice none 0 0, .slice none 0 0]) (#[.int .u64 (base : Int), .slice BA box.length bc, .int .u64 (got : Int), .int .i64 sn, .int .u64 (si : Int), .int .i64 peer, .int .u64 (conn : Int), .int .u64 (inc : Int), .int .u64 (known : Int), .bool up, .int .u64 (heard : Int), .int .u64 (sent : Int)]) (BoxT (.slice BA box.length bc) box))) (fun _ _ => True) [xP_ (w.heap.size + 1 + 1) 3, xV_ (.int .u64 (finc : Int)), xP_ g 0, xP_ g 0, xP_ g 7, xV_ (.int .u64 (inc : Int)), xV_ (.bool false), xV_ (.bool false), xP_ (w.heap.size + 1 + 1) 4, xV_ (.int .u64 (fconn : Int)), xP_ g 0, xP_ g 0, xP_ g 8, xV_ (.int .u64 (known : Int)), xV_ (.bool true), xV_ (.bool true)] (fun xv => by simpa using HS6.out.drew) ?_ ?_
        ·refine Ep 1 5 (w.heap.size + 1 + 1) 0 ?_
         refine Eek 2 72 0 (fun _ _ _ e => cA (i := 11) e rfl 3 rfl) ?_
         refine Epk 3 3 w.heap.size 0 (fun _ _ _ e => cA (i := 6) e rfl 0 rfl) ?_
         refine Ee 4 74 2 ?_
         refine Ee 5 75 3 ?_
         refine Eek 6 76 4 (fun _ _ _ e => cA (i := 7) e rfl 7 rfl) ?_
         refine Eee 7 73 1 77 5 ?_
         refine Ee 8 78 6 ?_
         refine Epeg 9 5 (w.heap.size + 1 + 1) 0 79 7 ?_
         refine Eeegk 10 80 8 79 7 (fun _ _ _ e => cA (i := 11) e rfl 4 rfl) ?_
         refine Epegk 11 3 w.heap.size 0 79 7 (fun _ _ _ e => cA (i := 6) e rfl 0 rfl) ?_
         refine Eeeg 12 82 10 79 7 ?_
         refine Eeeg 13 83 11 79 7 ?_
         refine Eeegk 14 84 12 79 7 (fun _ _ _ e => cA (i := 7) e rfl 8 rfl) ?_
         refine Eeeeg 15 81 9 85 13 79 7 ?_
         refine Eee 16 79 7 86 14 ?_
         exact EN
        ·intro dn xv W hI H; have q15 : xv 15 = .bool true := (H 15 (of_decide_eq_true (by kernel_rfl))).2; have hS : Sep w0 W (TKqF w now g q1 q0 X Qs kk ffr fto finc fconn pinc pconn ack seq A body.length c (Rw 51 10 (.slice none 0 0) 0 []) (Bods []) (Rw 49 4 (.slice none 0 0) 0 []) (Bods []) (#[.slice none 0 0, .slice none 0 0]) (#[.int .u64 (base : Int), .slice BA box.length bc, .int .u64 (got : Int), .int .i64 sn, .int .u64 (si : Int), .int .i64 peer, .int .u64 (conn : Int), .int .u64 (inc : Int), .int .u64 (known : Int), .bool up, .int .u64 (heard : Int), .int .u64 (sent : Int)]) (BoxT (.slice BA box.length bc) box)) := hI; clear H hI; simp only [putAll, Act.put, List.setIfInBounds_toArray, List.set_cons_zero, List.set_cons_succ, Nat.reduceAdd, q15]; clear q15
         go_wp2_with fail
         go_meet
         case rel => exact ⟨by rw [← Hp3.out]; simp [H2.out], hS⟩
      ·have e1 : ((finc : Int) != (inc : Int)) = true := by simp; omega
       have H1 := Lib.hid h1; clear h1
       go_wp2_with fail
       refine wRG (fun dn xv W => Sep w0 W (TKqF w now g q1 q0 X Qs kk ffr fto finc fconn pinc pconn ack seq A body.length c (Rw 51 10 (.slice none 0 0) 0 []) (Bods []) (Rw 49 4 (.slice none 0 0) 0 []) (Bods []) (#[.slice none 0 0, .slice none 0 0]) (#[.int .u64 (base : Int), .slice BA box.length bc, .int .u64 (got : Int), .int .i64 sn, .int .u64 (si : Int), .int .i64 peer, .int .u64 (conn : Int), .int .u64 (inc : Int), .int .u64 (known : Int), .bool up, .int .u64 (heard : Int), .int .u64 (sent : Int)]) (BoxT (.slice BA box.length bc) box))) (fun _ _ => True) [xP_ (w.heap.size + 1 + 1) 3, xV_ (.int .u64 (finc : Int)), xP_ g 0, xP_ g 0, xP_ g 7, xV_ (.int .u64 (inc : Int)), xV_ (.bool true), xV_ (.bool true), xV_ undef, xV_ undef, xV_ undef, xV_ undef, xV_ undef, xV_ undef, xV_ undef, xV_ (.bool true)] (fun xv => by simpa using HS6.out.drew) ?_ ?_
       ·refine Ep 1 5 (w.heap.size + 1 + 1) 0 ?_
        refine Eek 2 72 0 (fun _ _ _ e => cA (i := 11) e rfl 3 rfl) ?_
        refine Epk 3 3 w.heap.size 0 (fun _ _ _ e => cA (i := 6) e rfl 0 rfl) ?_
        refine Ee 4 74 2 ?_
        refine Ee 5 75 3 ?_
        refine Eek 6 76 4 (fun _ _ _ e => cA (i := 7) e rfl 7 rfl) ?_
        refine Eee 7 73 1 77 5 ?_
        refine Ee 8 78 6 ?_
        refine Eo 9 79 7 ?_
        refine EC 10 rfl (fun g h W F a b c d e H K f => ?_) ?_
        ·have f79 := gE (a 79) (by kernel_rfl) (H 7) (by kernel_rfl); have k11_4 := cA (i := 11) e rfl 4 rfl; clear H c b d a; refine off_guard rfl (by kernel_rfl) f79 (by decide) ?_; exact f.out _ _ rfl trivial e
        refine EC 11 rfl (fun g h W F a b c d e H K f => ?_) ?_
        ·have f79 := gE (a 79) (by kernel_rfl) (H 7) (by kernel_rfl); have k6_0 := cA (i := 6) e rfl 0 rfl; clear H c b d a; refine off_guard rfl (by kernel_rfl) f79 (by decide) ?_; exact f.out _ _ rfl trivial e
        refine Eo 12 79 7 ?_
        refine Eo 13 79 7 ?_
        refine EC 14 rfl (fun g h W F a b c d e H K f => ?_) ?_
        ·have f79 := gE (a 79) (by kernel_rfl) (H 7) (by kernel_rfl); have k7_8 := cA (i := 7) e rfl 8 rfl; clear H c b d a; refine off_guard rfl (by kernel_rfl) f79 (by decide) ?_; exact f.out _ _ rfl trivial e
        refine Eo 15 79 7 ?_
        refine Eee 16 79 7 86 14 ?_
        exact EN
       ·intro dn xv W hI H; have q15 : xv 15 = .bool true := (H 15 (of_decide_eq_true (by kernel_rfl))).2; have hS : Sep w0 W (TKqF w now g q1 q0 X Qs kk ffr fto finc fconn pinc pconn ack seq A body.length c (Rw 51 10 (.slice none 0 0) 0 []) (Bods []) (Rw 49 4 (.slice none 0 0) 0 []) (Bods []) (#[.slice none 0 0, .slice none 0 0]) (#[.int .u64 (base : Int), .slice BA box.length bc, .int .u64 (got : Int), .int .i64 sn, .int .u64 (si : Int), .int .i64 peer, .int .u64 (conn : Int), .int .u64 (inc : Int), .int .u64 (known : Int), .bool up, .int .u64 (heard : Int), .int .u64 (sent : Int)]) (BoxT (.slice BA box.length bc) box)) := hI; clear H hI; simp only [putAll, Act.put, List.setIfInBounds_toArray, List.set_cons_zero, List.set_cons_succ, Nat.reduceAdd, q15]; clear q15
        go_wp2_with fail
        go_meet
        case rel => exact ⟨by rw [← Hp3.out]; simp [H1.out], hS⟩
   case rest =>
    obtain ⟨rfl, hS⟩ := hcut; clear HS6; have HS7 := Lib.hid hS; clear hS
    go_upto_if 87 with fail
    go_cut [] from 88 to 100 (fun wx => ∃ vF vE bx2 LE, Hid (vF = .slice none 0 0) ∧ LE.map Prod.fst = sS.take1E fF ∧ Sep w0 wx (TKqF w now g q1 q0 X Qs kk ffr fto finc fconn pinc pconn ack seq A body.length c (Rw 51 10 vF 0 []) (Bods []) (Rw 49 4 vE LE.length (eR_ LE)) (Bods (eB_ LE)) (#[vF, vE]) ((sS.turn fF).cells bx2) (BoxT bx2 (sS.turn fF).box)))
    case first =>
       cases p3 with
       | false =>
        go_wp2_with fail
        go_meet
        case rel =>
         refine ⟨.slice none 0 0, .slice none 0 0, .slice BA box.length bc, [], Lib.hid rfl, by rw [LS.take1E, HOTH.out]; rfl, ?_⟩; rw [LS.turn, if_neg (by rw [HOTH.out]; simp), ← HSS.out]; exact HS7.out
       | true =>
        have kl := cA (i := 6) HS7.out rfl 0 rfl
        go_wp2_with fail
        refine (downAny (s := ⟨base, box, got, sn, si, peer, conn, inc, known, up, heard, sent⟩) HS7.out HSN.out).mono ?_; rintro e w8 ⟨rfl, vE, LE, hLE, h8⟩; have HLE := Lib.hid hLE; obtain ⟨mE, HmE⟩ : ∃ x, Hid (LE.length = x) := ⟨_, Lib.hid rfl⟩; obtain ⟨yE, HyE⟩ : ∃ x, Hid (eR_ LE = x) := ⟨_, Lib.hid rfl⟩; obtain ⟨LBE, HLB⟩ : ∃ x, Hid (eB_ LE = x) := ⟨_, Lib.hid rfl⟩; rw [HmE.out, HyE.out, HLB.out] at h8; have HS8 := Lib.hid (show Sep w0 w8 (TKqF w now g q1 q0 X Qs kk ffr fto finc fconn pinc pconn ack seq A body.length c (Rw 51 10 (.slice none 0 0) 0 []) (Bods []) (Rw 49 4 vE mE yE) (Bods LBE) (#[.slice none 0 0, vE]) (#[.int .u64 0, .slice none 0 0, .int .u64 0, .int .i64 sn, .int .u64 (si : Int), .int .i64 peer, .int .u64 (conn : Int), .int .u64 (inc : Int), .int .u64 (known : Int), .bool false, .int .u64 (heard : Int), .int .u64 (sent : Int)]) (BoxT (.slice none 0 0) [])) from h8); clear h8 hLE kl; have HP9 : ∀ (dn : Nat → Bool) (W : World), (if dn 11 = true then Sep w0 W (TKqF w now g q1 q0 X Qs kk ffr fto finc fconn pinc pconn ack seq A body.length c (Rw 51 10 (.slice none 0 0) 0 []) (Bods []) (Rw 49 4 vE mE yE) (Bods LBE) (#[.slice none 0 0, vE]) (#[.int .u64 0, .slice none 0 0, .int .u64 0, .int .i64 sn, .int .u64 (si : Int), .int .i64 peer, .int .u64 (conn : Int), .int .u64 (finc : Int), .int .u64 (fconn : Int), .bool false, .int .u64 (heard : Int), .int .u64 (sent : Int)]) (BoxT (.slice none 0 0) [])) else if dn 8 = true then Sep w0 W (TKqF w now g q1 q0 X Qs kk ffr fto finc fconn pinc pconn ack seq A body.length c (Rw 51 10 (.slice none 0 0) 0 []) (Bods []) (Rw 49 4 vE mE yE) (Bods LBE) (#[.slice none 0 0, vE]) (#[.int .u64 0, .slice none 0 0, .int .u64 0, .int .i64 sn, .int .u64 (si : Int), .int .i64 peer, .int .u64 (conn : Int), .int .u64 (finc : Int), .int .u64 (known : Int), .bool false, .int .u64 (heard : Int), .int .u64 (sent : Int)]) (BoxT (.slice none 0 0) [])) else Sep w0 W (TKqF w now g q1 q0 X Qs kk ffr fto finc fconn pinc pconn ack seq A body.length c (Rw 51 10 (.slice none 0 0) 0 []) (Bods []) (Rw 49 4 vE mE yE) (Bods LBE) (#[.slice none 0 0, vE]) (#[.int .u64 0, .slice none 0 0, .int .u64 0, .int .i64 sn, .int .u64 (si : Int), .int .i64 peer, .int .u64 (conn : Int), .int .u64 (inc : Int), .int .u64 (known : Int), .bool false, .int .u64 (heard : Int), .int .u64 (sent : Int)]) (BoxT (.slice none 0 0) []))) → ∃ cs, Sep w0 W (TKqF w now g q1 q0 X Qs kk ffr fto finc fconn pinc pconn ack seq A body.length c (Rw 51 10 (.slice none 0 0) 0 []) (Bods []) (Rw 49 4 vE mE yE) (Bods LBE) (#[.slice none 0 0, vE]) (cs) (BoxT (.slice none 0 0) [])) := fun dn W h => by
         split at h
         ·exact ⟨_, h⟩
         split at h
         ·exact ⟨_, h⟩
         exact ⟨_, h⟩
        go_wp2_with fail
        refine wRG (fun dn xv W => if dn 11 = true then Sep w0 W (TKqF w now g q1 q0 X Qs kk ffr fto finc fconn pinc pconn ack seq A body.length c (Rw 51 10 (.slice none 0 0) 0 []) (Bods []) (Rw 49 4 vE mE yE) (Bods LBE) (#[.slice none 0 0, vE]) (#[.int .u64 0, .slice none 0 0, .int .u64 0, .int .i64 sn, .int .u64 (si : Int), .int .i64 peer, .int .u64 (conn : Int), .int .u64 (finc : Int), .int .u64 (fconn : Int), .bool false, .int .u64 (heard : Int), .int .u64 (sent : Int)]) (BoxT (.slice none 0 0) [])) else if dn 8 = true then Sep w0 W (TKqF w now g q1 q0 X Qs kk ffr fto finc fconn pinc pconn ack seq A body.length c (Rw 51 10 (.slice none 0 0) 0 []) (Bods []) (Rw 49 4 vE mE yE) (Bods LBE) (#[.slice none 0 0, vE]) (#[.int .u64 0, .slice none 0 0, .int .u64 0, .int .i64 sn, .int .u64 (si : Int), .int .i64 peer, .int .u64 (conn : Int), .int .u64 (finc : Int), .int .u64 (known : Int), .bool false, .int .u64 (heard : Int), .int .u64 (sent : Int)]) (BoxT (.slice none 0 0) [])) else Sep w0 W (TKqF w now g q1 q0 X Qs kk ffr fto finc fconn pinc pconn ack seq A body.length c (Rw 51 10 (.slice none 0 0) 0 []) (Bods []) (Rw 49 4 vE mE yE) (Bods LBE) (#[.slice none 0 0, vE]) (#[.int .u64 0, .slice none 0 0, .int .u64 0, .int .i64 sn, .int .u64 (si : Int), .int .i64 peer, .int .u64 (conn : Int), .int .u64 (inc : Int), .int .u64 (known : Int), .bool false, .int .u64 (heard : Int), .int .u64 (sent : Int)]) (BoxT (.slice none 0 0) []))) (fun _ _ => True) [xP_ g 0, xP_ g 0, xP_ (w.heap.size + 1 + 1) 3, xV_ (.int .u64 (finc : Int)), xP_ (w.heap.size + 1 + 1) 4, xV_ (.int .u64 (fconn : Int)), xP_ g 0, xP_ g 7, fun v _ => True, xP_ g 0, xP_ g 8, fun v _ => True] (fun xv => by simpa using HS8.out.drew) ?_ ?_
        ·refine EC 1 rfl (fun g h W F a b c d e H K f => ?_) ?_
         ·have f3 : F.tmps.getD 3 undef = .pointer (some ⟨w.heap.size, 0, none⟩) := (a 3).trans (by kernel_rfl); obtain ⟨_, hp⟩ := HP9 g W e; have k6_0 := cA (i := 6) hp rfl 0 rfl; clear H c b d a; refine oP rfl ?_; go_simp; exact f.out _ _ rfl trivial e
         refine EC 2 rfl (fun g h W F a b c d e H K f => ?_) ?_
         ·have f3 : F.tmps.getD 3 undef = .pointer (some ⟨w.heap.size, 0, none⟩) := (a 3).trans (by kernel_rfl); obtain ⟨_, hp⟩ := HP9 g W e; have k6_0 := cA (i := 6) hp rfl 0 rfl; clear H c b d a; refine oP rfl ?_; go_simp; exact f.out _ _ rfl trivial e
         refine Ep 3 5 (w.heap.size + 1 + 1) 0 ?_
         refine EC 4 rfl (fun g h W F a b c d e H K f => ?_) ?_
         ·have f93 := gE (a 93) (by kernel_rfl) (H 2) (by kernel_rfl); obtain ⟨_, hp⟩ := HP9 g W e; have k11_3 := cA (i := 11) hp rfl 3 rfl; clear H c b d a; refine oP rfl ?_; go_simp; exact f.out _ _ rfl trivial e
         refine Ep 5 5 (w.heap.size + 1 + 1) 0 ?_
         refine EC 6 rfl (fun g h W F a b c d e H K f => ?_) ?_
         ·have f95 := gE (a 95) (by kernel_rfl) (H 4) (by kernel_rfl); obtain ⟨_, hp⟩ := HP9 g W e; have k11_4 := cA (i := 11) hp rfl 4 rfl; clear H c b d a; refine oP rfl ?_; go_simp; exact f.out _ _ rfl trivial e
         refine Ee 7 91 0 ?_
         refine Ee 8 97 6 ?_
         refine EC 9 rfl (fun j k W F a b d e f H K h => ?_) ?_
         ·have f94 := gE (a 94) (by kernel_rfl) (H 3) (by kernel_rfl); have f98 := gE (a 98) (by kernel_rfl) (H 7) (by kernel_rfl); have q11 := d 11 uE; rw [if_neg (by simp [q11]), if_neg (by simp [b])] at f; have hS := f; clear f d b e a H; refine oP rfl ?_; have kk7 := cA (i := 7) hS rfl 7 rfl; have yy7 := cFz (i := 7) hS rfl 7; have hs : Sep w0 (W.setCell ⟨g, 7, none⟩ (.int .u64 (finc : Int))) (TKqF w now g q1 q0 X Qs kk ffr fto finc fconn pinc pconn ack seq A body.length c (Rw 51 10 (.slice none 0 0) 0 []) (Bods []) (Rw 49 4 vE mE yE) (Bods LBE) (#[.slice none 0 0, vE]) (#[.int .u64 0, .slice none 0 0, .int .u64 0, .int .i64 sn, .int .u64 (si : Int), .int .i64 peer, .int .u64 (conn : Int), .int .u64 (finc : Int), .int .u64 (known : Int), .bool false, .int .u64 (heard : Int), .int .u64 (sent : Int)]) (BoxT (.slice none 0 0) [])) := cS (i := 7) hS rfl 7 (.int .u64 (finc : Int)); go_simp; exact h.out undef _ trivial trivial (by simpa [upB, upd, q11] using hs)
         refine Ee 10 92 1 ?_
         refine Ee 11 99 9 ?_
         refine EC 12 rfl (fun j k W F a b d e f H K h => ?_) ?_
         ·have f96 := gE (a 96) (by kernel_rfl) (H 5) (by kernel_rfl); have f100 := gE (a 100) (by kernel_rfl) (H 10) (by kernel_rfl); have q8 := (H 8 uE).1; rw [if_neg (by simp [b]), if_pos q8] at f; have hS := f; clear f d b e a H; refine oP rfl ?_; have kk8 := cA (i := 7) hS rfl 8 rfl; have yy8 := cFz (i := 7) hS rfl 8; have hs : Sep w0 (W.setCell ⟨g, 8, none⟩ (.int .u64 (fconn : Int))) (TKqF w now g q1 q0 X Qs kk ffr fto finc fconn pinc pconn ack seq A body.length c (Rw 51 10 (.slice none 0 0) 0 []) (Bods []) (Rw 49 4 vE mE yE) (Bods LBE) (#[.slice none 0 0, vE]) (#[.int .u64 0, .slice none 0 0, .int .u64 0, .int .i64 sn, .int .u64 (si : Int), .int .i64 peer, .int .u64 (conn : Int), .int .u64 (finc : Int), .int .u64 (fconn : Int), .bool false, .int .u64 (heard : Int), .int .u64 (sent : Int)]) (BoxT (.slice none 0 0) [])) := cS (i := 7) hS rfl 8 (.int .u64 (fconn : Int)); go_simp; exact h.out undef _ trivial trivial (by simpa [upB, upd] using hs)
         exact EN
        ·intro dn xv W hI H; have qe : dn 11 = true := (H 11 (of_decide_eq_true (by kernel_rfl))).1; rw [if_pos qe] at hI; have hS := hI; clear H hI qe; simp only [putAll, Act.put, List.setIfInBounds_toArray, List.set_cons_zero, List.set_cons_succ, Nat.reduceAdd]; have HS9 := Lib.hid hS; clear hS
         go_wp2_with fail
         go_meet
         case rel =>
          refine ⟨.slice none 0 0, vE, .slice none 0 0, LE, Lib.hid rfl, ?_, ?_⟩
          ·rw [LS.take1E, HOTH.out, HLE.out, ← HSS.out]; simp
          ·rw [LS.turn, if_pos (by rw [HOTH.out]), ← HSS.out, ← HFF.out, HmE.out, HyE.out, HLB.out]; exact HS9.out
    case rest =>
       obtain ⟨vF, vE, bx2, LE, HVF, hLE, hS⟩ := hcut; have HLE := Lib.hid hLE; have hnt : (sS.turn fF).Num := HOS.out.turn fF; clear HS7 HOK Hp1 Hp2 Hp3 HOTH HLOOK HN4 hLE hcc hcm HSN HSS; clear base box got sn si peer conn inc known up heard sent BA bc; obtain ⟨t, Ht⟩ : ∃ t, Hid (sS.turn fF = t) := ⟨_, Lib.hid rfl⟩; rw [Ht.out] at hS hnt; obtain ⟨BA, bc, rfl, hcc, hcm, hbx⟩ := sep_boxForm (i := 8) hS rfl hnt.small; have HOT := Lib.hid hnt; obtain ⟨tT, HTT⟩ : ∃ x, Hid (t = x) := ⟨_, Lib.hid rfl⟩; have HOTT : Hid (tT.Num) := Lib.hid (by rw [← HTT.out]; exact hnt); rw [HTT.out] at Ht; obtain ⟨base, box, got, sn, si, peer, conn, inc, known, up, heard, sent⟩ := t; have hsn : sn ≠ 0 := hnt.sn; have HSN := Lib.hid hsn; have hbb : base + box.length ≤ 34359738367 := hnt.base; have hb48 : box.length ≤ 48 := hnt.box; have hgot : got ≤ 34359738367 := hnt.got; have HFIT : Hid (Fit box) := Lib.hid hnt.fit; obtain ⟨p4, Hp4⟩ : ∃ q, Hid ((!(decide (pinc = si) && decide (pconn = conn))) = q) := ⟨_, Lib.hid rfl⟩; have HKN : Hid ((sS.take1 now fF).knows fF = !p4) := Lib.hid (by
        rw [← Hp4.out, Bool.not_not, LS.take1, Ht.out, ← HTT.out, ← HFF.out]; rfl)
       obtain ⟨mE, HmE⟩ : ∃ x, Hid (LE.length = x) := ⟨_, Lib.hid rfl⟩; obtain ⟨yE, HyE⟩ : ∃ x, Hid (eR_ LE = x) := ⟨_, Lib.hid rfl⟩; obtain ⟨LBE, HLB⟩ : ∃ x, Hid (eB_ LE = x) := ⟨_, Lib.hid rfl⟩; have hmE : mE ≤ 1 := by
        have h1 := congrArg List.length HLE.out; rw [List.length_map, HmE.out] at h1; rw [h1, LS.take1E]; split <;> simp
       rw [HmE.out, HyE.out, HLB.out] at hS; have HS9 := Lib.hid (show Sep w0 wc (TKqF w now g q1 q0 X Qs kk ffr fto finc fconn pinc pconn ack seq A body.length c (Rw 51 10 vF 0 []) (Bods []) (Rw 49 4 vE mE yE) (Bods LBE) (#[vF, vE]) (#[.int .u64 (base : Int), .slice BA box.length bc, .int .u64 (got : Int), .int .i64 sn, .int .u64 (si : Int), .int .i64 peer, .int .u64 (conn : Int), .int .u64 (inc : Int), .int .u64 (known : Int), .bool up, .int .u64 (heard : Int), .int .u64 (sent : Int)]) (BoxT (.slice BA box.length bc) box)) from hS); clear hS hnt hsn hbx; have kl := cA (i := 6) HS9.out rfl 0 rfl; have kn := cA (i := 12) HS9.out rfl 0 rfl; have kh := cA (i := 7) HS9.out rfl 10 rfl; have yh := cFz (i := 7) HS9.out rfl 10; have HS10 := Lib.hid (show Sep w0 (wc.setCell ⟨g, 10, none⟩ (.int .u64 (now : Int))) (TKqF w now g q1 q0 X Qs kk ffr fto finc fconn pinc pconn ack seq A body.length c (Rw 51 10 vF 0 []) (Bods []) (Rw 49 4 vE mE yE) (Bods LBE) (#[vF, vE]) (#[.int .u64 (base : Int), .slice BA box.length bc, .int .u64 (got : Int), .int .i64 sn, .int .u64 (si : Int), .int .i64 peer, .int .u64 (conn : Int), .int .u64 (inc : Int), .int .u64 (known : Int), .bool up, .int .u64 (now : Int), .int .u64 (sent : Int)]) (BoxT (.slice BA box.length bc) box)) from cS (i := 7) HS9.out rfl 10 (.int .u64 (now : Int)))
       go_upto_region 11 with fail
       clear kl kn kh yh; have hp4 : p4 = true := by
        have h := HKN.out; rw [HKN0.out] at h; simpa using h
       subst hp4
       go_cut [121] from 105 to 121 (fun t wx => t = .bool true ∧ Sep w0 wx (TKqF w now g q1 q0 X Qs kk ffr fto finc fconn pinc pconn ack seq A body.length c (Rw 51 10 vF 0 []) (Bods []) (Rw 49 4 vE mE yE) (Bods LBE) (#[vF, vE]) (#[.int .u64 (base : Int), .slice BA box.length bc, .int .u64 (got : Int), .int .i64 sn, .int .u64 (si : Int), .int .i64 peer, .int .u64 (conn : Int), .int .u64 (inc : Int), .int .u64 (known : Int), .bool up, .int .u64 (now : Int), .int .u64 (sent : Int)]) (BoxT (.slice BA box.length bc) box)))
       case first =>
         by_cases h1 : pinc = si
         ·have e1 : ((pinc : Int) != (si : Int)) = false := by simp [h1]
          have H1 := Lib.hid h1; clear h1
          by_cases h2 : pconn = conn
          ·have e2 : ((pconn : Int) != (conn : Int)) = false := by simp [h2]
           have h9 := Hp4.out; rw [decide_eq_true H1.out, decide_eq_true h2] at h9; simp at h9
          ·have e2 : ((pconn : Int) != (conn : Int)) = true := by simp; omega
           have H2 := Lib.hid h2; clear h2
           go_wp2_with fail
           refine wRG (fun dn xv W => Sep w0 W (TKqF w now g q1 q0 X Qs kk ffr fto finc fconn pinc pconn ack seq A body.length c (Rw 51 10 vF 0 []) (Bods []) (Rw 49 4 vE mE yE) (Bods LBE) (#[vF, vE]) (#[.int .u64 (base : Int), .slice BA box.length bc, .int .u64 (got : Int), .int .i64 sn, .int .u64 (si : Int), .int .i64 peer, .int .u64 (conn : Int), .int .u64 (inc : Int), .int .u64 (known : Int), .bool up, .int .u64 (now : Int), .int .u64 (sent : Int)]) (BoxT (.slice BA box.length bc) box))) (fun _ _ => True) [xP_ (w.heap.size + 1 + 1) 5, xV_ (.int .u64 (pinc : Int)), xP_ g 0, xP_ g 0, xP_ g 3, xP_ g 4, xV_ (.int .u64 (si : Int)), xV_ (.bool false), xV_ (.bool false), xP_ (w.heap.size + 1 + 1) 6, xV_ (.int .u64 (pconn : Int)), xP_ g 0, xP_ g 0, xP_ g 6, xV_ (.int .u64 (conn : Int)), xV_ (.bool true), xV_ (.bool true)] (fun xv => by simpa using HS10.out.drew) ?_ ?_
           ·refine Ep 1 5 (w.heap.size + 1 + 1) 0 ?_
            refine Eek 2 105 0 (fun _ _ _ e => cA (i := 11) e rfl 5 rfl) ?_
            refine Epk 3 3 w.heap.size 0 (fun _ _ _ e => cA (i := 6) e rfl 0 rfl) ?_
            refine Ee 4 107 2 ?_
            refine Ee 5 108 3 ?_
            refine Ee 6 109 4 ?_
            refine Eek 7 110 5 (fun _ _ _ e => cA (i := 7) e rfl 4 rfl) ?_
            refine Eee 8 106 1 111 6 ?_
            refine Ee 9 112 7 ?_
            refine Epeg 10 5 (w.heap.size + 1 + 1) 0 113 8 ?_
            refine Eeegk 11 114 9 113 8 (fun _ _ _ e => cA (i := 11) e rfl 6 rfl) ?_
            refine Epegk 12 3 w.heap.size 0 113 8 (fun _ _ _ e => cA (i := 6) e rfl 0 rfl) ?_
            refine Eeeg 13 116 11 113 8 ?_
            refine Eeeg 14 117 12 113 8 ?_
            refine Eeegk 15 118 13 113 8 (fun _ _ _ e => cA (i := 7) e rfl 6 rfl) ?_
            refine Eeeeg 16 115 10 119 14 113 8 ?_
            refine Eee 17 113 8 120 15 ?_
            exact EN
           ·intro dn xv W hI H; have q16 : xv 16 = .bool true := (H 16 (of_decide_eq_true (by kernel_rfl))).2; have hS : Sep w0 W (TKqF w now g q1 q0 X Qs kk ffr fto finc fconn pinc pconn ack seq A body.length c (Rw 51 10 vF 0 []) (Bods []) (Rw 49 4 vE mE yE) (Bods LBE) (#[vF, vE]) (#[.int .u64 (base : Int), .slice BA box.length bc, .int .u64 (got : Int), .int .i64 sn, .int .u64 (si : Int), .int .i64 peer, .int .u64 (conn : Int), .int .u64 (inc : Int), .int .u64 (known : Int), .bool up, .int .u64 (now : Int), .int .u64 (sent : Int)]) (BoxT (.slice BA box.length bc) box)) := hI; clear H hI; simp only [putAll, Act.put, List.setIfInBounds_toArray, List.set_cons_zero, List.set_cons_succ, Nat.reduceAdd, q16]; clear q16
            go_wp2_with fail
            go_meet
            case rel => exact ⟨rfl, hS⟩
         ·have e1 : ((pinc : Int) != (si : Int)) = true := by simp; omega
          have H1 := Lib.hid h1; clear h1
          go_wp2_with fail
          refine wRG (fun dn xv W => Sep w0 W (TKqF w now g q1 q0 X Qs kk ffr fto finc fconn pinc pconn ack seq A body.length c (Rw 51 10 vF 0 []) (Bods []) (Rw 49 4 vE mE yE) (Bods LBE) (#[vF, vE]) (#[.int .u64 (base : Int), .slice BA box.length bc, .int .u64 (got : Int), .int .i64 sn, .int .u64 (si : Int), .int .i64 peer, .int .u64 (conn : Int), .int .u64 (inc : Int), .int .u64 (known : Int), .bool up, .int .u64 (now : Int), .int .u64 (sent : Int)]) (BoxT (.slice BA box.length bc) box))) (fun _ _ => True) [xP_ (w.heap.size + 1 + 1) 5, xV_ (.int .u64 (pinc : Int)), xP_ g 0, xP_ g 0, xP_ g 3, xP_ g 4, xV_ (.int .u64 (si : Int)), xV_ (.bool true), xV_ (.bool true), xV_ undef, xV_ undef, xV_ undef, xV_ undef, xV_ undef, xV_ undef, xV_ undef, xV_ (.bool true)] (fun xv => by simpa using HS10.out.drew) ?_ ?_
          ·refine Ep 1 5 (w.heap.size + 1 + 1) 0 ?_
           refine Eek 2 105 0 (fun _ _ _ e => cA (i := 11) e rfl 5 rfl) ?_
           refine Epk 3 3 w.heap.size 0 (fun _ _ _ e => cA (i := 6) e rfl 0 rfl) ?_
           refine Ee 4 107 2 ?_
           refine Ee 5 108 3 ?_
           refine Ee 6 109 4 ?_
           refine Eek 7 110 5 (fun _ _ _ e => cA (i := 7) e rfl 4 rfl) ?_
           refine Eee 8 106 1 111 6 ?_
           refine Ee 9 112 7 ?_
           refine Eo 10 113 8 ?_
           refine EC 11 rfl (fun g h W F a b c d e H K f => ?_) ?_
           ·have f113 := gE (a 113) (by kernel_rfl) (H 8) (by kernel_rfl); have k11_6 := cA (i := 11) e rfl 6 rfl; clear H c b d a; refine off_guard rfl (by kernel_rfl) f113 (by decide) ?_; exact f.out _ _ rfl trivial e
           refine EC 12 rfl (fun g h W F a b c d e H K f => ?_) ?_
           ·have f113 := gE (a 113) (by kernel_rfl) (H 8) (by kernel_rfl); have k6_0 := cA (i := 6) e rfl 0 rfl; clear H c b d a; refine off_guard rfl (by kernel_rfl) f113 (by decide) ?_; exact f.out _ _ rfl trivial e
           refine Eo 13 113 8 ?_
           refine Eo 14 113 8 ?_
           refine EC 15 rfl (fun g h W F a b c d e H K f => ?_) ?_
           ·have f113 := gE (a 113) (by kernel_rfl) (H 8) (by kernel_rfl); have k7_6 := cA (i := 7) e rfl 6 rfl; clear H c b d a; refine off_guard rfl (by kernel_rfl) f113 (by decide) ?_; exact f.out _ _ rfl trivial e
           refine Eo 16 113 8 ?_
           refine Eee 17 113 8 120 15 ?_
           exact EN
          ·intro dn xv W hI H; have q16 : xv 16 = .bool true := (H 16 (of_decide_eq_true (by kernel_rfl))).2; have hS : Sep w0 W (TKqF w now g q1 q0 X Qs kk ffr fto finc fconn pinc pconn ack seq A body.length c (Rw 51 10 vF 0 []) (Bods []) (Rw 49 4 vE mE yE) (Bods LBE) (#[vF, vE]) (#[.int .u64 (base : Int), .slice BA box.length bc, .int .u64 (got : Int), .int .i64 sn, .int .u64 (si : Int), .int .i64 peer, .int .u64 (conn : Int), .int .u64 (inc : Int), .int .u64 (known : Int), .bool up, .int .u64 (now : Int), .int .u64 (sent : Int)]) (BoxT (.slice BA box.length bc) box)) := hI; clear H hI; simp only [putAll, Act.put, List.setIfInBounds_toArray, List.set_cons_zero, List.set_cons_succ, Nat.reduceAdd, q16]; clear q16
           go_wp2_with fail
           go_meet
           case rel => exact ⟨rfl, hS⟩
       case rest =>
          obtain ⟨rfl, hS⟩ := hcut; clear HS9 HS10; have HHE := Lib.hid (fun (W : World) hh => hello_any W g base (.slice BA box.length bc) got sn si peer conn inc known up now sent hh); obtain ⟨hx, HXS⟩ : ∃ l, Hid ((heCells got sn si peer conn inc known).toList = l) := ⟨_, Lib.hid rfl⟩; have HX1 : Hid (∀ u ∈ hx, u.oneCell' = true) := Lib.hid (by
           rw [← HXS.out]; intro u hu; simp only [heCells, List.mem_cons, List.not_mem_nil, or_false] at hu
           rcases hu with rfl | rfl | rfl | rfl | rfl | rfl | rfl | rfl | rfl | rfl <;> rfl)
          obtain ⟨n, xs, Hnx⟩ : ∃ (n : Nat) (l : List Value), Hid (0 = n ∧ [] = l) := ⟨_, _, Lib.hid ⟨rfl, rfl⟩⟩; have hnb : n ≤ 1000000 := by have := Hnx.out.1; omega
          have HS11 : Hid (Sep w0 wc (TKqF w now g q1 q0 X Qs kk ffr fto finc fconn pinc pconn ack seq A body.length c (Rw 51 10 vF n xs) (Bods []) (Rw 49 4 vE mE yE) (Bods LBE) (#[vF, vE]) (#[.int .u64 (base : Int), .slice BA box.length bc, .int .u64 (got : Int), .int .i64 sn, .int .u64 (si : Int), .int .i64 peer, .int .u64 (conn : Int), .int .u64 (inc : Int), .int .u64 (known : Int), .bool up, .int .u64 (now : Int), .int .u64 (sent : Int)]) (BoxT (.slice BA box.length bc) box))) := Lib.hid (by rw [← Hnx.out.1, ← Hnx.out.2]; exact hS); clear hS; have HKO : ∀ (dn : Nat → Bool) (xv : Nat → Value) (W : World), (if dn 7 = true then ∃ vF, Sep w0 W (TKqF w now g q1 q0 X Qs kk ffr fto finc fconn pinc pconn ack seq A body.length c (Rw 51 10 vF (n + 1) (xs ++ hx)) (Bods []) (Rw 49 4 vE mE yE) (Bods LBE) (#[vF, vE]) (#[.int .u64 (base : Int), .slice BA box.length bc, .int .u64 (got : Int), .int .i64 sn, .int .u64 (si : Int), .int .i64 peer, .int .u64 (conn : Int), .int .u64 (inc : Int), .int .u64 (known : Int), .bool up, .int .u64 (now : Int), .int .u64 (sent : Int)]) (BoxT (.slice BA box.length bc) box)) else if dn 5 = true then Sep w0 W (TKqF w now g q1 q0 X Qs kk ffr fto finc fconn pinc pconn ack seq A body.length c (Rw 51 10 (xv 5) (n + 1) (xs ++ hx)) (Bods []) (Rw 49 4 vE mE yE) (Bods LBE) (#[vF, vE]) (#[.int .u64 (base : Int), .slice BA box.length bc, .int .u64 (got : Int), .int .i64 sn, .int .u64 (si : Int), .int .i64 peer, .int .u64 (conn : Int), .int .u64 (inc : Int), .int .u64 (known : Int), .bool up, .int .u64 (now : Int), .int .u64 (sent : Int)]) (BoxT (.slice BA box.length bc) box)) else if dn 4 = true then Sep w0 W (TKqF w now g q1 q0 X Qs kk ffr fto finc fconn pinc pconn ack seq A body.length c (Rw 51 10 vF n xs) (Bods []) (Rw 49 4 vE mE yE) (Bods LBE) (#[vF, vE]) (#[.int .u64 (base : Int), .slice BA box.length bc, .int .u64 (got : Int), .int .i64 sn, .int .u64 (si : Int), .int .i64 peer, .int .u64 (conn : Int), .int .u64 (inc : Int), .int .u64 (known : Int), .bool up, .int .u64 (now : Int), .int .u64 (sent : Int)]) (BoxT (.slice BA box.length bc) box)) ∧ OneF hx (xv 4) W else if dn 3 = true then Sep w0 W (TKqF w now g q1 q0 X Qs kk ffr fto finc fconn pinc pconn ack seq A body.length c (Rw 51 10 vF n xs) (Bods []) (Rw 49 4 vE mE yE) (Bods LBE) (#[vF, vE]) (#[.int .u64 (base : Int), .slice BA box.length bc, .int .u64 (got : Int), .int .i64 sn, .int .u64 (si : Int), .int .i64 peer, .int .u64 (conn : Int), .int .u64 (inc : Int), .int .u64 (known : Int), .bool up, .int .u64 (now : Int), .int .u64 (sent : Int)]) (BoxT (.slice BA box.length bc) box)) else Sep w0 W (TKqF w now g q1 q0 X Qs kk ffr fto finc fconn pinc pconn ack seq A body.length c (Rw 51 10 vF n xs) (Bods []) (Rw 49 4 vE mE yE) (Bods LBE) (#[vF, vE]) (#[.int .u64 (base : Int), .slice BA box.length bc, .int .u64 (got : Int), .int .i64 sn, .int .u64 (si : Int), .int .i64 peer, .int .u64 (conn : Int), .int .u64 (inc : Int), .int .u64 (known : Int), .bool up, .int .u64 (now : Int), .int .u64 (sent : Int)]) (BoxT (.slice BA box.length bc) box))) → dn 7 = false → W.cell? ⟨w.heap.size + 1 + 1 + 1 + 1, 0, none⟩ = some vF := fun dn xv W h h0 => by
           rw [if_neg (by simp [h0])] at h; split at h
           ·exact cA (i := 4) h rfl 0 rfl
           split at h
           ·have h := h.1; exact cA (i := 4) h rfl 0 rfl
           split at h
           ·exact cA (i := 4) h rfl 0 rfl
           exact cA (i := 4) h rfl 0 rfl
          have HKL : ∀ (dn : Nat → Bool) (xv : Nat → Value) (W : World), (if dn 7 = true then ∃ vF, Sep w0 W (TKqF w now g q1 q0 X Qs kk ffr fto finc fconn pinc pconn ack seq A body.length c (Rw 51 10 vF (n + 1) (xs ++ hx)) (Bods []) (Rw 49 4 vE mE yE) (Bods LBE) (#[vF, vE]) (#[.int .u64 (base : Int), .slice BA box.length bc, .int .u64 (got : Int), .int .i64 sn, .int .u64 (si : Int), .int .i64 peer, .int .u64 (conn : Int), .int .u64 (inc : Int), .int .u64 (known : Int), .bool up, .int .u64 (now : Int), .int .u64 (sent : Int)]) (BoxT (.slice BA box.length bc) box)) else if dn 5 = true then Sep w0 W (TKqF w now g q1 q0 X Qs kk ffr fto finc fconn pinc pconn ack seq A body.length c (Rw 51 10 (xv 5) (n + 1) (xs ++ hx)) (Bods []) (Rw 49 4 vE mE yE) (Bods LBE) (#[vF, vE]) (#[.int .u64 (base : Int), .slice BA box.length bc, .int .u64 (got : Int), .int .i64 sn, .int .u64 (si : Int), .int .i64 peer, .int .u64 (conn : Int), .int .u64 (inc : Int), .int .u64 (known : Int), .bool up, .int .u64 (now : Int), .int .u64 (sent : Int)]) (BoxT (.slice BA box.length bc) box)) else if dn 4 = true then Sep w0 W (TKqF w now g q1 q0 X Qs kk ffr fto finc fconn pinc pconn ack seq A body.length c (Rw 51 10 vF n xs) (Bods []) (Rw 49 4 vE mE yE) (Bods LBE) (#[vF, vE]) (#[.int .u64 (base : Int), .slice BA box.length bc, .int .u64 (got : Int), .int .i64 sn, .int .u64 (si : Int), .int .i64 peer, .int .u64 (conn : Int), .int .u64 (inc : Int), .int .u64 (known : Int), .bool up, .int .u64 (now : Int), .int .u64 (sent : Int)]) (BoxT (.slice BA box.length bc) box)) ∧ OneF hx (xv 4) W else if dn 3 = true then Sep w0 W (TKqF w now g q1 q0 X Qs kk ffr fto finc fconn pinc pconn ack seq A body.length c (Rw 51 10 vF n xs) (Bods []) (Rw 49 4 vE mE yE) (Bods LBE) (#[vF, vE]) (#[.int .u64 (base : Int), .slice BA box.length bc, .int .u64 (got : Int), .int .i64 sn, .int .u64 (si : Int), .int .i64 peer, .int .u64 (conn : Int), .int .u64 (inc : Int), .int .u64 (known : Int), .bool up, .int .u64 (now : Int), .int .u64 (sent : Int)]) (BoxT (.slice BA box.length bc) box)) else Sep w0 W (TKqF w now g q1 q0 X Qs kk ffr fto finc fconn pinc pconn ack seq A body.length c (Rw 51 10 vF n xs) (Bods []) (Rw 49 4 vE mE yE) (Bods LBE) (#[vF, vE]) (#[.int .u64 (base : Int), .slice BA box.length bc, .int .u64 (got : Int), .int .i64 sn, .int .u64 (si : Int), .int .i64 peer, .int .u64 (conn : Int), .int .u64 (inc : Int), .int .u64 (known : Int), .bool up, .int .u64 (now : Int), .int .u64 (sent : Int)]) (BoxT (.slice BA box.length bc) box))) → W.cell? ⟨w.heap.size, 0, none⟩ = some (.pointer (some ⟨g, 0, none⟩)) := fun dn xv W h => by
           split at h
           ·obtain ⟨_, h⟩ := h; exact cA (i := 6) h rfl 0 rfl
           split at h
           ·exact cA (i := 6) h rfl 0 rfl
           split at h
           ·have h := h.1; exact cA (i := 6) h rfl 0 rfl
           split at h
           ·exact cA (i := 6) h rfl 0 rfl
           exact cA (i := 6) h rfl 0 rfl
          go_wp2_with fail
          refine wRG (fun dn xv W => if dn 7 = true then ∃ vF, Sep w0 W (TKqF w now g q1 q0 X Qs kk ffr fto finc fconn pinc pconn ack seq A body.length c (Rw 51 10 vF (n + 1) (xs ++ hx)) (Bods []) (Rw 49 4 vE mE yE) (Bods LBE) (#[vF, vE]) (#[.int .u64 (base : Int), .slice BA box.length bc, .int .u64 (got : Int), .int .i64 sn, .int .u64 (si : Int), .int .i64 peer, .int .u64 (conn : Int), .int .u64 (inc : Int), .int .u64 (known : Int), .bool up, .int .u64 (now : Int), .int .u64 (sent : Int)]) (BoxT (.slice BA box.length bc) box)) else if dn 5 = true then Sep w0 W (TKqF w now g q1 q0 X Qs kk ffr fto finc fconn pinc pconn ack seq A body.length c (Rw 51 10 (xv 5) (n + 1) (xs ++ hx)) (Bods []) (Rw 49 4 vE mE yE) (Bods LBE) (#[vF, vE]) (#[.int .u64 (base : Int), .slice BA box.length bc, .int .u64 (got : Int), .int .i64 sn, .int .u64 (si : Int), .int .i64 peer, .int .u64 (conn : Int), .int .u64 (inc : Int), .int .u64 (known : Int), .bool up, .int .u64 (now : Int), .int .u64 (sent : Int)]) (BoxT (.slice BA box.length bc) box)) else if dn 4 = true then Sep w0 W (TKqF w now g q1 q0 X Qs kk ffr fto finc fconn pinc pconn ack seq A body.length c (Rw 51 10 vF n xs) (Bods []) (Rw 49 4 vE mE yE) (Bods LBE) (#[vF, vE]) (#[.int .u64 (base : Int), .slice BA box.length bc, .int .u64 (got : Int), .int .i64 sn, .int .u64 (si : Int), .int .i64 peer, .int .u64 (conn : Int), .int .u64 (inc : Int), .int .u64 (known : Int), .bool up, .int .u64 (now : Int), .int .u64 (sent : Int)]) (BoxT (.slice BA box.length bc) box)) ∧ OneF hx (xv 4) W else if dn 3 = true then Sep w0 W (TKqF w now g q1 q0 X Qs kk ffr fto finc fconn pinc pconn ack seq A body.length c (Rw 51 10 vF n xs) (Bods []) (Rw 49 4 vE mE yE) (Bods LBE) (#[vF, vE]) (#[.int .u64 (base : Int), .slice BA box.length bc, .int .u64 (got : Int), .int .i64 sn, .int .u64 (si : Int), .int .i64 peer, .int .u64 (conn : Int), .int .u64 (inc : Int), .int .u64 (known : Int), .bool up, .int .u64 (now : Int), .int .u64 (sent : Int)]) (BoxT (.slice BA box.length bc) box)) else Sep w0 W (TKqF w now g q1 q0 X Qs kk ffr fto finc fconn pinc pconn ack seq A body.length c (Rw 51 10 vF n xs) (Bods []) (Rw 49 4 vE mE yE) (Bods LBE) (#[vF, vE]) (#[.int .u64 (base : Int), .slice BA box.length bc, .int .u64 (got : Int), .int .i64 sn, .int .u64 (si : Int), .int .i64 peer, .int .u64 (conn : Int), .int .u64 (inc : Int), .int .u64 (known : Int), .bool up, .int .u64 (now : Int), .int .u64 (sent : Int)]) (BoxT (.slice BA box.length bc) box))) (fun _ _ => True) [xP_ (w.heap.size + 1 + 1 + 1 + 1) 0, xV_ vF, xP_ g 0, xV_ (.agg #[.int .i64 1, .int .i64 sn, .int .i64 peer, .int .u64 (si : Int), .int .u64 (conn : Int), .int .u64 (inc : Int), .int .u64 (known : Int), .int .u64 (got : Int), .int .u64 0, .slice none 0 0]), fun v _ => True, fun v _ => True, xP_ (w.heap.size + 1 + 1 + 1 + 1) 0, fun v _ => True] (fun xv => by simpa using HS11.out.drew) ?_ ?_
          ·refine Ep 1 7 (w.heap.size + 1 + 1 + 1 + 1) 0 ?_
           refine EC 2 rfl (fun g h W F a b c d e H K f => ?_) ?_
           ·have f122 := gE (a 122) (by kernel_rfl) (H 0) (by kernel_rfl); have kk := HKO g h W e (c 7 (uM 5 uE)); clear H c b d a; refine oP rfl ?_; go_simp; exact f.out _ _ rfl trivial e
           refine Epk 3 3 w.heap.size 0 (fun g h W e => HKL g h W e) ?_
           refine EC 4 rfl (fun l m W F a b d f h H K k => ?_) ?_
           ·have f124 := gE (a 124) (by kernel_rfl) (H 2) (by kernel_rfl); have q4 := d 4 uE; have q5 := d 5 (uM 4 uE); have q7 := d 7 (uM 5 (uM 4 uE)); rw [if_neg (by simp [q7]), if_neg (by simp [q5]), if_neg (by simp [q4]), if_neg (by simp [b])] at h; have hS := h; clear h d b f a H; refine oP rfl ?_; go_simp; refine (HHE.out W (cH (i := 7) hS rfl)).mono ?_; rintro e W' ⟨rfl, hb⟩; have hs : Sep w0 W' (TKqF w now g q1 q0 X Qs kk ffr fto finc fconn pinc pconn ack seq A body.length c (Rw 51 10 vF n xs) (Bods []) (Rw 49 4 vE mE yE) (Bods LBE) (#[vF, vE]) (#[.int .u64 (base : Int), .slice BA box.length bc, .int .u64 (got : Int), .int .i64 sn, .int .u64 (si : Int), .int .i64 peer, .int .u64 (conn : Int), .int .u64 (inc : Int), .int .u64 (known : Int), .bool up, .int .u64 (now : Int), .int .u64 (sent : Int)]) (BoxT (.slice BA box.length bc) box)) := hS.grow hb; exact k.out _ W' rfl trivial (by simpa [upB, upd, q4, q5, q7] using hs)
           refine EC 5 rfl (fun i k W F a b d e f H K h => ?_) ?_
           ·have f125 := gE (a 125) (by kernel_rfl) (H 3) (by kernel_rfl); have q3 := (H 3 uE).1; have q5 := d 5 uE; have q7 := d 7 (uM 5 uE); rw [if_neg (by simp [q7]), if_neg (by simp [q5]), if_neg (by simp [b]), if_pos q3] at f; have hS := f; clear f d b e a H; refine oP rfl ?_; have g125 := f125; rw [Array.getD_eq_getD_getElem?] at g125; go_simp; have hb : Below W.heap.size W (W.alloc (.cells #[.int .i64 1, .int .i64 sn, .int .i64 peer, .int .u64 (si : Int), .int .u64 (conn : Int), .int .u64 (inc : Int), .int .u64 (known : Int), .int .u64 (got : Int), .int .u64 0, .slice none 0 0] 51)) := (Below.refl _ _).alloc (Nat.le_refl _) _; have hs : Sep w0 (W.alloc (.cells #[.int .i64 1, .int .i64 sn, .int .i64 peer, .int .u64 (si : Int), .int .u64 (conn : Int), .int .u64 (inc : Int), .int .u64 (known : Int), .int .u64 (got : Int), .int .u64 0, .slice none 0 0] 51)) (TKqF w now g q1 q0 X Qs kk ffr fto finc fconn pinc pconn ack seq A body.length c (Rw 51 10 vF n xs) (Bods []) (Rw 49 4 vE mE yE) (Bods LBE) (#[vF, vE]) (#[.int .u64 (base : Int), .slice BA box.length bc, .int .u64 (got : Int), .int .i64 sn, .int .u64 (si : Int), .int .i64 peer, .int .u64 (conn : Int), .int .u64 (inc : Int), .int .u64 (known : Int), .bool up, .int .u64 (now : Int), .int .u64 (sent : Int)]) (BoxT (.slice BA box.length bc) box)) ∧ OneF hx (.slice (some ⟨W.heap.size, 0, none⟩) 1 1) (W.alloc (.cells #[.int .i64 1, .int .i64 sn, .int .i64 peer, .int .u64 (si : Int), .int .u64 (conn : Int), .int .u64 (inc : Int), .int .u64 (known : Int), .int .u64 (got : Int), .int .u64 0, .slice none 0 0] 51)) := ⟨hS.grow hb, HXS.out ▸ OneF.new W _⟩; exact h.out _ _ trivial trivial (by simpa [upB, upd, q5, q7] using hs)
           refine EC 6 rfl (fun j k W F a b d e f H K h => ?_) ?_
           ·have f123 := gE (a 123) (by kernel_rfl) (H 1) (by kernel_rfl); have f126 : F.tmps.getD 126 undef = k 4 := (a 126).trans (by kernel_rfl); have q4 := (H 4 uE).1; have q7 := d 7 uE; rw [if_neg (by simp [q7]), if_neg (by simp [b]), if_pos q4] at f; have hS := f; clear f d b e a H; refine oP rfl ?_; obtain ⟨s1, A3, c3, e3, hl3, hh3⟩ := hS; have fex := f126.trans e3; refine sep_opAppW rowFrames (i := 0) (s := .tmp 123) (x := .tmp 126) (m := 1) (news := hx) (by rfl) f123 fex s1 rfl (by rw [hl3]) hh3 HX1.out (by unfold maxLen; omega) (by omega) ?_; intro v W' hs0; have hs : Sep w0 W' (TKqF w now g q1 q0 X Qs kk ffr fto finc fconn pinc pconn ack seq A body.length c (Rw 51 10 v (n + 1) (xs ++ hx)) (Bods []) (Rw 49 4 vE mE yE) (Bods LBE) (#[vF, vE]) (#[.int .u64 (base : Int), .slice BA box.length bc, .int .u64 (got : Int), .int .i64 sn, .int .u64 (si : Int), .int .i64 peer, .int .u64 (conn : Int), .int .u64 (inc : Int), .int .u64 (known : Int), .bool up, .int .u64 (now : Int), .int .u64 (sent : Int)]) (BoxT (.slice BA box.length bc) box)) := hs0; exact h.out v W' trivial trivial (by simpa [upB, upd, q7] using hs)
           refine Ep 7 7 (w.heap.size + 1 + 1 + 1 + 1) 0 ?_
           refine EC 8 rfl (fun j k W F a b d e f H K h => ?_) ?_
           ·have f127 : F.tmps.getD 127 undef = k 5 := (a 127).trans (by kernel_rfl); have f128 := gE (a 128) (by kernel_rfl) (H 6) (by kernel_rfl); have q5 := (H 5 uE).1; rw [if_neg (by simp [b]), if_pos q5] at f; have hS := f; clear f d b e a H; refine oP rfl ?_; obtain ⟨A2, c2, e2, _⟩ := sep_rwForm (i := 0) hS rfl; have hc3 := cA (i := 4) hS rfl 0 rfl; have hf3 := cFz (i := 4) hS rfl 0; rw [e2] at hS; have hs0 := cS (i := 4) hS rfl 0 (.slice A2 (n + 1) c2); have hs : ∃ vF, Sep w0 (W.setCell ⟨w.heap.size + 1 + 1 + 1 + 1, 0, none⟩ (.slice A2 (n + 1) c2)) (TKqF w now g q1 q0 X Qs kk ffr fto finc fconn pinc pconn ack seq A body.length c (Rw 51 10 vF (n + 1) (xs ++ hx)) (Bods []) (Rw 49 4 vE mE yE) (Bods LBE) (#[vF, vE]) (#[.int .u64 (base : Int), .slice BA box.length bc, .int .u64 (got : Int), .int .i64 sn, .int .u64 (si : Int), .int .i64 peer, .int .u64 (conn : Int), .int .u64 (inc : Int), .int .u64 (known : Int), .bool up, .int .u64 (now : Int), .int .u64 (sent : Int)]) (BoxT (.slice BA box.length bc) box)) := ⟨_, hs0⟩; clear hs0; go_simp; exact h.out undef _ trivial trivial (by simpa [upB, upd] using hs)
           exact EN
          ·intro dn xv W hI H; have qe : dn 7 = true := (H 7 (of_decide_eq_true (by kernel_rfl))).1; rw [if_pos qe] at hI; have hS := hI; clear H hI qe; simp only [putAll, Act.put, List.setIfInBounds_toArray, List.set_cons_zero, List.set_cons_succ, Nat.reduceAdd]; obtain ⟨vF, hS⟩ := hS; obtain ⟨A2, c2, rfl, _⟩ := sep_rwForm (i := 0) hS rfl; obtain ⟨AE, cE, rfl, _⟩ := sep_rwForm (i := 2) hS rfl; have HS12 := Lib.hid hS; clear hS; have k0 := cA (i := 4) HS12.out rfl 0 rfl; have k1 := cA (i := 4) HS12.out rfl 1 rfl; have y0 := cFz (i := 5) HS12.out rfl 0; have y1 := cFz (i := 5) HS12.out rfl 1; have z0 := cA (i := 5) HS12.out rfl 0 rfl; have z1 := cA (i := 5) HS12.out rfl 1 rfl; have HSZ := Lib.hid (cS (i := 5) (cS (i := 5) HS12.out rfl 0 (.slice A2 (n + 1) c2)) rfl 1 (.slice AE mE cE))
           go_wp2_with fail
           have k0 := cA (i := 5) HSZ.out rfl 0 rfl; have k1 := cA (i := 5) HSZ.out rfl 1 rfl; refine ⟨.agg #[.slice A2 (n + 1) c2, .slice AE mE cE], by simp [results, Try.results15, go_sem, k0, k1], ?_⟩; refine ⟨_, _, .slice BA box.length bc, [((sS.take1 now fF).hello, .slice none 0 0)], LE, rfl, ?_, ?_, ?_⟩
           ·rw [LS.takeF, if_pos HLK.out]; simp only; rw [if_neg (by rw [HKN.out]; simp)]; rfl
           ·rw [LS.takeE, if_pos HLK.out]; simp only; rw [if_neg (by rw [HKN.out]; simp), HLE.out, List.append_nil]
           ·rw [LS.take, if_pos HLK.out]; simp only; rw [if_neg (by rw [HKN.out]; simp), LS.take1, Ht.out, ← HTT.out, HmE.out, HyE.out, HLB.out]; have hx := sep_bodsNone (i := 1) (((((((HSZ.out.drop 4).drop 4).drop 4).drop 6).drop 6).drop 6).drop 6) rfl; rw [← HXS.out] at hx; obtain ⟨e1, e2⟩ := Hnx.out; subst e1 e2; exact hx
end Go.Proofs.Ytngegjboenfmeaa
