/- The walk of the laws' own helper 'awake' of layer 12. -/
import Derived.Test.YtngegjboenfmeaaLnk8
namespace Go.Proofs.Ytngegjboenfmeaa
open Go Go.RowKit
set_option linter.unusedVariables false
set_option maxRecDepth 100000
set_option linter.unusedSimpArgs false

theorem has_cellK {w : World} {B b o j : Nat} {xs : List Value} {u : Value} (h : Has w B (some ⟨b, o, none⟩) xs) (hj : xs[j]? = some u) : w.cell? ⟨b, o + j, none⟩ = some u := by
  obtain ⟨b', o', e, _, hc⟩ := h j u hj
  injection e with e
  injection e with e1 e2
  rw [e1, e2]
  exact hc
theorem sep_rwNew {w0 w w' : World} {Ps : List SP} {e : TypeId} {size n : Nat} {v : Value} {xs : List Value} (h : Sep w0 w Ps) (ho : w'.ownsRow w.heap.size e size v n xs) (hb : Below w.heap.size w w') : Sep w0 w' (Ps ++ [Rw e size v n xs]) :=
  h.add (F := fun k => v.ownBlock = some k) hb ⟨⟨ho.1, by
    rcases ho.2 with q | ⟨k, cap, cur, rfl, f1, f2⟩
    · exact .inl q
    · exact .inr ⟨k, cap, cur, rfl, Nat.zero_le _, f2⟩⟩, fun k => Iff.rfl⟩ (Rw.loc _ _ _ _ _) fun k hk => (ho.lt k hk).1
theorem up_any (w : World) (g : Nat) (sn : Int) (up : Bool) (hsn : sn ≠ 0) (k3 : w.cell? ⟨g, 3, none⟩ = some (.int .i64 sn)) (k9 : w.cell? ⟨g, 9, none⟩ = some (.bool up)) : Calls Try.prog 12 #[.pointer (some ⟨g, 0, none⟩)] w fun e w' => e = .returned (.bool up) ∧ Below w.heap.size w w' := by
  have hg := World.block_lt_of_cell? w _ k9
  have K9 := Lib.hid k9
  clear k9
  go_enter Try.func12, Try.ntmps12
  go_wp2_with fail
  refine (made_yes w g sn hsn k3).mono ?_
  rintro e w1 ⟨rfl, hb1⟩
  have k9 := (hb1.cell (p := ⟨g, 9, none⟩) hg).trans K9.out
  clear k3
  go_wp2_with fail
  go_ret
  exact ⟨rfl, hb1⟩
set_option maxHeartbeats 6400000 in
theorem awake12 (w : World) : Calls Try.prog 8 #[] w fun e w' => e = .returned (.bool true) ∧ Below w.heap.size w w' := by
  go_enter Try.func8, Try.ntmps8
  go_wp2_with fail
  refine (newLink_any w 1 1 2 (by omega) (by omega) (by omega) (by omega) (by omega) (by omega) (by omega)).mono ?_
  rintro e w1 ⟨g1, rfl, hg1, hh1, hb1⟩
  have HS1 := Lib.hid (show Sep w w1 [Ce g1 72 (lkCells 0 (.slice none 0 0) 0 1 1 2 1 0 0 false 0 0)] from (Sep.nil w).add (F := fun k => k = g1) hb1 ⟨hh1, fun k => Iff.rfl⟩ (Ce.loc _ _ _) (fun k hk => by omega))
  clear hg1 hh1 hb1
  go_wp2_with fail
  refine (newLink_any w1 2 1 1 (by omega) (by omega) (by omega) (by omega) (by omega) (by omega) (by omega)).mono ?_
  rintro e w2 ⟨g2, rfl, hg2, hh2, hb2⟩
  have HS2 := Lib.hid (show Sep w w2 [Ce g1 72 (lkCells 0 (.slice none 0 0) 0 1 1 2 1 0 0 false 0 0), Ce g2 72 (lkCells 0 (.slice none 0 0) 0 2 1 1 1 0 0 false 0 0)] from HS1.out.add (F := fun k => k = g2) hb2 ⟨hh2, fun k => Iff.rfl⟩ (Ce.loc _ _ _) (fun k hk => by omega))
  clear HS1 hg2 hh2 hb2
  go_wp2_with fail
  refine (tickDown_any w2 1 g1 0 (.slice none 0 0) 0 1 1 2 1 0 0 0 0 (by omega) (sep_ceHeap (i := 0) HS2.out rfl)).mono ?_
  rintro e w3 ⟨vF, rfl, ho3, hb3⟩
  have HS3 := Lib.hid (show Sep w w3 [Ce g1 72 (lkCells 0 (.slice none 0 0) 0 1 1 2 1 0 0 false 0 0), Ce g2 72 (lkCells 0 (.slice none 0 0) 0 2 1 1 1 0 0 false 0 0), Rw 51 10 vF 1 (heCells 0 1 1 2 1 0 0).toList] from sep_rwNew HS2.out ho3 hb3)
  clear HS2 ho3 hb3
  obtain ⟨A1, c1, rfl, _, _, hx1⟩ := sep_rwForm (i := 2) HS3.out rfl
  obtain ⟨b1, o1, rfl, _, _⟩ := hx1.at_ (k := 0) (by simp [heCells])
  have HS4 := Lib.hid (show Sep w (w3.alloc (.cells #[.slice (some ⟨b1, o1, none⟩) 1 c1, .slice none 0 0] 43)) [Ce g1 72 (lkCells 0 (.slice none 0 0) 0 1 1 2 1 0 0 false 0 0), Ce g2 72 (lkCells 0 (.slice none 0 0) 0 2 1 1 1 0 0 false 0 0), Rw 51 10 (.slice (some ⟨b1, o1, none⟩) 1 c1) 1 (heCells 0 1 1 2 1 0 0).toList, Ce w3.heap.size 43 #[.slice (some ⟨b1, o1, none⟩) 1 c1, .slice none 0 0]] from sep_ce HS3.out _ _)
  obtain ⟨Ax, cx, ex, _, _, hx4⟩ := sep_rwForm (i := 2) HS4.out rfl
  injection ex with ex _ ex2
  subst ex ex2
  have H4 := Lib.hid hx4
  clear HS3 hx1 hx4
  have p0 : World.cell? _ ⟨b1, o1, none⟩ = some (.int .i64 1) := has_cellK H4.out (j := 0) rfl
  have p1 : World.cell? _ ⟨b1, o1 + 1, none⟩ = some (.int .i64 1) := has_cellK H4.out (j := 1) rfl
  have p2 : World.cell? _ ⟨b1, o1 + 2, none⟩ = some (.int .i64 2) := has_cellK H4.out (j := 2) rfl
  have p3 : World.cell? _ ⟨b1, o1 + 3, none⟩ = some (.int .u64 1) := has_cellK H4.out (j := 3) rfl
  have p4 : World.cell? _ ⟨b1, o1 + 4, none⟩ = some (.int .u64 1) := has_cellK H4.out (j := 4) rfl
  have p5 : World.cell? _ ⟨b1, o1 + 5, none⟩ = some (.int .u64 0) := has_cellK H4.out (j := 5) rfl
  have p6 : World.cell? _ ⟨b1, o1 + 6, none⟩ = some (.int .u64 0) := has_cellK H4.out (j := 6) rfl
  have p7 : World.cell? _ ⟨b1, o1 + 7, none⟩ = some (.int .u64 0) := has_cellK H4.out (j := 7) rfl
  have p8 : World.cell? _ ⟨b1, o1 + 8, none⟩ = some (.int .u64 0) := has_cellK H4.out (j := 8) rfl
  have p9 : World.cell? _ ⟨b1, o1 + 9, none⟩ = some (.slice none 0 0) := has_cellK H4.out (j := 9) rfl
  have kx := sep_ceAt (i := 3) HS4.out rfl 0 rfl
  go_wp2_with fail
  clear p0 p1 p2 p3 p4 p5 p6 p7 p8 p9 kx
  have h5 := HS4.out.toFront 1 rfl
  refine (takeNew_any (now := 1) (finc := 1) (fconn := 1) (pinc := 0) (pconn := 0) (ack := 0) (seq := 0) (kk := 1) (A := none) (c := 0) (body := []) h5 (by omega) (by decide +kernel) (by simp) (by omega) (by omega)).mono ?_
  rintro e w5 ⟨vF2, rfl, hs5⟩
  have HS5 := Lib.hid (show Sep w w5 [Rw 51 10 vF2 1 (heCells 0 2 1 1 1 1 1).toList, Ce g2 72 (lkCells 0 (.slice none 0 0) 0 2 1 1 1 1 1 false 1 0), Ce g1 72 (lkCells 0 (.slice none 0 0) 0 1 1 2 1 0 0 false 0 0), Rw 51 10 (.slice (some ⟨b1, o1, none⟩) 1 c1) 1 (heCells 0 1 1 2 1 0 0).toList, Ce w3.heap.size 43 #[.slice (some ⟨b1, o1, none⟩) 1 c1, .slice none 0 0]] from hs5)
  clear HS4 h5 hs5 H4
  obtain ⟨A2, c2, rfl, _, _, hx1⟩ := sep_rwForm (i := 0) HS5.out rfl
  obtain ⟨b2, o2, rfl, _, _⟩ := hx1.at_ (k := 0) (by simp [heCells])
  have HS6 := Lib.hid (show Sep w (w5.alloc (.cells #[.slice (some ⟨b2, o2, none⟩) 1 c2, .slice none 0 0] 43)) [Rw 51 10 (.slice (some ⟨b2, o2, none⟩) 1 c2) 1 (heCells 0 2 1 1 1 1 1).toList, Ce g2 72 (lkCells 0 (.slice none 0 0) 0 2 1 1 1 1 1 false 1 0), Ce g1 72 (lkCells 0 (.slice none 0 0) 0 1 1 2 1 0 0 false 0 0), Ce w5.heap.size 43 #[.slice (some ⟨b2, o2, none⟩) 1 c2, .slice none 0 0]] from ((sep_ce HS5.out _ _).drop 3).drop 3)
  obtain ⟨Ax, cx, ex, _, _, hx4⟩ := sep_rwForm (i := 0) HS6.out rfl
  injection ex with ex _ ex2
  subst ex ex2
  have H4 := Lib.hid hx4
  clear HS5 hx1 hx4
  have p0 : World.cell? _ ⟨b2, o2, none⟩ = some (.int .i64 1) := has_cellK H4.out (j := 0) rfl
  have p1 : World.cell? _ ⟨b2, o2 + 1, none⟩ = some (.int .i64 2) := has_cellK H4.out (j := 1) rfl
  have p2 : World.cell? _ ⟨b2, o2 + 2, none⟩ = some (.int .i64 1) := has_cellK H4.out (j := 2) rfl
  have p3 : World.cell? _ ⟨b2, o2 + 3, none⟩ = some (.int .u64 1) := has_cellK H4.out (j := 3) rfl
  have p4 : World.cell? _ ⟨b2, o2 + 4, none⟩ = some (.int .u64 1) := has_cellK H4.out (j := 4) rfl
  have p5 : World.cell? _ ⟨b2, o2 + 5, none⟩ = some (.int .u64 1) := has_cellK H4.out (j := 5) rfl
  have p6 : World.cell? _ ⟨b2, o2 + 6, none⟩ = some (.int .u64 1) := has_cellK H4.out (j := 6) rfl
  have p7 : World.cell? _ ⟨b2, o2 + 7, none⟩ = some (.int .u64 0) := has_cellK H4.out (j := 7) rfl
  have p8 : World.cell? _ ⟨b2, o2 + 8, none⟩ = some (.int .u64 0) := has_cellK H4.out (j := 8) rfl
  have p9 : World.cell? _ ⟨b2, o2 + 9, none⟩ = some (.slice none 0 0) := has_cellK H4.out (j := 9) rfl
  have kx := sep_ceAt (i := 3) HS6.out rfl 0 rfl
  go_wp2_with fail
  clear p0 p1 p2 p3 p4 p5 p6 p7 p8 p9 kx
  have h7 := HS6.out.toFront 2 rfl
  refine (takeUp_any (now := 1) (finc := 1) (fconn := 1) (seq := 0) (A := none) (c := 0) (body := []) h7 (by omega) (by decide +kernel) (by simp) (by omega)).mono ?_
  rintro e w7 ⟨vF3, vE, AB, cB, rfl, hs7⟩
  have HS7 := Lib.hid (show Sep w w7 [Rw 51 10 vF3 1 (heCells 0 1 1 2 1 1 1).toList, Rw 49 4 vE 1 [.int .i64 1, .int .i64 2, .int .u64 ((1 : Nat) : Int), .slice none 0 0], Ce g1 72 (lkCells 0 (.slice AB 0 cB) 0 1 1 2 1 1 1 true 1 0), Rw 51 10 (.slice (some ⟨b2, o2, none⟩) 1 c2) 1 (heCells 0 2 1 1 1 1 1).toList, Ce g2 72 (lkCells 0 (.slice none 0 0) 0 2 1 1 1 1 1 false 1 0), Ce w5.heap.size 43 #[.slice (some ⟨b2, o2, none⟩) 1 c2, .slice none 0 0]] from hs7)
  clear HS6 h7 hs7 H4
  obtain ⟨A3, c3, rfl, _, _, _⟩ := sep_rwForm (i := 0) HS7.out rfl
  obtain ⟨A4, c4, rfl, _, _, hx1⟩ := sep_rwForm (i := 1) HS7.out rfl
  obtain ⟨b4, o4, rfl, _, _⟩ := hx1.at_ (k := 0) (by simp)
  have HS8 := Lib.hid (show Sep w (w7.alloc (.cells #[.slice A3 1 c3, .slice (some ⟨b4, o4, none⟩) 1 c4] 43)) [Rw 49 4 (.slice (some ⟨b4, o4, none⟩) 1 c4) 1 [.int .i64 1, .int .i64 2, .int .u64 ((1 : Nat) : Int), .slice none 0 0], Ce g1 72 (lkCells 0 (.slice AB 0 cB) 0 1 1 2 1 1 1 true 1 0), Ce g2 72 (lkCells 0 (.slice none 0 0) 0 2 1 1 1 1 1 false 1 0), Ce w7.heap.size 43 #[.slice A3 1 c3, .slice (some ⟨b4, o4, none⟩) 1 c4]] from (((sep_ce HS7.out _ _).drop 0).drop 2).drop 3)
  obtain ⟨Ax, cx, ex, _, _, hx4⟩ := sep_rwForm (i := 0) HS8.out rfl
  injection ex with ex _ ex2
  subst ex ex2
  have H4 := Lib.hid hx4
  clear HS7 hx1 hx4
  have p0 : World.cell? _ ⟨b4, o4, none⟩ = some (.int .i64 1) := has_cellK H4.out (j := 0) rfl
  have p1 : World.cell? _ ⟨b4, o4 + 1, none⟩ = some (.int .i64 2) := has_cellK H4.out (j := 1) rfl
  have p2 : World.cell? _ ⟨b4, o4 + 2, none⟩ = some (.int .u64 1) := has_cellK H4.out (j := 2) rfl
  have p3 : World.cell? _ ⟨b4, o4 + 3, none⟩ = some (.slice none 0 0) := has_cellK H4.out (j := 3) rfl
  have kx := sep_ceAt (i := 3) HS8.out rfl 0 rfl
  have ky := sep_ceAt (i := 3) HS8.out rfl 1 rfl
  go_wp2_with fail
  clear p0 p1 p2 p3 kx ky
  refine (up_any _ g1 1 true (by omega) (sep_ceAt (i := 1) HS8.out rfl 3 rfl) (sep_ceAt (i := 1) HS8.out rfl 9 rfl)).mono ?_
  rintro e w9 ⟨rfl, hb9⟩
  have HS9 := Lib.hid (HS8.out.grow hb9)
  clear HS8 hb9 H4
  go_wp2_with fail
  refine (up_any _ g2 2 false (by omega) (sep_ceAt (i := 2) HS9.out rfl 3 rfl) (sep_ceAt (i := 2) HS9.out rfl 9 rfl)).mono ?_
  rintro e w10 ⟨rfl, hb10⟩
  go_wp2_with fail
  go_ret
  exact ⟨rfl, HS9.out.bel.trans (hb10.mono HS9.out.size)⟩
end Go.Proofs.Ytngegjboenfmeaa
