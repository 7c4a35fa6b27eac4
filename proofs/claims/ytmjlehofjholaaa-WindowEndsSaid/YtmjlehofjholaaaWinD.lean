/- The walk of window.Push. -/
import Derived.Test.YtmjlehofjholaaaWinC
import Derived.Test.YtmjlehofjholaaaRgF
namespace Go.Proofs.Ytmjlehofjholaaa
open Go Go.RowKit
set_option linter.unusedVariables false
set_option maxRecDepth 100000

theorem bcell {W w1 : World} (hb : Below W.heap.size W w1) : (∀ b o, b < W.heap.size → w1.cell? ⟨b, o, none⟩ = W.cell? ⟨b, o, none⟩) ∧ (∀ b o, b < W.heap.size → w1.frozen? ⟨b, o, none⟩ = W.frozen? ⟨b, o, none⟩) :=
  ⟨fun b o h => hb.cell (p := ⟨b, o, none⟩) h, fun b o h => hb.frozen (p := ⟨b, o, none⟩) h⟩

/-- two rows that lie apart -/
def ApB (u v : Value) : Prop := ∀ g, u.ownBlock = some g → v.ownBlock ≠ some g
/-- a row of one -/
def OneOf (u v : Value) (w : World) : Prop := ∃ A c, v = .slice A 1 c ∧ Has w w.heap.size A [u]
theorem OneOf.new (w : World) (u : Value) (t : TypeId) : OneOf u (.slice (some ⟨w.heap.size, 0, none⟩) 1 1) (w.alloc (.cells #[u] t)) := ⟨_, 1, rfl, by have := has_new w #[u] t; simpa using this⟩
/-- a block of two cells -/
def IsCell2 (w : World) (b : Nat) (x y : Value) : Prop := w.cell? ⟨b, 0, none⟩ = some x ∧ w.cell? ⟨b, 1, none⟩ = some y

/-- two cells of one's own are written -/
theorem set2 {w w1 W : World} {v : Value} {L : List (List UInt8)} (hB1 : Below w.heap.size w w1) (s1 : Below w1.heap.size w1 W) (g : Nat) (hg : w.heap.size ≤ g) (hg2 : g < w1.heap.size) (ho : OwnB W w1.heap.size v L) {a b : Value} (h0 : W.cell? ⟨g, 0, none⟩ = some a) (h1 : W.cell? ⟨g, 1, none⟩ = some b) (x y : Value) :
    Below w.heap.size w ((W.setCell ⟨g, 0, none⟩ x).setCell ⟨g, 1, none⟩ y) ∧ OwnB ((W.setCell ⟨g, 0, none⟩ x).setCell ⟨g, 1, none⟩ y) w1.heap.size v L ∧ IsCell2 ((W.setCell ⟨g, 0, none⟩ x).setCell ⟨g, 1, none⟩ y) g x y := by
  refine ⟨((hB1.trans (s1.mono hB1.size)).setCell hg _).setCell hg _, ho.keep fun k hk _ => ?_, ?_, ?_⟩
  · rw [Below.heap_setCell _ _ _ k (by simp only; omega), Below.heap_setCell _ _ _ k (by simp only; omega)]
  · rw [World.cell?_setCell_other _ _ _ _ (by simp)]
    exact World.cell?_setCell_same' _ _ _ (by rw [h0]; rfl)
  · exact World.cell?_setCell_same' _ _ _ (by rw [World.cell?_setCell_other _ _ _ _ (by simp), h1]; rfl)
theorem len1 (L : List (List UInt8)) (l : List UInt8) : (L ++ [l]).length = L.length + 1 := by simp

def pushE (base : Nat) (L : List (List UInt8)) (l : List UInt8) : Nat := if mayB base L = false then 1 else if bodyB l = false then 2 else if 48 ≤ L.length ∨ 34359738367 ≤ base + L.length then 4 else 0
/-- what Push answers: a fault and an empty sender, or the sender with one body more, in memory of its own -/
def PushPost (w : World) (base : Nat) (L : List (List UInt8)) (l : List UInt8) (e : Ending) (w' : World) : Prop :=
  Below w.heap.size w w' ∧ ((pushE base L l ≠ 0 ∧ e = .returned (.tuple #[.agg #[.int .u64 0, .slice none 0 0], .int .i64 (pushE base L l : Int)])) ∨
    (pushE base L l = 0 ∧ ∃ v, e = .returned (.tuple #[.agg #[.int .u64 (base : Int), v], .int .i64 0]) ∧ OwnB w' w.heap.size v (L ++ [l])))

set_option maxHeartbeats 1000000 in
theorem push_any (w : World) (base : Nat) (A : Option Addr) (c : Nat) (L : List (List UInt8)) (A1 : Option Addr) (c1 : Nat) (l : List UInt8) (h : Bx w w.heap.size A L) (h1 : Has w w.heap.size A1 (us l)) (hb : base < 18446744073709551616) (hf : Fit L) (hl : l.length ≤ 1000000) :
    Calls Try.prog 13 #[.agg #[.int .u64 (base : Int), .slice A L.length c], .slice A1 l.length c1] w (PushPost w base L l) := by
  have hL := hf.1
  have H := Lib.hid h
  have H1 := Lib.hid h1
  have HF := Lib.hid hf
  clear h h1 hf
  obtain ⟨W0, HW0⟩ : ∃ W0, Hid (W0 = (w.alloc (.cells #[.int .u64 (base : Int), .slice A L.length c] 25)).alloc (.cells #[.int .u64 0, .slice none 0 0] 25)) := ⟨_, Lib.hid rfl⟩
  have hb0 : Below w.heap.size w W0 := by rw [HW0.out]; exact ((Below.refl _ _).alloc (Nat.le_refl _) _).alloc (by simp) _
  have hz0 : W0.heap.size = w.heap.size + 2 := by rw [HW0.out]; simp
  have HZ0 := Lib.hid hz0
  have k0 : W0.cell? ⟨w.heap.size, 0, none⟩ = some (.int .u64 (base : Int)) ∧ W0.cell? ⟨w.heap.size, 1, none⟩ = some (.slice A L.length c) ∧ W0.cell? ⟨w.heap.size + 1, 0, none⟩ = some (.int .u64 0) ∧ W0.cell? ⟨w.heap.size + 1, 1, none⟩ = some (.slice none 0 0) ∧ W0.frozen? ⟨w.heap.size + 1, 0, none⟩ = false ∧ W0.frozen? ⟨w.heap.size + 1, 1, none⟩ = false := by
    rw [HW0.out]; simp [go_sem]
  have HK0 := Lib.hid k0
  clear k0 hz0
  have hmx : L.length ≤ maxLen := by unfold maxLen; omega
  have H0 := Lib.hid (H.out.below hb0)
  go_enter Try.func13, Try.ntmps13
  go_wp2_with fail
  rw [← HW0.out]
  refine (may_any W0 w.heap.size base A c L H0.out hb0.size hb hmx).mono ?_
  rintro e w1 ⟨rfl, hb1⟩
  obtain ⟨hc1, hf1⟩ := bcell hb1
  have hz1 := hb1.size
  rw [HZ0.out] at hz1 hc1 hf1
  have k1 := (hc1 w.heap.size 0 (by omega)).trans HK0.out.1
  have k2 := (hc1 w.heap.size 1 (by omega)).trans HK0.out.2.1
  have k3 := (hc1 (w.heap.size + 1) 0 (by omega)).trans HK0.out.2.2.1
  have k4 := (hc1 (w.heap.size + 1) 1 (by omega)).trans HK0.out.2.2.2.1
  have k5 := (hf1 (w.heap.size + 1) 0 (by omega)).trans HK0.out.2.2.2.2.1
  have k6 := (hf1 (w.heap.size + 1) 1 (by omega)).trans HK0.out.2.2.2.2.2
  clear hc1 hf1
  have hB1 : Below w.heap.size w w1 := hb0.trans (hb1.mono hb0.size)
  by_cases g1 : mayB base L = true
  · by_cases g2 : bodyB l = true
    · have hl1 : 1 ≤ l.length ∧ l.length ≤ 448 := by simpa [bodyB] using g2
      obtain ⟨hl1, hl2⟩ := hl1
      have hm1 : L.length ≤ 48 ∧ base + L.length ≤ 34359738367 := by
        have h := g1
        unfold mayB at h
        simp only [Bool.and_eq_true, decide_eq_true_eq] at h
        exact h.1
      obtain ⟨hm1, hm2⟩ := hm1
      by_cases g3 : 48 ≤ L.length
      · have HE : Hid (pushE base L l = 4) := Lib.hid (by unfold pushE; rw [g1, g2, if_neg (by simp), if_neg (by simp), if_pos (.inl g3)])
        rw [g1]
        clear g1 g2
        go_wp2
        refine bodyPost_ret (v := .tuple #[.agg #[.int .u64 0, .slice none 0 0], .int .i64 4]) (by simp [results, Try.results13, go_sem, k3, k4]) rfl ?_
        exact ⟨by first | exact (hB1.setCell (by simp) _).setCell (by simp) _ | exact hB1.setCell (by simp) _ | exact hB1, .inl ⟨by rw [HE.out]; omega, by rw [HE.out]; rfl⟩⟩
      · by_cases g4 : 34359738367 ≤ base + L.length
        · have HE : Hid (pushE base L l = 4) := Lib.hid (by unfold pushE; rw [g1, g2, if_neg (by simp), if_neg (by simp), if_pos (.inr g4)])
          rw [g1]
          clear g1 g2
          go_wp2
          refine bodyPost_ret (v := .tuple #[.agg #[.int .u64 0, .slice none 0 0], .int .i64 4]) (by simp [results, Try.results13, go_sem, k3, k4]) rfl ?_
          exact ⟨by first | exact (hB1.setCell (by simp) _).setCell (by simp) _ | exact hB1.setCell (by simp) _ | exact hB1, .inl ⟨by rw [HE.out]; omega, by rw [HE.out]; rfl⟩⟩
        · have HE : Hid (pushE base L l = 0) := Lib.hid (by unfold pushE; rw [g1, g2, if_neg (by simp), if_neg (by simp), if_neg (by omega)])
          rw [g1]
          clear g1 g2
          have e48 : decide (48 ≤ L.length) = false := decide_eq_false g3
          go_wp2_with fail
          have HFB := Lib.hid (fun (x : List UInt8) (hx : x ∈ L) => (show x.length ≤ 140737488355328 by have := HF.out.2 x hx; omega))
          have HFL : Hid (∀ x ∈ L ++ [l], x.length ≤ 140737488355328) := Lib.hid (fun x hx => by
            rcases List.mem_append.1 hx with h | h
            · exact HFB.out x h
            · simp at h; subst h; omega)
          -- R7
          have hbel : ∀ (dn : Nat → Bool) (xv : Nat → Value) (W : World), (if dn 10 = true then Below w.heap.size w W ∧ OwnB W w1.heap.size (xv 8) (L ++ [l]) ∧ IsCell2 W (w.heap.size + 1) (.int .u64 (base : Int)) (xv 8) else if dn 9 = true then Below w1.heap.size w1 W ∧ OwnB W w1.heap.size (xv 8) (L ++ [l]) ∧ xv 9 = .agg #[.int .u64 (base : Int), xv 8] else if dn 8 = true then Below w1.heap.size w1 W ∧ OwnB W w1.heap.size (xv 8) (L ++ [l]) else if dn 7 = true then Below w1.heap.size w1 W ∧ OwnB W w1.heap.size (xv 4) L ∧ Own W w1.heap.size (xv 6) l ∧ ApB (xv 6) (xv 4) ∧ OneOf (xv 6) (xv 7) W else if dn 6 = true then Below w1.heap.size w1 W ∧ OwnB W w1.heap.size (xv 4) L ∧ Own W w1.heap.size (xv 6) l ∧ ApB (xv 6) (xv 4) else if dn 4 = true then Below w1.heap.size w1 W ∧ OwnB W w1.heap.size (xv 4) L else Below w1.heap.size w1 W) → dn 10 = false → Below w1.heap.size w1 W := fun dn xv W h h0 => by
            rw [if_neg (by simp [h0])] at h
            split at h
            · exact h.1
            split at h
            · exact h.1
            split at h
            · exact h.1
            split at h
            · exact h.1
            split at h
            · exact h.1
            exact h
          refine wp_region_f (fun dn xv W => if dn 10 = true then Below w.heap.size w W ∧ OwnB W w1.heap.size (xv 8) (L ++ [l]) ∧ IsCell2 W (w.heap.size + 1) (.int .u64 (base : Int)) (xv 8) else if dn 9 = true then Below w1.heap.size w1 W ∧ OwnB W w1.heap.size (xv 8) (L ++ [l]) ∧ xv 9 = .agg #[.int .u64 (base : Int), xv 8] else if dn 8 = true then Below w1.heap.size w1 W ∧ OwnB W w1.heap.size (xv 8) (L ++ [l]) else if dn 7 = true then Below w1.heap.size w1 W ∧ OwnB W w1.heap.size (xv 4) L ∧ Own W w1.heap.size (xv 6) l ∧ ApB (xv 6) (xv 4) ∧ OneOf (xv 6) (xv 7) W else if dn 6 = true then Below w1.heap.size w1 W ∧ OwnB W w1.heap.size (xv 4) L ∧ Own W w1.heap.size (xv 6) l ∧ ApB (xv 6) (xv 4) else if dn 4 = true then Below w1.heap.size w1 W ∧ OwnB W w1.heap.size (xv 4) L else Below w1.heap.size w1 W) (fun _ _ => True) [fun v _ => v = .pointer (some ⟨w.heap.size, 0, none⟩), fun v _ => v = .int .u64 (base : Int), fun v _ => v = .pointer (some ⟨w.heap.size, 1, none⟩), fun v _ => v = .slice A L.length c, fun v _ => ∃ A2 c2, v = .slice A2 L.length c2, fun v _ => v = .slice A1 l.length c1, fun v _ => ∃ A2 c2, v = .slice A2 l.length c2, fun v _ => True, fun v _ => True, fun v _ => True, fun v _ => True, fun v _ => v = .int .i64 0] (by kernel_rfl) (by kernel_rfl) (by kernel_rfl) (by kernel_rfl) (fun xv => by simpa using (Below.refl _ w1).drew)
            (by exact ⟨fun _ _ _ _ h => h, fun _ _ _ _ h => h, fun _ _ _ _ h => h, fun _ _ _ _ h => h, fun _ _ _ _ h => h, fun _ _ _ _ h => h, fun _ _ _ _ h => h, fun _ _ _ _ h => h, fun _ _ _ _ h => h, fun _ _ _ _ h => h, fun _ _ _ _ h => h, fun _ _ _ _ h => h, trivial⟩) ?_ ?_
          · refine EachF.cons 1 rfl (fun dn xv W F hF hd hN hX hI H K hK => ?_) ?_
            · have f2 : F.tmps.getD 2 undef = .pointer (some ⟨w.heap.size, 0, none⟩) := (hF 2).trans (by kernel_rfl)
              clear H hN hd hX hF
              refine on_plain rfl ?_
              go_simp
              exact hK.out _ _ rfl trivial (by simpa [upB, upd] using hI)
            refine EachF.cons 2 rfl (fun dn xv W F hF hd hN hX hI H K hK => ?_) ?_
            · have h0 : xv 0 = .pointer (some ⟨w.heap.size, 0, none⟩) := (H 0 (.edge (by kernel_rfl))).2
              have f37 : F.tmps.getD 37 undef = .pointer (some ⟨w.heap.size, 0, none⟩) := (hF 37).trans (Eq.trans (by kernel_rfl) h0)
              have hb0 := hbel dn xv W hI (hN 10 (.edge (by kernel_rfl)))
              have hc0 := (hb0.cell (p := ⟨w.heap.size, 0, none⟩) (show w.heap.size < w1.heap.size by omega)).trans k1
              clear hb0
              clear H hN hd hX hF
              refine on_plain rfl ?_
              go_simp
              exact hK.out _ _ rfl trivial (by simpa [upB, upd] using hI)
            refine EachF.cons 3 rfl (fun dn xv W F hF hd hN hX hI H K hK => ?_) ?_
            · have f2 : F.tmps.getD 2 undef = .pointer (some ⟨w.heap.size, 0, none⟩) := (hF 2).trans (by kernel_rfl)
              clear H hN hd hX hF
              refine on_plain rfl ?_
              go_simp
              exact hK.out _ _ rfl trivial (by simpa [upB, upd] using hI)
            refine EachF.cons 4 rfl (fun dn xv W F hF hd hN hX hI H K hK => ?_) ?_
            · have h2 : xv 2 = .pointer (some ⟨w.heap.size, 1, none⟩) := (H 2 (.edge (by kernel_rfl))).2
              have f39 : F.tmps.getD 39 undef = .pointer (some ⟨w.heap.size, 1, none⟩) := (hF 39).trans (Eq.trans (by kernel_rfl) h2)
              have hb0 := hbel dn xv W hI (hN 10 (.edge (by kernel_rfl)))
              have hc0 := (hb0.cell (p := ⟨w.heap.size, 1, none⟩) (show w.heap.size < w1.heap.size by omega)).trans k2
              clear hb0
              clear H hN hd hX hF
              refine on_plain rfl ?_
              go_simp
              exact hK.out _ _ rfl trivial (by simpa [upB, upd] using hI)
            refine EachF.cons 5 rfl (fun dn xv W F hF hd hN hX hI H K hK => ?_) ?_
            · have h3 : xv 3 = .slice A L.length c := (H 3 (.edge (by kernel_rfl))).2
              have f40 : F.tmps.getD 40 undef = .slice A L.length c := (hF 40).trans (Eq.trans (by kernel_rfl) h3)
              have q6 : dn 6 = false := hN 6 (.edge (by kernel_rfl))
              have q7 : dn 7 = false := hN 7 (.more (j := 6) (by kernel_rfl) (.edge (by kernel_rfl)))
              have q8 : dn 8 = false := hN 8 (.edge (by kernel_rfl))
              have q9 : dn 9 = false := hN 9 (.more (j := 8) (by kernel_rfl) (.edge (by kernel_rfl)))
              have q10 : dn 10 = false := hN 10 (.more (j := 9) (by kernel_rfl) (.more (j := 8) (by kernel_rfl) (.edge (by kernel_rfl))))
              have hS : Below w1.heap.size w1 W := by simpa [hd, q6, q7, q8, q9, q10] using hI
              clear hI hN hd hX hF H
              refine on_plain rfl ?_
              go_simp
              refine (copied_any W w.heap.size A c L (H.out.below (hB1.trans (hS.mono hB1.size))) (Nat.le_trans hB1.size hS.size) HF.out).mono ?_
              rintro e W' ⟨v, rfl, ho, hb⟩
              have hs : Below w1.heap.size w1 W' ∧ OwnB W' w1.heap.size v L := ⟨hS.trans (hb.mono hS.size), ho.mono hS.size⟩
              obtain ⟨A2, c2, e2, _⟩ := ho.form HFB.out
              exact hK.out v W' ⟨A2, c2, e2⟩ trivial (by simpa [upB, upd, q6, q7, q8, q9, q10] using hs)
            refine EachF.cons 6 rfl (fun dn xv W F hF hd hN hX hI H K hK => ?_) ?_
            · have f1 : F.tmps.getD 1 undef = .slice A1 l.length c1 := (hF 1).trans (by kernel_rfl)
              clear H hN hd hX hF
              refine on_plain rfl ?_
              go_simp
              exact hK.out _ _ rfl trivial (by simpa [upB, upd] using hI)
            refine EachF.cons 7 rfl (fun dn xv W F hF hd hN hX hI H K hK => ?_) ?_
            · have h5 : xv 5 = .slice A1 l.length c1 := (H 5 (.edge (by kernel_rfl))).2
              have f42 : F.tmps.getD 42 undef = .slice A1 l.length c1 := (hF 42).trans (Eq.trans (by kernel_rfl) h5)
              have q4 : dn 4 = true := (H 4 (.edge (by kernel_rfl))).1
              have q7 : dn 7 = false := hN 7 (.edge (by kernel_rfl))
              have q8 : dn 8 = false := hN 8 (.edge (by kernel_rfl))
              have q9 : dn 9 = false := hN 9 (.more (j := 8) (by kernel_rfl) (.edge (by kernel_rfl)))
              have q10 : dn 10 = false := hN 10 (.more (j := 9) (by kernel_rfl) (.more (j := 8) (by kernel_rfl) (.edge (by kernel_rfl))))
              have hS : Below w1.heap.size w1 W ∧ OwnB W w1.heap.size (xv 4) L := by simpa [hd, q7, q8, q9, q10, q4] using hI
              clear hI hN hd hX hF H
              refine on_plain rfl ?_
              go_simp
              refine (clone_any W w.heap.size A1 c1 l (H1.out.below (hB1.trans (hS.1.mono hB1.size))) (Nat.le_trans hB1.size hS.1.size) (by omega)).mono ?_
              rintro e W' ⟨v, rfl, ho, hb⟩
              have hs : Below w1.heap.size w1 W' ∧ OwnB W' w1.heap.size (xv 4) L ∧ Own W' w1.heap.size v l ∧ ApB v (xv 4) := ⟨hS.1.trans (hb.mono hS.1.size), hS.2.below hb, own_mono ho hS.1.size, apart_new hS.2 ho⟩
              obtain ⟨A2, c2, e2, _⟩ := ho.form
              exact hK.out v W' ⟨A2, c2, e2⟩ trivial (by simpa [upB, upd, q7, q8, q9, q10] using hs)
            refine EachF.cons 8 rfl (fun dn xv W F hF hd hN hX hI H K hK => ?_) ?_
            · have h6 := (H 6 (.edge (by kernel_rfl))).2
              simp only [Dl] at h6
              have f43 : F.tmps.getD 43 undef = xv 6 := (hF 43).trans (by kernel_rfl)
              have q6 : dn 6 = true := (H 6 (.edge (by kernel_rfl))).1
              have q8 : dn 8 = false := hN 8 (.edge (by kernel_rfl))
              have q9 : dn 9 = false := hN 9 (.more (j := 8) (by kernel_rfl) (.edge (by kernel_rfl)))
              have q10 : dn 10 = false := hN 10 (.more (j := 9) (by kernel_rfl) (.more (j := 8) (by kernel_rfl) (.edge (by kernel_rfl))))
              have hS : Below w1.heap.size w1 W ∧ OwnB W w1.heap.size (xv 4) L ∧ Own W w1.heap.size (xv 6) l ∧ ApB (xv 6) (xv 4) := by simpa [hd, q8, q9, q10, q6] using hI
              clear hI hN hd hX hF H
              refine on_plain rfl ?_
              obtain ⟨A2, c2, e2⟩ := h6
              have e3 := e2
              rw [e2] at f43
              have g43 := f43
              rw [Array.getD_eq_getD_getElem?] at g43
              go_simp
              rw [← e3]
              have hb : Below W.heap.size W (W.alloc (.cells #[xv 6] 26)) := (Below.refl _ _).alloc (Nat.le_refl _) _
              have hs : Below w1.heap.size w1 (W.alloc (.cells #[xv 6] 26)) ∧ OwnB (W.alloc (.cells #[xv 6] 26)) w1.heap.size (xv 4) L ∧ Own (W.alloc (.cells #[xv 6] 26)) w1.heap.size (xv 6) l ∧ ApB (xv 6) (xv 4) ∧ OneOf (xv 6) (.slice (some ⟨W.heap.size, 0, none⟩) 1 1) (W.alloc (.cells #[xv 6] 26)) := ⟨hS.1.trans (hb.mono hS.1.size), hS.2.1.below hb, own_below hS.2.2.1 hb (Nat.le_refl _), hS.2.2.2, OneOf.new W _ _⟩
              exact hK.out _ _ trivial trivial (by simpa [upB, upd, q8, q9, q10] using hs)
            refine EachF.cons 9 rfl (fun dn xv W F hF hd hN hX hI H K hK => ?_) ?_
            · have h4 := (H 4 (.edge (by kernel_rfl))).2
              simp only [Dl] at h4
              have f41 : F.tmps.getD 41 undef = xv 4 := (hF 41).trans (by kernel_rfl)
              have h7 := (H 7 (.edge (by kernel_rfl))).2
              simp only [Dl] at h7
              have f44 : F.tmps.getD 44 undef = xv 7 := (hF 44).trans (by kernel_rfl)
              have q7 : dn 7 = true := (H 7 (.edge (by kernel_rfl))).1
              have q9 : dn 9 = false := hN 9 (.edge (by kernel_rfl))
              have q10 : dn 10 = false := hN 10 (.more (j := 9) (by kernel_rfl) (.edge (by kernel_rfl)))
              have hS : Below w1.heap.size w1 W ∧ OwnB W w1.heap.size (xv 4) L ∧ Own W w1.heap.size (xv 6) l ∧ ApB (xv 6) (xv 4) ∧ OneOf (xv 6) (xv 7) W := by simpa [hd, q9, q10, q7] using hI
              clear hI hN hd hX hF H
              refine on_plain rfl ?_
              obtain ⟨s1, s2, s3, s4, A3, c3, e3, hh3⟩ := hS
              have f44x := f44.trans e3
              refine op_appB (base := w1.heap.size) (l := l) (u := xv 6) (s := .tmp 41) (x := .tmp 44) (by rfl) f41 f44x s2 s3 s4 hh3 (by omega) s1.size ?_
              intro v W' ho hb
              have hs : Below w1.heap.size w1 W' ∧ OwnB W' w1.heap.size v (L ++ [l]) := ⟨s1.trans hb, ho⟩
              exact hK.out v _ trivial trivial (by simpa [upB, upd, q9, q10] using hs)
            refine EachF.cons 10 rfl (fun dn xv W F hF hd hN hX hI H K hK => ?_) ?_
            · have h1 : xv 1 = .int .u64 (base : Int) := (H 1 (.edge (by kernel_rfl))).2
              have f38 : F.tmps.getD 38 undef = .int .u64 (base : Int) := (hF 38).trans (Eq.trans (by kernel_rfl) h1)
              have h8 := (H 8 (.edge (by kernel_rfl))).2
              simp only [Dl] at h8
              have f45 : F.tmps.getD 45 undef = xv 8 := (hF 45).trans (by kernel_rfl)
              have q8 : dn 8 = true := (H 8 (.edge (by kernel_rfl))).1
              have q10 : dn 10 = false := hN 10 (.edge (by kernel_rfl))
              have hS : Below w1.heap.size w1 W ∧ OwnB W w1.heap.size (xv 8) (L ++ [l]) := by simpa [hd, q10, q8] using hI
              clear hI hN hd hX hF H
              refine on_plain rfl ?_
              obtain ⟨A2, c2, e2, _⟩ := hS.2.form HFL.out
              rw [len1] at e2
              have e3 := e2
              have f45x := f45.trans e2
              have g45 := f45x
              have g38 := f38
              rw [Array.getD_eq_getD_getElem?] at g45 g38
              go_simp
              rw [← e3]
              have hs : Below w1.heap.size w1 W ∧ OwnB W w1.heap.size (xv 8) (L ++ [l]) ∧ Value.agg #[.int .u64 (base : Int), xv 8] = .agg #[.int .u64 (base : Int), xv 8] := ⟨hS.1, hS.2, rfl⟩
              exact hK.out _ _ trivial trivial (by simpa [upB, upd, q10] using hs)
            refine EachF.cons 11 rfl (fun dn xv W F hF hd hN hX hI H K hK => ?_) ?_
            · have f4 : F.tmps.getD 4 undef = .pointer (some ⟨w.heap.size + 1, 0, none⟩) := (hF 4).trans (by kernel_rfl)
              have h9 := (H 9 (.edge (by kernel_rfl))).2
              simp only [Dl] at h9
              have f46 : F.tmps.getD 46 undef = xv 9 := (hF 46).trans (by kernel_rfl)
              have q9 : dn 9 = true := (H 9 (.edge (by kernel_rfl))).1
              have hS : Below w1.heap.size w1 W ∧ OwnB W w1.heap.size (xv 8) (L ++ [l]) ∧ xv 9 = .agg #[.int .u64 (base : Int), xv 8] := by simpa [hd, q9] using hI
              clear hI hN hd hX hF H
              refine on_plain rfl ?_
              obtain ⟨s1, s2, s3⟩ := hS
              obtain ⟨A2, c2, e2, _⟩ := s2.form HFL.out
              rw [len1] at e2
              have f46x := f46.trans s3
              rw [e2] at f46x
              have hc3 := (s1.cell (p := ⟨w.heap.size + 1, 0, none⟩) (show w.heap.size + 1 < w1.heap.size by omega)).trans k3
              have hc4 := (s1.cell (p := ⟨w.heap.size + 1, 1, none⟩) (show w.heap.size + 1 < w1.heap.size by omega)).trans k4
              have hf3 := (s1.frozen (p := ⟨w.heap.size + 1, 0, none⟩) (show w.heap.size + 1 < w1.heap.size by omega)).trans k5
              have hf4 := (s1.frozen (p := ⟨w.heap.size + 1, 1, none⟩) (show w.heap.size + 1 < w1.heap.size by omega)).trans k6
              have hs := set2 hB1 s1 (w.heap.size + 1) (by omega) (by omega) s2 hc3 hc4 (.int .u64 (base : Int)) (xv 8)
              go_simp
              rw [← e2]
              exact hK.out undef _ trivial trivial (by simpa [upB, upd] using hs)
            refine EachF.cons 12 rfl (fun dn xv W F hF hd hN hX hI H K hK => ?_) ?_
            · clear H hN hd hX hF
              refine on_plain rfl ?_
              go_simp
              exact hK.out _ _ rfl trivial (by simpa [upB, upd] using hI)
            exact EachF.nil
          · intro dn xv W hI H
            have q11 : xv 11 = .int .i64 0 := (H 11 (of_decide_eq_true (by kernel_rfl))).2
            have qe : dn 10 = true := (H 10 (of_decide_eq_true (by kernel_rfl))).1
            have hS : Below w.heap.size w W ∧ OwnB W w1.heap.size (xv 8) (L ++ [l]) ∧ IsCell2 W (w.heap.size + 1) (.int .u64 (base : Int)) (xv 8) := by simpa [qe] using hI
            clear H hI qe
            simp only [putAll, Act.put, List.setIfInBounds_toArray, List.set_cons_zero, List.set_cons_succ, Nat.reduceAdd, q11]
            clear q11
            obtain ⟨s1, s2, s3, s4⟩ := hS
            obtain ⟨A2, c2, e2, _⟩ := s2.form HFL.out
            rw [len1] at e2
            go_wp2
            refine bodyPost_ret (v := .tuple #[.agg #[.int .u64 (base : Int), xv 8], .int .i64 0]) (by rw [e2] at s4 ⊢; simp [results, Try.results13, go_sem, s3, s4]) rfl ?_
            exact ⟨s1, .inr ⟨HE.out, _, rfl, s2.mono hB1.size⟩⟩
          -- R7END
    · have g2' : bodyB l = false := by simpa using g2
      have HE : Hid (pushE base L l = 2) := Lib.hid (by unfold pushE; rw [g1, g2', if_neg (by simp), if_pos rfl])
      rw [g1]
      clear g2 g1
      by_cases g3 : l.length < 1
      · clear g2'
        go_wp2
        refine bodyPost_ret (v := .tuple #[.agg #[.int .u64 0, .slice none 0 0], .int .i64 2]) (by simp [results, Try.results13, go_sem, k3, k4]) rfl ?_
        exact ⟨by first | exact (hB1.setCell (by simp) _).setCell (by simp) _ | exact hB1.setCell (by simp) _ | exact hB1, .inl ⟨by rw [HE.out]; omega, by rw [HE.out]; rfl⟩⟩
      · have g4 : 448 < l.length := by
          have h := g2'
          unfold bodyB at h
          simp at h
          omega
        clear g2'
        go_wp2
        refine bodyPost_ret (v := .tuple #[.agg #[.int .u64 0, .slice none 0 0], .int .i64 2]) (by simp [results, Try.results13, go_sem, k3, k4]) rfl ?_
        exact ⟨by first | exact (hB1.setCell (by simp) _).setCell (by simp) _ | exact hB1.setCell (by simp) _ | exact hB1, .inl ⟨by rw [HE.out]; omega, by rw [HE.out]; rfl⟩⟩
  · have g1' : mayB base L = false := by simpa using g1
    have HE : Hid (pushE base L l = 1) := Lib.hid (by simp [pushE, g1'])
    rw [g1']
    clear g1 g1'
    go_wp2
    refine bodyPost_ret (v := .tuple #[.agg #[.int .u64 0, .slice none 0 0], .int .i64 1]) (by simp [results, Try.results13, go_sem, k3, k4]) rfl ?_
    exact ⟨by first | exact (hB1.setCell (by simp) _).setCell (by simp) _ | exact hB1.setCell (by simp) _ | exact hB1, .inl ⟨by rw [HE.out]; omega, by rw [HE.out]; rfl⟩⟩
end Go.Proofs.Ytmjlehofjholaaa
