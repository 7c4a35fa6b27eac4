/- The walk of window.Due. -/
import Derived.Test.YtmjlehofjholaaaWinE
namespace Go.Proofs.Ytmjlehofjholaaa
open Go Go.RowKit
set_option linter.unusedVariables false
set_option maxRecDepth 100000

def dueL (base : Nat) (L : List (List UInt8)) : List (List UInt8) := if mayB base L = true then L.take (min L.length 8) else []
def DuePost (w : World) (base : Nat) (L : List (List UInt8)) (e : Ending) (w' : World) : Prop :=
  Below w.heap.size w w' ∧ w.heap.size + 2 ≤ w'.heap.size ∧ e = .returned (.func (.func 35) #[] #[.pointer (some ⟨w.heap.size + 1, 0, none⟩), .pointer (some ⟨w.heap.size, 0, none⟩)]) ∧
    w'.cell? ⟨w.heap.size, 0, none⟩ = some (.int .u64 (base : Int)) ∧ ∃ v, w'.cell? ⟨w.heap.size + 1, 0, none⟩ = some v ∧ OwnB w' w.heap.size v (dueL base L)
theorem run_toB (A : Option Addr) (n c k : Nat) (h : k ≤ n) (hc : n ≤ c) (W : World) :
    (Instr.slice 23 (.slice A n c) none (some (.int .i64 (k : Int))) none).run Try.prog W = .ok (.slice A k c) W := by
  obtain ⟨i0, hi, hz0, hz1, hz2⟩ := info_parts info_bs
  have he : Try.prog.elem 23 = 26 := by kernel_rfl
  rw [run_slice_h W 23 A n c (by kernel_rfl) .i64 (k : Int) (by omega) (by omega), he]
  have ha : A.map (fun x => x.add 0) = A := by cases A <;> simp [Addr.add]
  simp [sizeOf, typeInfo, hi, hz1, sliced, ha]
theorem set1 {w w1 W : World} {v : Value} {L : List (List UInt8)} (hB1 : Below w.heap.size w w1) (s1 : Below w1.heap.size w1 W) (g g' : Nat) (hg : w.heap.size ≤ g) (hg2 : g < w1.heap.size) (hne : g' ≠ g) (ho : OwnB W w1.heap.size v L) {a b : Value} (h0 : W.cell? ⟨g, 0, none⟩ = some a) (h1 : W.cell? ⟨g', 0, none⟩ = some b) (x : Value) {n : Nat} (hn : n ≤ W.heap.size) :
    Below w.heap.size w (W.setCell ⟨g, 0, none⟩ x) ∧ OwnB (W.setCell ⟨g, 0, none⟩ x) w1.heap.size v L ∧ (W.setCell ⟨g, 0, none⟩ x).cell? ⟨g, 0, none⟩ = some x ∧ (W.setCell ⟨g, 0, none⟩ x).cell? ⟨g', 0, none⟩ = some b ∧ n ≤ (W.setCell ⟨g, 0, none⟩ x).heap.size := by
  refine ⟨(hB1.trans (s1.mono hB1.size)).setCell hg _, ho.keep fun k hk _ => ?_, ?_, ?_, ?_⟩
  · rw [Below.heap_setCell _ _ _ k (by simp only; omega)]
  · exact World.cell?_setCell_same' _ _ _ (by rw [h0]; rfl)
  · rw [World.cell?_setCell_other _ _ _ _ (fun e => hne (by cases e; rfl))]; exact h1
  · simp [World.setCell]; exact hn

set_option maxHeartbeats 1000000 in
theorem due_any (w : World) (base : Nat) (A : Option Addr) (c : Nat) (L : List (List UInt8)) (h : Bx w w.heap.size A L) (hb : base < 18446744073709551616) (hf : Fit L) (hcc : L.length ≤ c) (hcm : c ≤ maxLen) :
    Calls Try.prog 17 #[.agg #[.int .u64 (base : Int), .slice A L.length c]] w (DuePost w base L) := by
  have hmx : L.length ≤ maxLen := by omega
  obtain ⟨LT, HLT⟩ : ∃ LT, Hid (L.take (min L.length 8) = LT) := ⟨_, Lib.hid rfl⟩
  have HF2 : Hid (Fit LT) := Lib.hid (by rw [← HLT.out]; exact hf.take _)
  have HFB := Lib.hid (fun (x : List UInt8) (hx : x ∈ LT) => (show x.length ≤ 140737488355328 by have := HF2.out.2 x hx; omega))
  have HT : Hid (Bx w w.heap.size A LT) := Lib.hid (by rw [← HLT.out]; exact h.take _)
  have HM : Hid (min L.length 8 = LT.length) := Lib.hid (by rw [← HLT.out]; simp)
  have hlt : LT.length ≤ L.length := by have := HM.out; omega
  have hl8 : LT.length ≤ 8 := by have := HM.out; omega
  have HSL := Lib.hid (run_toB A L.length c LT.length hlt hcc)
  have H := Lib.hid h
  obtain ⟨W0, HW0⟩ : ∃ W0, Hid (W0 = (w.alloc (.cells #[.int .u64 (base : Int), .slice A L.length c] 25)).alloc (.cells #[.slice none 0 0] 23)) := ⟨_, Lib.hid rfl⟩
  have hb0 : Below w.heap.size w W0 := by rw [HW0.out]; exact ((Below.refl _ _).alloc (Nat.le_refl _) _).alloc (by simp) _
  have hz0 : W0.heap.size = w.heap.size + 2 := by rw [HW0.out]; simp
  have HZ0 := Lib.hid hz0
  have k0 : W0.cell? ⟨w.heap.size, 0, none⟩ = some (.int .u64 (base : Int)) ∧ W0.cell? ⟨w.heap.size, 1, none⟩ = some (.slice A L.length c) ∧ W0.cell? ⟨w.heap.size + 1, 0, none⟩ = some (.slice none 0 0) ∧ W0.frozen? ⟨w.heap.size + 1, 0, none⟩ = false := by
    rw [HW0.out]; simp [go_sem]
  have HK0 := Lib.hid k0
  have H0 := Lib.hid (h.below hb0)
  clear k0 hz0 h hf
  go_enter Try.func17, Try.ntmps17
  go_wp2_with fail
  rw [← HW0.out]
  refine (may_any W0 w.heap.size base A c L H0.out hb0.size hb hmx).mono ?_
  rintro e w1 ⟨rfl, hb1⟩
  obtain ⟨hc1, hf1⟩ := bcell hb1
  have hz1 := hb1.size
  rw [HZ0.out] at hz1 hc1 hf1
  have k1 := (hc1 w.heap.size 0 (by omega)).trans HK0.out.1
  have k2 := (hc1 w.heap.size 1 (by omega)).trans HK0.out.2.1
  have k3 := (hc1 (w.heap.size + 1) 0 (by omega)).trans HK0.out.2.2.1
  have k5 := (hf1 (w.heap.size + 1) 0 (by omega)).trans HK0.out.2.2.2
  clear hc1 hf1
  have hB1 : Below w.heap.size w w1 := hb0.trans (hb1.mono hb0.size)
  by_cases g1 : mayB base L = true
  · have HE : Hid (dueL base L = LT) := Lib.hid (by rw [← HLT.out]; simp [dueL, g1])
    rw [g1]
    clear g1
    go_wp2_with fail
    have hbel : ∀ (dn : Nat → Bool) (xv : Nat → Value) (W : World), (if dn 6 = true then Below w.heap.size w W ∧ OwnB W w1.heap.size (xv 5) LT ∧ W.cell? ⟨w.heap.size + 1, 0, none⟩ = some (xv 5) ∧ W.cell? ⟨w.heap.size, 0, none⟩ = some (.int .u64 (base : Int)) ∧ w.heap.size + 2 ≤ W.heap.size else if dn 5 = true then Below w1.heap.size w1 W ∧ OwnB W w1.heap.size (xv 5) LT else if dn 3 = true then Below w1.heap.size w1 W else Below w1.heap.size w1 W) → dn 6 = false → Below w1.heap.size w1 W := fun dn xv W h h0 => by
      rw [if_neg (by simp [h0])] at h
      split at h
      · exact h.1
      split at h
      · exact h
      exact h

    refine wp_region_f (fun dn xv W => if dn 6 = true then Below w.heap.size w W ∧ OwnB W w1.heap.size (xv 5) LT ∧ W.cell? ⟨w.heap.size + 1, 0, none⟩ = some (xv 5) ∧ W.cell? ⟨w.heap.size, 0, none⟩ = some (.int .u64 (base : Int)) ∧ w.heap.size + 2 ≤ W.heap.size else if dn 5 = true then Below w1.heap.size w1 W ∧ OwnB W w1.heap.size (xv 5) LT else if dn 3 = true then Below w1.heap.size w1 W else Below w1.heap.size w1 W) (fun _ _ => True) [fun v _ => v = .pointer (some ⟨w.heap.size, 1, none⟩), fun v _ => v = .slice A L.length c, fun v _ => v = .agg #[.int .u64 (base : Int), .slice A L.length c], fun v _ => v = .int .i64 (LT.length : Int), fun v _ => v = .slice A LT.length c, fun v _ => ∃ A2 c2, v = .slice A2 LT.length c2, fun v _ => True] (by kernel_rfl) (by kernel_rfl) (by kernel_rfl) (by kernel_rfl) (fun xv => by simpa using (Below.refl _ w1).drew)
      (by exact ⟨fun _ _ _ _ h => h, fun _ _ _ _ h => h, fun _ _ _ _ h => h, fun _ _ _ _ h => h, fun _ _ _ _ h => h, fun _ _ _ _ h => h, fun _ _ _ _ h => h, trivial⟩) ?_ ?_
    · refine EachF.cons 1 rfl (fun dn xv W F hF hd hN hX hI H K hK => ?_) ?_
      · have f1 : F.tmps.getD 1 undef = .pointer (some ⟨w.heap.size, 0, none⟩) := (hF 1).trans (by kernel_rfl)
        clear H hN hd hX hF
        refine on_plain rfl ?_
        go_simp
        exact hK.out _ _ rfl trivial (by simpa [upB, upd] using hI)
      refine EachF.cons 2 rfl (fun dn xv W F hF hd hN hX hI H K hK => ?_) ?_
      · have h0 : xv 0 = .pointer (some ⟨w.heap.size, 1, none⟩) := (H 0 (.edge (by kernel_rfl))).2
        have f6 : F.tmps.getD 6 undef = .pointer (some ⟨w.heap.size, 1, none⟩) := (hF 6).trans (Eq.trans (by kernel_rfl) h0)
        have hb0 := hbel dn xv W hI (hN 6 (.edge (by kernel_rfl)))
        have hc0 := (hb0.cell (p := ⟨w.heap.size, 0, none⟩) (show w.heap.size < w1.heap.size by omega)).trans k1
        have hc1 := (hb0.cell (p := ⟨w.heap.size, 1, none⟩) (show w.heap.size < w1.heap.size by omega)).trans k2
        clear hb0
        clear H hN hd hX hF
        refine on_plain rfl ?_
        go_simp
        exact hK.out _ _ rfl trivial (by simpa [upB, upd] using hI)
      refine EachF.cons 3 rfl (fun dn xv W F hF hd hN hX hI H K hK => ?_) ?_
      · have f1 : F.tmps.getD 1 undef = .pointer (some ⟨w.heap.size, 0, none⟩) := (hF 1).trans (by kernel_rfl)
        have hb0 := hbel dn xv W hI (hN 6 (.edge (by kernel_rfl)))
        have hc0 := (hb0.cell (p := ⟨w.heap.size, 0, none⟩) (show w.heap.size < w1.heap.size by omega)).trans k1
        have hc1 := (hb0.cell (p := ⟨w.heap.size, 1, none⟩) (show w.heap.size < w1.heap.size by omega)).trans k2
        clear hb0
        clear H hN hd hX hF
        refine on_plain rfl ?_
        go_simp
        exact hK.out _ _ rfl trivial (by simpa [upB, upd] using hI)
      refine EachF.cons 4 rfl (fun dn xv W F hF hd hN hX hI H K hK => ?_) ?_
      · have h2 : xv 2 = .agg #[.int .u64 (base : Int), .slice A L.length c] := (H 2 (.edge (by kernel_rfl))).2
        have f8 : F.tmps.getD 8 undef = .agg #[.int .u64 (base : Int), .slice A L.length c] := (hF 8).trans (Eq.trans (by kernel_rfl) h2)
        have q5 : dn 5 = false := hN 5 (.edge (by kernel_rfl))
        have q6 : dn 6 = false := hN 6 (.more (j := 5) (by kernel_rfl) (.edge (by kernel_rfl)))
        have hS : Below w1.heap.size w1 W := by simpa [hd, q5, q6] using hI
        clear hI hN hd hX hF H
        refine on_plain rfl ?_
        go_simp
        refine (dueP_any W (base : Int) A L.length c hmx).mono ?_
        rintro e W' ⟨rfl, hb⟩
        rw [HM.out]
        have hs : Below w1.heap.size w1 W' := hS.trans (hb.mono hS.size)
        exact hK.out _ W' rfl trivial (by simpa [upB, upd, q5, q6] using hs)
      refine EachF.cons 5 rfl (fun dn xv W F hF hd hN hX hI H K hK => ?_) ?_
      · have h1 : xv 1 = .slice A L.length c := (H 1 (.edge (by kernel_rfl))).2
        have f7 : F.tmps.getD 7 undef = .slice A L.length c := (hF 7).trans (Eq.trans (by kernel_rfl) h1)
        have h3 : xv 3 = .int .i64 (LT.length : Int) := (H 3 (.edge (by kernel_rfl))).2
        have f9 : F.tmps.getD 9 undef = .int .i64 (LT.length : Int) := (hF 9).trans (Eq.trans (by kernel_rfl) h3)
        clear H hN hd hX hF
        refine on_plain rfl ?_
        have d1 := HSL.out
        go_simp
        exact hK.out _ _ rfl trivial (by simpa [upB, upd] using hI)
      refine EachF.cons 6 rfl (fun dn xv W F hF hd hN hX hI H K hK => ?_) ?_
      · have h4 : xv 4 = .slice A LT.length c := (H 4 (.edge (by kernel_rfl))).2
        have f10 : F.tmps.getD 10 undef = .slice A LT.length c := (hF 10).trans (Eq.trans (by kernel_rfl) h4)
        have q3 : dn 3 = true := (H 3 (.edge (by kernel_rfl))).1
        have q6 : dn 6 = false := hN 6 (.edge (by kernel_rfl))
        have hS : Below w1.heap.size w1 W := by simpa [hd, q6, q3] using hI
        clear hI hN hd hX hF H
        refine on_plain rfl ?_
        go_simp
        refine (copied_any W w.heap.size A c LT (HT.out.below (hB1.trans (hS.mono hB1.size))) (Nat.le_trans hB1.size hS.size) HF2.out).mono ?_
        rintro e W' ⟨v, rfl, ho, hb⟩
        have hs : Below w1.heap.size w1 W' ∧ OwnB W' w1.heap.size v LT := ⟨hS.trans (hb.mono hS.size), ho.mono hS.size⟩
        obtain ⟨A2, c2, e2, _⟩ := ho.form HFB.out
        exact hK.out v W' ⟨A2, c2, e2⟩ trivial (by simpa [upB, upd, q6] using hs)
      refine EachF.cons 7 rfl (fun dn xv W F hF hd hN hX hI H K hK => ?_) ?_
      · have f3 : F.tmps.getD 3 undef = .pointer (some ⟨w.heap.size + 1, 0, none⟩) := (hF 3).trans (by kernel_rfl)
        have h5 := (H 5 (.edge (by kernel_rfl))).2
        simp only [Dl] at h5
        have f11 : F.tmps.getD 11 undef = xv 5 := (hF 11).trans (by kernel_rfl)
        have q5 : dn 5 = true := (H 5 (.edge (by kernel_rfl))).1
        have hS : Below w1.heap.size w1 W ∧ OwnB W w1.heap.size (xv 5) LT := by simpa [hd, q5] using hI
        clear hI hN hd hX hF H
        refine on_plain rfl ?_
        obtain ⟨s1, s2⟩ := hS
        obtain ⟨A2, c2, e2, _⟩ := s2.form HFB.out
        have f11x := f11.trans e2
        have hc3 := (s1.cell (p := ⟨w.heap.size + 1, 0, none⟩) (show w.heap.size + 1 < w1.heap.size by omega)).trans k3
        have hf3 := (s1.frozen (p := ⟨w.heap.size + 1, 0, none⟩) (show w.heap.size + 1 < w1.heap.size by omega)).trans k5
        have hc0 := (s1.cell (p := ⟨w.heap.size, 0, none⟩) (show w.heap.size < w1.heap.size by omega)).trans k1
        have hs := set1 hB1 s1 (w.heap.size + 1) w.heap.size (by omega) (by omega) (by omega) s2 hc3 hc0 (xv 5) (show w.heap.size + 2 ≤ W.heap.size by have := s1.size; omega)
        go_simp
        rw [← e2]
        exact hK.out undef _ trivial trivial (by simpa [upB, upd] using hs)
      exact EachF.nil
    · intro dn xv W hI H
      have qe : dn 6 = true := (H 6 (of_decide_eq_true (by kernel_rfl))).1
      have hS : Below w.heap.size w W ∧ OwnB W w1.heap.size (xv 5) LT ∧ W.cell? ⟨w.heap.size + 1, 0, none⟩ = some (xv 5) ∧ W.cell? ⟨w.heap.size, 0, none⟩ = some (.int .u64 (base : Int)) ∧ w.heap.size + 2 ≤ W.heap.size := by simpa [qe] using hI
      clear H hI qe
      simp only [putAll, Act.put, List.setIfInBounds_toArray, List.set_cons_zero, List.set_cons_succ, Nat.reduceAdd]

      obtain ⟨s1, s2, s3, s4, s5⟩ := hS
      have HS := Lib.hid s2
      have HS1 := Lib.hid s3
      clear s2 s3
      go_wp2
      go_ret
      exact ⟨s1, s5, rfl, s4, _, HS1.out, by rw [HE.out]; exact HS.out.mono hB1.size⟩
  · have g1' : mayB base L = false := by simpa using g1
    have HE : Hid (dueL base L = []) := Lib.hid (by simp [dueL, g1'])
    rw [g1']
    clear g1 g1'
    go_wp2
    go_ret
    exact ⟨hB1, hz1, rfl, k1, _, k3, by rw [HE.out]; exact OwnB.nil _ _⟩
end Go.Proofs.Ytmjlehofjholaaa
