/- The walk of the laws' own helper 'awake' of layer 10. -/
import Derived.Test.YtbnjlminjopaaaaLetD
import Derived.Test.YtbnjlminjopaaaaLetS
namespace Go.Proofs.Ytbnjlminjopaaaa
open Go Go.RowKit
set_option linter.unusedVariables false
set_option maxRecDepth 100000

def lt0 : Lt := ⟨7, 5, 2, 3, 1, 1, 2, [7], 0, [], false⟩
theorem lt0_may : lt0.may = true := by decide +kernel
theorem lt0_plain : lt0.plain = [7, 5, 2, 3, 1, 1, 2, 1, 7] := by decide +kernel
theorem lt0_fits : lt0.fits := by unfold Lt.fits lt0; simp
theorem sep_newBy {w0 w w' : World} {Ps : List SP} {v : Value} {l : List UInt8} (h : Sep w0 w Ps) (ho : Own w' w.heap.size v l) (hb : Below w.heap.size w w') : Sep w0 w' (Ps ++ [By v l]) :=
  h.add (F := fun k => v.ownBlock = some k) hb ⟨own_mono ho (Nat.zero_le _), fun k => Iff.rfl⟩ (By.loc _ _) fun k hk => (ho.lt k hk).1

set_option maxHeartbeats 1600000 in
theorem awake10 (w : World) : Calls Try.prog 10 #[] w fun e w' => e = .returned (.bool true) ∧ Below w.heap.size w w' := by
  have HS0 : Hid (Sep w ((w.alloc (.cells #[.int .u8 7] 5)).alloc (.cells #[.int .i64 7, .int .i64 5, .int .u64 2, .int .u64 3, .int .i64 1, .int .u64 1, .int .u64 2, .slice (some ⟨w.heap.size, 0, none⟩) 1 1, .int .u64 0, .slice none 0 0, .bool false] 30)) [Ce (w.heap.size + 1) 30 #[.int .i64 7, .int .i64 5, .int .u64 2, .int .u64 3, .int .i64 1, .int .u64 1, .int .u64 2, .slice (some ⟨w.heap.size, 0, none⟩) 1 1, .int .u64 0, .slice none 0 0, .bool false]]) := Lib.hid (by
    have h := sep_ce ((Sep.nil w).alloc (.cells #[.int .u8 7] 5)) #[.int .i64 7, .int .i64 5, .int .u64 2, .int .u64 3, .int .i64 1, .int .u64 1, .int .u64 2, .slice (some ⟨w.heap.size, 0, none⟩) 1 1, .int .u64 0, .slice none 0 0, .bool false] 30
    rw [World.size_alloc] at h
    exact h)
  have HB0 : Hid (Has ((w.alloc (.cells #[.int .u8 7] 5)).alloc (.cells #[.int .i64 7, .int .i64 5, .int .u64 2, .int .u64 3, .int .i64 1, .int .u64 1, .int .u64 2, .slice (some ⟨w.heap.size, 0, none⟩) 1 1, .int .u64 0, .slice none 0 0, .bool false] 30)) (w.heap.size + 1) (some ⟨w.heap.size, 0, none⟩) (us [7])) := Lib.hid ((has_lit (m := [7]) rfl).alloc (by simp) _)
  go_enter Try.func10, Try.ntmps10
  go_wp2_with fail
  refine (encL_yes _ (w.heap.size + 1) lt0 (some ⟨w.heap.size, 0, none⟩) none 1 0 HB0.out Has.nil (by simp) lt0_fits.1 lt0_fits.2.1 lt0_fits.2.2.1 lt0_fits.2.2.2 lt0_may).mono ?_
  rintro e w1 ⟨v1, rfl, ho1, hb1⟩
  have HS1 := Lib.hid (show Sep w w1 [Ce (w.heap.size + 1) 30 #[.int .i64 7, .int .i64 5, .int .u64 2, .int .u64 3, .int .i64 1, .int .u64 1, .int .u64 2, .slice (some ⟨w.heap.size, 0, none⟩) 1 1, .int .u64 0, .slice none 0 0, .bool false], By v1 lt0.plain] from sep_newBy HS0.out ho1 hb1)
  have HB1 := Lib.hid (HB0.out.below (hb1.mono (by simp)))
  clear HS0 HB0 ho1 hb1
  obtain ⟨A1, c1, rfl, h11, h12, h13⟩ := sep_byForm (i := 1) HS1.out rfl
  have H13 := Lib.hid h13
  clear h13 h11 h12
  go_wp2_with fail
  refine (decodeL_any w1 w1.heap.size A1 c1 _ H13.out (Nat.le_refl _) (by rw [lt0_plain]; simp)).mono ?_
  rintro e w2 (⟨x, A2, c2, A3, c3, hx, rfl, hbo, hbu, hb2⟩ | ⟨hn, _, _⟩)
  · obtain rfl := hx.inj ⟨lt0_may, lt0_fits, rfl⟩
    have HB2 := Lib.hid hbo.has
    have hz1 := sep_ceLt (i := 0) HS1.out rfl
    have hz2 := hb2.size
    clear hx hbo hbu
    have HS2 := Lib.hid (HS1.out.grow hb2)
    have HB3 := Lib.hid (HB1.out.below (hb2.mono (by omega)))
    have H14 := Lib.hid (H13.out.below hb2)
    clear HS1 HB1 H13 hb2
    rw [lt0_plain] at HS2 H14 ⊢
    rw [show lt0.cells A2 c2 A3 c3 = #[.int .i64 7, .int .i64 5, .int .u64 2, .int .u64 3, .int .i64 1, .int .u64 1, .int .u64 2, .slice A2 1 c2, .int .u64 0, .slice A3 0 c3, .bool false] from rfl]
    have HS3 := Lib.hid (show Sep w (w2.alloc (.cells #[.int .i64 7, .int .i64 5, .int .u64 2, .int .u64 3, .int .i64 1, .int .u64 1, .int .u64 2, .slice A2 1 c2, .int .u64 0, .slice A3 0 c3, .bool false] 30)) [Ce (w.heap.size + 1) 30 #[.int .i64 7, .int .i64 5, .int .u64 2, .int .u64 3, .int .i64 1, .int .u64 1, .int .u64 2, .slice (some ⟨w.heap.size, 0, none⟩) 1 1, .int .u64 0, .slice none 0 0, .bool false], By (.slice A1 9 c1) [7, 5, 2, 3, 1, 1, 2, 1, 7], Ce w2.heap.size 30 #[.int .i64 7, .int .i64 5, .int .u64 2, .int .u64 3, .int .i64 1, .int .u64 1, .int .u64 2, .slice A2 1 c2, .int .u64 0, .slice A3 0 c3, .bool false]] from sep_ce HS2.out _ _)
    have HB4 := Lib.hid ((HB2.out.alloc (Nat.le_refl _) (.cells #[.int .i64 7, .int .i64 5, .int .u64 2, .int .u64 3, .int .i64 1, .int .u64 1, .int .u64 2, .slice A2 1 c2, .int .u64 0, .slice A3 0 c3, .bool false] 30)))
    have HB5 := Lib.hid ((HB3.out.alloc (by omega) (.cells #[.int .i64 7, .int .i64 5, .int .u64 2, .int .u64 3, .int .i64 1, .int .u64 1, .int .u64 2, .slice A2 1 c2, .int .u64 0, .slice A3 0 c3, .bool false] 30)))
    have t9 := run_str (c := c1) (l := [7, 5, 2, 3, 1, 1, 2, 1, 7]) (H14.out.alloc hz2 (.cells #[.int .i64 7, .int .i64 5, .int .u64 2, .int .u64 3, .int .i64 1, .int .u64 1, .int .u64 2, .slice A2 1 c2, .int .u64 0, .slice A3 0 c3, .bool false] 30))
    simp only [List.length_cons, List.length_nil, Nat.reduceAdd] at t9 ⊢
    clear HS2 HB2 HB3 H14
    have k0 := sep_ceAt (i := 0) HS3.out rfl 0 rfl
    have k1 := sep_ceAt (i := 0) HS3.out rfl 1 rfl
    have k2 := sep_ceAt (i := 0) HS3.out rfl 2 rfl
    have k3 := sep_ceAt (i := 0) HS3.out rfl 3 rfl
    have k4 := sep_ceAt (i := 0) HS3.out rfl 4 rfl
    have k5 := sep_ceAt (i := 0) HS3.out rfl 5 rfl
    have k6 := sep_ceAt (i := 0) HS3.out rfl 6 rfl
    have k7 := sep_ceAt (i := 0) HS3.out rfl 7 rfl
    have k8 := sep_ceAt (i := 0) HS3.out rfl 8 rfl
    have k9 := sep_ceAt (i := 0) HS3.out rfl 9 rfl
    have k10 := sep_ceAt (i := 0) HS3.out rfl 10 rfl
    have z0 := sep_ceAt (i := 2) HS3.out rfl 0 rfl
    have z1 := sep_ceAt (i := 2) HS3.out rfl 1 rfl
    have z2 := sep_ceAt (i := 2) HS3.out rfl 2 rfl
    have z3 := sep_ceAt (i := 2) HS3.out rfl 3 rfl
    have z4 := sep_ceAt (i := 2) HS3.out rfl 4 rfl
    have z5 := sep_ceAt (i := 2) HS3.out rfl 5 rfl
    have z6 := sep_ceAt (i := 2) HS3.out rfl 6 rfl
    have z7 := sep_ceAt (i := 2) HS3.out rfl 7 rfl
    have z8 := sep_ceAt (i := 2) HS3.out rfl 8 rfl
    have z9 := sep_ceAt (i := 2) HS3.out rfl 9 rfl
    have z10 := sep_ceAt (i := 2) HS3.out rfl 10 rfl
    go_wp2_with fail
    clear k0 z0 k1 z1 k2 z2 k3 z3 k4 z4 k5 z5 k6 z6 k7 z7 k8 z8 k9 z9 k10 z10
    refine (letSame_any _ w2.heap.size lt0 lt0 (some ⟨w.heap.size, 0, none⟩) none A2 A3 1 0 c2 c3 (HB5.out.more (by omega)) Has.nil HB4.out Has.nil (by simp) (by unfold maxLen; simp [lt0]) (by unfold maxLen; simp [lt0]) (by simp [lt0]) (by simp [lt0])).mono ?_
    rintro e w3 ⟨rfl, hb3⟩
    rw [Lt.eqB_self]
    have HS4 := Lib.hid (HS3.out.grow hb3)
    clear HS3 hb3 HB4 HB5
    have k0 := sep_ceAt (i := 0) HS4.out rfl 0 rfl
    have k1 := sep_ceAt (i := 0) HS4.out rfl 1 rfl
    have k2 := sep_ceAt (i := 0) HS4.out rfl 2 rfl
    have k3 := sep_ceAt (i := 0) HS4.out rfl 3 rfl
    have k4 := sep_ceAt (i := 0) HS4.out rfl 4 rfl
    have k5 := sep_ceAt (i := 0) HS4.out rfl 5 rfl
    have k6 := sep_ceAt (i := 0) HS4.out rfl 6 rfl
    have k7 := sep_ceAt (i := 0) HS4.out rfl 7 rfl
    have k8 := sep_ceAt (i := 0) HS4.out rfl 8 rfl
    have k9 := sep_ceAt (i := 0) HS4.out rfl 9 rfl
    have k10 := sep_ceAt (i := 0) HS4.out rfl 10 rfl
    go_wp2_with fail
    clear k0 k1 k2 k3 k4 k5 k6 k7 k8 k9 k10
    refine (mayL (w := w3) (B := 0) (x := lt0) (A := some ⟨w.heap.size, 0, none⟩) (A2 := none) (c := 1) (c2 := 0) lt0_may Has.nil (Nat.zero_le _) (by simp [lt0]) (by simp [lt0]) (by simp [lt0])).mono ?_
    rintro e w4 ⟨rfl, hb4⟩
    go_wp2_with fail
    go_ret
    exact ⟨rfl, HS4.out.bel.trans (hb4.mono HS4.out.size)⟩
  · exact (hn lt0 ⟨lt0_may, lt0_fits, rfl⟩).elim
end Go.Proofs.Ytbnjlminjopaaaa
