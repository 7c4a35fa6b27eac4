/- The walk of the laws' own helper 'awake' of layer 2. -/
import Derived.Test.YtkjficbegjhefaaCodeR4
namespace Go.Proofs.Ytkjficbegjhefaa
open Go Go.RowKit
set_option linter.unusedVariables false
set_option maxRecDepth 100000

theorem fact_w : [] ++ Code.wide 2 258 ++ Code.short 300 ++ Code.shorts [1, 128] ++ Code.text [97, 98] = [2, 1, 172, 2, 1, 128, 1, 2, 97, 98] := by decide +kernel
theorem fact_u : rUint [129, 0] false = (0, [129, 0], true) := by decide +kernel
theorem fact_u8 : rWide [129, 0] true 1 = (0, [129, 0], true) := by decide +kernel
theorem fact_t : rText [2, 97, 98] false 1 = ([], [2, 97, 98], true) := by decide +kernel

set_option maxHeartbeats 800000 in
theorem codeAwake (w : World) : Calls Try.prog 12 #[] w fun e w' => e = .returned (.bool true) ∧ Below w.heap.size w w' := by
  go_enter Try.func12, Try.ntmps12
  go_wp2_with fail
  refine (newWriter_any w).mono ?_
  rintro e w1 ⟨rfl, hw1, hb1, hs1⟩
  have HW1 := Lib.hid hw1
  have HS1 := Lib.hid hs1
  have hz1 : w.heap.size < w1.heap.size := by omega
  clear hw1 hs1
  go_wp2_with fail
  refine (wU16_any w1 w.heap.size w.heap.size none [] 258 HW1.out (by omega) (by omega) (by simp)).mono ?_
  rintro e w2 ⟨rfl, r2, hw2, hc2, hm2⟩
  have HW2 := Lib.hid hw2
  have hb2 := hb1.trans (HW1.out.below_ hc2 (by omega))
  clear hw2 hc2 hm2
  go_wp2_with fail
  refine (uint_any w2 w.heap.size w.heap.size r2 _ 300 HW2.out hb2.size (by omega) (by simp [Code.wide])).mono ?_
  rintro e w3 ⟨rfl, r3, hw3, hc3, hm3⟩
  have HW3 := Lib.hid hw3
  have hb3 := hb2.trans (HW2.out.below_ hc3 hb2.size)
  clear hw3 hc3 hm3
  go_wp2_with fail
  have hb3' : Below w3.heap.size w3 (w3.alloc (.cells #[.int .u64 1, .int .u64 128] 31)) := (Below.refl _ _).alloc (Nat.le_refl _) _
  have HW3' := Lib.hid (HW3.out.grow hb3')
  have hs : 0 < [1, 128].length → ∀ b o : Nat, some (⟨w3.heap.size, 0, none⟩ : Addr) = some ⟨b, o, none⟩ → b ≠ w.heap.size ∧ some b ≠ r3 := by
    intro _ b o e
    injection e with e
    injection e with e1 _
    subst e1
    refine ⟨by have := HW3.out.lt; omega, fun e => ?_⟩
    have := (HW3.out.row _ e.symm).2.1
    omega
  refine (put_any _ w.heap.size w.heap.size r3 _ (some ⟨w3.heap.size, 0, none⟩) 2 [1, 128] HW3'.out (Nat.le_trans hb3.size hb3'.size) (by have := has_new w3 #[.int .u64 1, .int .u64 128] 31; simpa [u64s] using this) hs (by intro x hx; simp at hx; omega) (by simp [Code.wide]; have := (Code.short_length 300).2; omega)).mono ?_
  rintro e w4 ⟨rfl, r4, hw4, hc4, hm4⟩
  have HW4 := Lib.hid hw4
  have hb4 := (hb3.trans (hb3'.mono hb3.size)).trans (HW3'.out.below_ hc4 (Nat.le_trans hb3.size hb3'.size))
  clear hw4 hc4 hm4 hs hb3'
  go_wp2_with fail
  refine (textW_any w4 w.heap.size w.heap.size r4 _ [97, 98] HW4.out hb4.size (by simp [Code.wide]; have := (Code.short_length 300).2; have := shorts_length [1, 128]; simp at this; omega)).mono ?_
  rintro e w5 ⟨rfl, r5, hw5, hc5, hm5⟩
  rw [fact_w] at hw5
  have HW5 := Lib.hid hw5
  have hb5 := hb4.trans (HW4.out.below_ hc5 hb4.size)
  clear hw5 hc5 hm5
  go_wp2_with fail
  refine (newReader_any _ (w5.heap.size + 1) _ 2 [129, 0] (has_lit rfl) (by simp) (by simp)).mono ?_
  rintro e w6 ⟨g6, k6, rfl, hg6, hk6, hr6, hb6⟩
  simp only [World.size_alloc] at hg6 hk6
  have hb6' : Below w5.heap.size w5 w6 := ((Below.refl _ _).alloc (Nat.le_refl _) _).trans (hb6.mono (by simp))
  have HR6 := Lib.hid hr6
  have HW6 := Lib.hid (HW5.out.grow hb6')
  clear hr6 hb6
  go_wp2_with fail
  refine (newReader_any _ (w6.heap.size + 1) _ 3 [2, 97, 98] (has_lit rfl) (by simp) (by simp)).mono ?_
  rintro e w7 ⟨g7, k7, rfl, hg7, hk7, hr7, hb7⟩
  simp only [World.size_alloc] at hg7 hk7
  have hb7' : Below w6.heap.size w6 w7 := ((Below.refl _ _).alloc (Nat.le_refl _) _).trans (hb7.mono (by simp))
  have HR7 := Lib.hid hr7
  have HW7 := Lib.hid (HW6.out.grow hb7')
  have HR67 := Lib.hid (HR6.out.grow hb7')
  have hg67 : g6 < w6.heap.size := HR6.out.lt
  have hz5 : w.heap.size ≤ w5.heap.size := hb5.size
  have hz6 : w5.heap.size ≤ w6.heap.size := hb6'.size
  have hbw7 := hb5.trans ((hb6'.trans (hb7'.mono hb6'.size)).mono hb5.size)
  clear hr7 hb7
  go_wp2_with fail
  refine (bytes_any w7 w.heap.size w.heap.size r5 _ HW7.out (by simp)).mono ?_
  rintro e w8 ⟨v8, rfl, ho8, hb8⟩
  obtain ⟨A8, c8, rfl, hc8, hm8, h8⟩ := ho8.form
  have e8 := run_str (c := c8) h8
  simp only [List.length_cons, List.length_nil] at e8
  have HW8 := Lib.hid (HW7.out.grow hb8)
  have HR68 := Lib.hid (HR67.out.grow hb8)
  have HR78 := Lib.hid (HR7.out.grow hb8)
  have hbw8 := hbw7.trans (hb8.mono hbw7.size)
  clear ho8 h8
  go_wp2_with fail
  refine (len_any w8 w.heap.size w.heap.size r5 _ HW8.out).mono ?_
  rintro e w9 ⟨rfl, rfl⟩
  clear e8
  go_wp2_with fail
  refine (uintR_any w8 g6 k6 [129, 0] false HR68.out (by simp)).mono ?_
  rintro e w9 ⟨rfl, hr9, hc9⟩
  rw [fact_u] at hr9 ⊢
  have HR9 := Lib.hid hr9
  have HR79 := Lib.hid (HR78.out.keep hc9 (by omega) (by simp) (fun _ => by omega) (fun _ => by simp))
  have hbw9 : Below w.heap.size w w9 := hbw8.trans (hc9.below hbw8.size (by omega) (by simp))
  clear hr9 hc9
  go_wp2_with fail
  refine (left_any w9 g6 k6 [129, 0] true HR9.out).mono ?_
  rintro e w10 ⟨rfl, rfl⟩
  go_wp2_with fail
  refine (rU8_any w9 g6 k6 [129, 0] true HR9.out (by simp)).mono ?_
  rintro e w10 ⟨rfl, hr10, hc10⟩
  rw [fact_u8] at hr10 ⊢
  have HR10 := Lib.hid hr10
  have HR710 := Lib.hid (HR79.out.keep hc10 (by omega) (by simp) (fun _ => by omega) (fun _ => by simp))
  have hbw10 : Below w.heap.size w w10 := hbw9.trans (hc10.below hbw9.size (by omega) (by simp))
  clear hr10 hc10
  go_wp2_with fail
  refine (err_any w10 g6 k6 [129, 0] true HR10.out).mono ?_
  rintro e w11 ⟨rfl, rfl⟩
  go_wp2_with fail
  refine (textR_any w10 g7 k7 [2, 97, 98] false 1 HR710.out (by simp) (by omega) (by omega)).mono ?_
  rintro e w11 ⟨rfl, hr11, hc11⟩
  rw [fact_t] at hr11 ⊢
  have HR11 := Lib.hid hr11
  have hbw11 : Below w.heap.size w w11 := hbw10.trans (hc11.below hbw10.size (by omega) (by simp))
  clear hr11 hc11
  go_wp2_with fail
  refine (err_any w11 g7 k7 [2, 97, 98] true HR11.out).mono ?_
  rintro e w12 ⟨rfl, rfl⟩
  go_wp2
  go_ret
  exact ⟨rfl, hbw11⟩
end Go.Proofs.Ytkjficbegjhefaa
