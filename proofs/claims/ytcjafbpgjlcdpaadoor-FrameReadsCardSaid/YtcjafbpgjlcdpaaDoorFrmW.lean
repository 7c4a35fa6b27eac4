/- The walk of the laws' own helper 'awake' of layer 5. -/
import Derived.Test.YtcjafbpgjlcdpaaDoorFrmD
import Derived.Test.YtcjafbpgjlcdpaaDoorFrmB
import Derived.Test.YtcjafbpgjlcdpaaDoorFrmS
import Derived.Test.YtcjafbpgjlcdpaaDoorCodeUnl
namespace Go.Proofs.YtcjafbpgjlcdpaaDoor
open Go Go.RowKit
set_option linter.unusedVariables false
set_option maxRecDepth 100000

theorem us_take' (l : List UInt8) (k : Nat) : us (l.take k) = (us l).take k := us_take l k
def fr0 : Fr := ⟨1, 1, 2, 1, 3, 0, 0, 0, 0, []⟩
theorem fr0_may : fr0.may = true := by decide +kernel
theorem fr0_plain : fr0.plain = [1, 1, 2, 1, 3, 0, 0, 0, 0] := by decide +kernel
theorem fr0_len : (Crc.sealed fr0.plain).length = 13 := by rw [sealed_len, fr0_plain]; rfl
theorem fr0_take : (Crc.sealed fr0.plain).take 9 = [1, 1, 2, 1, 3, 0, 0, 0, 0] := by rw [fr0_plain]; rfl

set_option maxHeartbeats 1600000 in
theorem awake5 (w : World) (hT : Table w) : Calls Tryd.prog 12 #[] w fun e w' => e = .returned (.bool true) ∧ Below w.heap.size w w' := by
  have HT := Lib.hid hT
  clear hT
  have HS0 := Lib.hid (show Sep w (w.alloc (.cells #[.int .i64 1, .int .i64 1, .int .i64 2, .int .u64 1, .int .u64 3, .int .u64 0, .int .u64 0, .int .u64 0, .int .u64 0, .slice none 0 0] 25)) [Ce w.heap.size 25 #[.int .i64 1, .int .i64 1, .int .i64 2, .int .u64 1, .int .u64 3, .int .u64 0, .int .u64 0, .int .u64 0, .int .u64 0, .slice none 0 0]] from sep_ce (Sep.nil w) #[.int .i64 1, .int .i64 1, .int .i64 2, .int .u64 1, .int .u64 3, .int .u64 0, .int .u64 0, .int .u64 0, .int .u64 0, .slice none 0 0] 25)
  go_enter Tryd.func12, Tryd.ntmps12
  go_wp2_with fail
  refine (encode_yes _ (HT.out.alloc _) 0 fr0 none 0 Has.nil (Nat.zero_le _) fr0_may).mono ?_
  rintro e w1 ⟨v1, rfl, ho1, hb1⟩
  have HS1 := Lib.hid (show Sep w w1 [Ce w.heap.size 25 #[.int .i64 1, .int .i64 1, .int .i64 2, .int .u64 1, .int .u64 3, .int .u64 0, .int .u64 0, .int .u64 0, .int .u64 0, .slice none 0 0], By v1 (Crc.sealed fr0.plain)] from sep_new5 HS0.out ho1 hb1)
  clear HS0 ho1 hb1
  obtain ⟨A1, c1, rfl, h11, h12, h13⟩ := sep_byForm (i := 1) HS1.out rfl
  have H13 := Lib.hid h13
  clear h13
  go_wp2_with fail
  refine (decode_any w1 (HT.out.below HS1.out.bel HT.out.lt) w1.heap.size A1 c1 _ H13.out (Nat.le_refl _) h11 h12 (by rw [fr0_len]; omega)).mono ?_
  rintro e w2 (⟨f, A2, c2, hf, rfl, hbo, hb2⟩ | ⟨hn, _, _⟩)
  · obtain rfl := hf.inj ⟨fr0_may, rfl⟩
    have HB2 := Lib.hid hbo.has
    clear hf hbo
    have HS2 := Lib.hid (HS1.out.grow hb2)
    have H132 := Lib.hid (H13.out.below hb2)
    have hz12 := HS1.out.size
    have hz2 := hb2.size
    clear HS1 H13 hb2
    obtain ⟨Lb, HLb⟩ : ∃ L, Hid (Crc.sealed fr0.plain = L) := ⟨_, Lib.hid rfl⟩
    have hL : Lb.length = 13 := by rw [← HLb.out]; exact fr0_len
    have HT9 : Hid (Lb.take 9 = [1, 1, 2, 1, 3, 0, 0, 0, 0]) := Lib.hid (by rw [← HLb.out]; exact fr0_take)
    rw [HLb.out] at HS2 H132 ⊢
    rw [show fr0.cells A2 c2 = #[.int .i64 1, .int .i64 1, .int .i64 2, .int .u64 1, .int .u64 3, .int .u64 0, .int .u64 0, .int .u64 0, .int .u64 0, .slice A2 0 c2] from rfl]
    have HS3 := Lib.hid (show Sep w (w2.alloc (.cells #[.int .i64 1, .int .i64 1, .int .i64 2, .int .u64 1, .int .u64 3, .int .u64 0, .int .u64 0, .int .u64 0, .int .u64 0, .slice A2 0 c2] 25)) [Ce w.heap.size 25 #[.int .i64 1, .int .i64 1, .int .i64 2, .int .u64 1, .int .u64 3, .int .u64 0, .int .u64 0, .int .u64 0, .int .u64 0, .slice none 0 0], By (.slice A1 Lb.length c1) Lb, Ce w2.heap.size 25 #[.int .i64 1, .int .i64 1, .int .i64 2, .int .u64 1, .int .u64 3, .int .u64 0, .int .u64 0, .int .u64 0, .int .u64 0, .slice A2 0 c2]] from sep_ce HS2.out _ _)
    have hz0 := sep_ceLt (i := 0) HS2.out rfl
    have k0 := sep_ceAt (i := 0) HS2.out rfl 0 rfl
    have k1 := sep_ceAt (i := 0) HS2.out rfl 1 rfl
    have k2 := sep_ceAt (i := 0) HS2.out rfl 2 rfl
    have k3 := sep_ceAt (i := 0) HS2.out rfl 3 rfl
    have k4 := sep_ceAt (i := 0) HS2.out rfl 4 rfl
    have k5 := sep_ceAt (i := 0) HS2.out rfl 5 rfl
    have k6 := sep_ceAt (i := 0) HS2.out rfl 6 rfl
    have k7 := sep_ceAt (i := 0) HS2.out rfl 7 rfl
    have k8 := sep_ceAt (i := 0) HS2.out rfl 8 rfl
    have k9 := sep_ceAt (i := 0) HS2.out rfl 9 rfl
    rw [hL] at *
    have h13c : 13 ≤ c1 := by rw [fr0_len] at h11; exact h11
    go_wp2_with fail
    clear k0 k1 k2 k3 k4 k5 k6 k7 k8 k9
    refine (mayFb (f := fr0) (A := none) (c := 0) fr0_may (by unfold maxLen; simp [fr0])).mono ?_
    rintro e w3 ⟨rfl, hb3⟩
    have HS4 := Lib.hid (HS3.out.grow hb3)
    have hz3 := hb3.size
    simp only [World.size_alloc] at hz3
    have HB3 := Lib.hid ((HB2.out.alloc (Nat.le_refl _) (.cells #[.int .i64 1, .int .i64 1, .int .i64 2, .int .u64 1, .int .u64 3, .int .u64 0, .int .u64 0, .int .u64 0, .int .u64 0, .slice A2 0 c2] 25)).below (hb3.mono (by simp)))
    have H133 := Lib.hid ((H132.out.alloc hz2 (.cells #[.int .i64 1, .int .i64 1, .int .i64 2, .int .u64 1, .int .u64 3, .int .u64 0, .int .u64 0, .int .u64 0, .int .u64 0, .slice A2 0 c2] 25)).below (hb3.mono (by simp; omega)))
    have t9 := run_str (c := c1) (l := Lb.take 9) (by rw [us_take']; exact H133.out.take 9)
    clear HS3 hb3 H132 HB2
    have k0 := sep_ceAt (i := 0) HS4.out rfl 0 rfl
    have k1 := sep_ceAt (i := 0) HS4.out rfl 1 rfl
    have k2 := sep_ceAt (i := 0) HS4.out rfl 2 rfl
    have k3 := sep_ceAt (i := 0) HS4.out rfl 3 rfl
    have k4 := sep_ceAt (i := 0) HS4.out rfl 4 rfl
    have k5 := sep_ceAt (i := 0) HS4.out rfl 5 rfl
    have k6 := sep_ceAt (i := 0) HS4.out rfl 6 rfl
    have k7 := sep_ceAt (i := 0) HS4.out rfl 7 rfl
    have k8 := sep_ceAt (i := 0) HS4.out rfl 8 rfl
    have k9 := sep_ceAt (i := 0) HS4.out rfl 9 rfl
    have z0 := sep_ceAt (i := 2) HS4.out rfl 0 rfl
    have z1 := sep_ceAt (i := 2) HS4.out rfl 1 rfl
    have z2 := sep_ceAt (i := 2) HS4.out rfl 2 rfl
    have z3 := sep_ceAt (i := 2) HS4.out rfl 3 rfl
    have z4 := sep_ceAt (i := 2) HS4.out rfl 4 rfl
    have z5 := sep_ceAt (i := 2) HS4.out rfl 5 rfl
    have z6 := sep_ceAt (i := 2) HS4.out rfl 6 rfl
    have z7 := sep_ceAt (i := 2) HS4.out rfl 7 rfl
    have z8 := sep_ceAt (i := 2) HS4.out rfl 8 rfl
    have z9 := sep_ceAt (i := 2) HS4.out rfl 9 rfl
    rw [HT9.out] at t9
    simp only [List.length_cons, List.length_nil, Nat.reduceAdd] at t9
    go_wp2_with fail
    refine (same5_any w3 w3.heap.size fr0 fr0 none A2 0 c2 Has.nil (HB3.out.more (by omega)) (Nat.le_refl _) (by unfold maxLen; simp [fr0]) (by unfold maxLen; simp [fr0])).mono ?_
    rintro e w4 ⟨rfl, hb4⟩
    rw [Fr.eqB_self]
    go_wp2_with fail
    go_ret
    exact ⟨rfl, HS4.out.bel.trans (hb4.mono HS4.out.size)⟩
  · exact (hn fr0 ⟨fr0_may, rfl⟩).elim
end Go.Proofs.YtcjafbpgjlcdpaaDoor
