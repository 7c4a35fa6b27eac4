/- The walks of package code's Reader: Uint, Text, Raw, Left, Fail, Err, End. -/
import Derived.Test.YtbnjlminjopaaaaCodeR
import Derived.Deep.RegionHeld3
namespace Go.Proofs.Ytbnjlminjopaaaa
open Go Go.RowKit
set_option linter.unusedVariables false
set_option maxRecDepth 100000

/-- what a reader's call leaves -/
def Reads (w : World) (g rb : Nat) (v : Value) (l : List UInt8) (bad : Bool) (e : Ending) (w' : World) : Prop := e = .returned v ∧ Rdr w' g rb l bad ∧ Chg w w' g none

/-- Uint: its answer, what is left, whether there is a fault -/
def rUint (l : List UInt8) (bad : Bool) : Nat × List UInt8 × Bool := if bad then (0, l, true) else match Code.num l with
  | none => (0, l, true)
  | some (x, n) => (x, l.drop n, false)

set_option maxHeartbeats 400000 in
theorem uintR_any (w : World) (g rb : Nat) (l : List UInt8) (bad : Bool) (hR : Rdr w g rb l bad) (hl : l.length ≤ 1000000000) :
    Calls Try.prog 44 #[.pointer (some ⟨g, 0, none⟩)] w (Reads w g rb (.int .u64 (rUint l bad).1) (rUint l bad).2.1 (rUint l bad).2.2) := by
  have HR := Lib.hid hR
  obtain ⟨A, c, h0, h1, f0, f1, hc, hm, hin⟩ := hR.parts
  clear hR hin
  by_cases hb : bad = true ∨ Code.num l = none
  · have HA := Lib.hid (show numAns bad l = (0, 0) by
      unfold numAns
      rcases hb with h | h
      · rw [h]; rfl
      · rw [h]; cases bad <;> rfl)
    have HU := Lib.hid (show rUint l bad = (0, l, true) by
      unfold rUint
      rcases hb with h | h
      · rw [h]; rfl
      · rw [h]; cases bad <;> rfl)
    clear hb
    rw [HU.out]
    go_enter Try.func44, Try.ntmps44
    go_wp2_with fail
    refine (number_any w g rb l bad HR.out hl).mono ?_
    rintro e w' ⟨rfl, rfl⟩
    rw [HA.out]
    go_wp2
    go_ret
    exact ⟨rfl, HR.out.setBad true, chg_set _ _ _ _⟩
  · have hb1 : bad = false := by cases bad <;> simp_all
    subst hb1
    obtain ⟨⟨x, n⟩, hn⟩ : ∃ p, Code.num l = some p := by
      cases h : Code.num l with
      | none => simp [h] at hb
      | some p => exact ⟨p, rfl⟩
    have HA := Lib.hid (show numAns false l = (x, n) by unfold numAns; rw [hn]; rfl)
    have HU := Lib.hid (show rUint l false = (x, l.drop n, false) by unfold rUint; rw [hn]; rfl)
    obtain ⟨hn1, hn2⟩ := Code.num_len hn
    have en : ((n : Int) == 0) = false := beq_eq_false_iff_ne.2 (by omega)
    clear hb hn
    rw [HU.out]
    go_enter Try.func44, Try.ntmps44
    go_wp2_with fail
    refine (number_any w g rb l false HR.out hl).mono ?_
    rintro e w' ⟨rfl, rfl⟩
    rw [HA.out]
    go_wp2_with fail
    refine (take_yes w g rb l n HR.out hn2 hl).mono ?_
    rintro e w1 ⟨A1, rfl, _, hr1, hc1, _⟩
    go_wp2
    go_ret
    exact ⟨rfl, hr1, hc1⟩

/-- Text -/
def rText (l : List UInt8) (bad : Bool) (most : Int) : List UInt8 × List UInt8 × Bool := if bad then ([], l, true) else match Code.num l with
  | none => ([], l, true)
  | some (x, n) => if 0 ≤ most ∧ (x : Int) ≤ most ∧ x ≤ l.length - n then ((l.drop n).take x, (l.drop n).drop x, false) else ([], l, true)

set_option maxHeartbeats 800000 in
theorem textR_any (w : World) (g rb : Nat) (l : List UInt8) (bad : Bool) (most : Int) (hR : Rdr w g rb l bad) (hl : l.length ≤ 1000000000) (hm1 : -9223372036854775808 ≤ most) (hm2 : most ≤ 9223372036854775807) :
    Calls Try.prog 43 #[.pointer (some ⟨g, 0, none⟩), .int .i64 most] w (Reads w g rb (.string ⟨(rText l bad most).1.toArray⟩) (rText l bad most).2.1 (rText l bad most).2.2) := by
  have HR := Lib.hid hR
  obtain ⟨A, c, h0, h1, f0, f1, hc, hm, hin⟩ := hR.parts
  clear hR hin
  by_cases hb : bad = true ∨ Code.num l = none
  · have HA := Lib.hid (show numAns bad l = (0, 0) by
      unfold numAns
      rcases hb with h | h
      · rw [h]; rfl
      · rw [h]; cases bad <;> rfl)
    have HU := Lib.hid (show rText l bad most = ([], l, true) by
      unfold rText
      rcases hb with h | h
      · rw [h]; rfl
      · rw [h]; cases bad <;> rfl)
    clear hb
    rw [HU.out]
    go_enter Try.func43, Try.ntmps43
    go_wp2_with fail
    refine (number_any w g rb l bad HR.out hl).mono ?_
    rintro e w' ⟨rfl, rfl⟩
    rw [HA.out]
    go_wp2
    go_ret
    exact ⟨rfl, HR.out.setBad true, chg_set _ _ _ _⟩
  · have hb1 : bad = false := by cases bad <;> simp_all
    subst hb1
    obtain ⟨⟨x, n⟩, hn⟩ : ∃ p, Code.num l = some p := by
      cases h : Code.num l with
      | none => simp [h] at hb
      | some p => exact ⟨p, rfl⟩
    have HA := Lib.hid (show numAns false l = (x, n) by unfold numAns; rw [hn]; rfl)
    have HU := Lib.hid (show rText l false most = if 0 ≤ most ∧ (x : Int) ≤ most ∧ x ≤ l.length - n then ((l.drop n).take x, (l.drop n).drop x, false) else ([], l, true) by unfold rText; rw [hn]; rfl)
    obtain ⟨hn1, hn2⟩ := Code.num_len hn
    have HX := Lib.hid (Code.num_form hn).1
    have en : ((n : Int) == 0) = false := beq_eq_false_iff_ne.2 (by omega)
    clear hb hn
    by_cases h2 : most < 0
    · have HU2 := Lib.hid (HU.out.trans (if_neg (by omega)))
      rw [HU2.out]
      go_enter Try.func43, Try.ntmps43
      go_wp2_with fail
      refine (number_any w g rb l false HR.out hl).mono ?_
      rintro e w' ⟨rfl, rfl⟩
      rw [HA.out]
      go_wp2
      go_ret
      exact ⟨rfl, HR.out.setBad true, chg_set _ _ _ _⟩
    by_cases h3 : most < (x : Int)
    · have HU2 := Lib.hid (HU.out.trans (if_neg (by omega)))
      rw [HU2.out]
      go_enter Try.func43, Try.ntmps43
      go_wp2_with fail
      refine (number_any w g rb l false HR.out hl).mono ?_
      rintro e w' ⟨rfl, rfl⟩
      rw [HA.out]
      go_wp2
      go_ret
      exact ⟨rfl, HR.out.setBad true, chg_set _ _ _ _⟩
    by_cases h4 : (l.length : Int) - (n : Int) < (x : Int)
    · have HU2 := Lib.hid (HU.out.trans (if_neg (by omega)))
      rw [HU2.out]
      go_enter Try.func43, Try.ntmps43
      go_wp2_with fail
      refine (number_any w g rb l false HR.out hl).mono ?_
      rintro e w' ⟨rfl, rfl⟩
      rw [HA.out]
      go_wp2
      go_ret
      exact ⟨rfl, HR.out.setBad true, chg_set _ _ _ _⟩
    have HU2 := Lib.hid (HU.out.trans (if_pos (by omega)))
    rw [HU2.out]
    have hx9 : x ≤ 1000000000 := by omega
    go_enter Try.func43, Try.ntmps43
    go_wp2_with fail
    refine (number_any w g rb l false HR.out hl).mono ?_
    rintro e w' ⟨rfl, rfl⟩
    rw [HA.out]
    go_wp2_with fail
    refine (take_yes w g rb l n HR.out hn2 hl).mono ?_
    rintro e w1 ⟨A1, rfl, _, hr1, hc1, _⟩
    have HR1 := Lib.hid hr1
    clear hr1
    go_wp2_with fail
    refine (take_yes w1 g rb (l.drop n) x HR1.out (by simp; omega) (by simp; omega)).mono ?_
    rintro e w2 ⟨A2, rfl, hi2, hr2, hc2, _⟩
    have e2 := run_str (c := x) (l := (l.drop n).take x) hi2.has
    rw [show ((l.drop n).take x).length = x by simp; omega] at e2
    clear hi2
    go_wp2
    go_ret
    exact ⟨rfl, hr2, hc1.trans hc2 (Moved.refl _ _)⟩
end Go.Proofs.Ytbnjlminjopaaaa
