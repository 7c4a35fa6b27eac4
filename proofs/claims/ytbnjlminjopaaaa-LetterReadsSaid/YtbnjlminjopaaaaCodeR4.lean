/- The walks of package code: the named sizes; Raw, Left, Fail, Err, End. -/
import Derived.Test.YtbnjlminjopaaaaCodeR3
namespace Go.Proofs.Ytbnjlminjopaaaa
open Go Go.RowKit
set_option linter.unusedVariables false
set_option maxRecDepth 100000

theorem wideR_any (w : World) (g rb : Nat) (l : List UInt8) (bad : Bool) (n : Nat) (hR : Rdr w g rb l bad) (hn8 : n ≤ 8) (hl : l.length ≤ 1000000000) :
    Calls Try.prog 55 #[.pointer (some ⟨g, 0, none⟩), .int .i64 n] w (Reads w g rb (.int .u64 (rWide l bad n).1) (rWide l bad n).2.1 (rWide l bad n).2.2) := by
  unfold rWide
  by_cases h : bad = true ∨ l.length < n
  · rw [if_pos h]
    exact wideR_no w g rb l bad n hR h hn8
  · rw [if_neg h]
    have hb : bad = false := by cases bad <;> simp_all
    subst hb
    exact wideR_yes w g rb l n hR (by omega) hn8 hl
theorem rWide_lt (l : List UInt8) (bad : Bool) (n : Nat) : (rWide l bad n).1 < 256 ^ n := by
  unfold rWide
  split
  · exact Nat.pow_pos (by omega)
  · have h := Code.leNat_lt (l.take n)
    have h2 : 256 ^ (l.take n).length ≤ 256 ^ n := Nat.pow_le_pow_right (by omega) (by simp; omega)
    exact Nat.lt_of_lt_of_le h h2

set_option maxHeartbeats 400000 in
theorem rU8_any (w : World) (g rb : Nat) (l : List UInt8) (bad : Bool) (hR : Rdr w g rb l bad) (hl : l.length ≤ 1000000000) :
    Calls Try.prog 40 #[.pointer (some ⟨g, 0, none⟩)] w (Reads w g rb (.int .u8 (rWide l bad 1).1) (rWide l bad 1).2.1 (rWide l bad 1).2.2) := by
  have HR := Lib.hid hR
  clear hR
  have hlt := rWide_lt l bad 1
  rw [show (256 : Nat) ^ 1 = 256 by decide] at hlt
  have HLT := Lib.hid hlt
  go_enter Try.func40, Try.ntmps40
  go_wp2_with fail
  refine (wideR_any w g rb l bad 1 HR.out (by omega) hl).mono ?_
  rintro e w1 ⟨rfl, hr1, hc1⟩
  generalize rWide l bad 1 = q at *
  obtain ⟨x, l', b'⟩ := q
  simp only at *
  have hx : x < 256 := hlt
  go_wp2
  go_ret
  exact ⟨rfl, hr1, hc1⟩

set_option maxHeartbeats 400000 in
theorem wU8_any (w : World) (base g : Nat) (r : Option Nat) (l : List UInt8) (x : Nat) (hW : Wtr w base g r l) (hb : base ≤ w.heap.size) (hx : x < 256) (hl : l.length ≤ 1000000000) :
    Calls Try.prog 29 #[.pointer (some ⟨g, 0, none⟩), .int .u8 x] w (Writes w base g r (l ++ Code.wide 1 x)) := by
  have HW := Lib.hid hW
  have HX := Lib.hid hx
  clear hW
  go_enter Try.func29, Try.ntmps29
  go_wp2_with fail
  refine (wide_any w base g r l x 1 HW.out hb (by have := HX.out; omega) (by omega) (by omega)).mono ?_
  rintro e w1 ⟨rfl, r1, hw1, hc1, hm1⟩
  go_wp2_with fail
  go_end0
  exact ⟨rfl, r1, hw1, hc1, hm1⟩

/-- Raw -/
def rRaw (l : List UInt8) (bad : Bool) (z : Int) : List UInt8 × List UInt8 × Bool := if bad = true ∨ z < 0 ∨ (l.length : Int) < z then ([], l, true) else (l.take z.toNat, l.drop z.toNat, false)

set_option maxHeartbeats 400000 in
theorem left_any (w : World) (g rb : Nat) (l : List UInt8) (bad : Bool) (hR : Rdr w g rb l bad) :
    Calls Try.prog 59 #[.pointer (some ⟨g, 0, none⟩)] w fun e w' => e = .returned (.int .i64 l.length) ∧ w = w' := by
  obtain ⟨A, c, h0, h1, f0, f1, hc, hm, hin⟩ := hR.parts
  clear hR hin
  go_enter Try.func59, Try.ntmps59
  go_wp2
  go_ret
  exact ⟨rfl, rfl⟩
set_option maxHeartbeats 400000 in
theorem fail_any (w : World) (g rb : Nat) (l : List UInt8) (bad : Bool) (hR : Rdr w g rb l bad) :
    Calls Try.prog 45 #[.pointer (some ⟨g, 0, none⟩)] w (Reads w g rb (.tuple #[]) l true) := by
  have HR := Lib.hid hR
  obtain ⟨A, c, h0, h1, f0, f1, hc, hm, hin⟩ := hR.parts
  clear hR hin
  go_enter Try.func45, Try.ntmps45
  go_wp2
  go_end0
  exact ⟨rfl, HR.out.setBad true, chg_set _ _ _ _⟩
/-- a fault's number -/
def errOf (bad : Bool) : Int := if bad then 3 else 0
set_option maxHeartbeats 400000 in
theorem err_any (w : World) (g rb : Nat) (l : List UInt8) (bad : Bool) (hR : Rdr w g rb l bad) :
    Calls Try.prog 56 #[.pointer (some ⟨g, 0, none⟩)] w fun e w' => e = .returned (.int .i64 (errOf bad)) ∧ w = w' := by
  obtain ⟨A, c, h0, h1, f0, f1, hc, hm, hin⟩ := hR.parts
  clear hR hin
  cases bad
  all_goals
    go_enter Try.func56, Try.ntmps56
    go_wp2
    go_ret
    exact ⟨rfl, rfl⟩
/-- End -/
def rEnd (l : List UInt8) (bad : Bool) : Bool := bad || decide (0 < l.length)
set_option maxHeartbeats 400000 in
theorem end_any (w : World) (g rb : Nat) (l : List UInt8) (bad : Bool) (hR : Rdr w g rb l bad) :
    Calls Try.prog 46 #[.pointer (some ⟨g, 0, none⟩)] w (Reads w g rb (.int .i64 (errOf (rEnd l bad))) l (rEnd l bad)) := by
  have HR := Lib.hid hR
  clear hR
  by_cases h : 0 < l.length
  · have HE := Lib.hid (show rEnd l bad = true by unfold rEnd; simp [h])
    rw [HE.out]
    go_enter Try.func46, Try.ntmps46
    go_wp2_with fail
    refine (left_any w g rb l bad HR.out).mono ?_
    rintro e w' ⟨rfl, rfl⟩
    go_wp2_with fail
    refine (fail_any w g rb l bad HR.out).mono ?_
    rintro e w1 ⟨rfl, hr1, hc1⟩
    have HR1 := Lib.hid hr1
    have HC1 := Lib.hid hc1
    clear hr1 hc1
    go_wp2_with fail
    refine (err_any w1 g rb l true HR1.out).mono ?_
    rintro e w2 ⟨rfl, rfl⟩
    go_wp2
    go_ret
    exact ⟨rfl, HR1.out, HC1.out⟩
  · have HE := Lib.hid (show rEnd l bad = bad by unfold rEnd; simp [h])
    rw [HE.out]
    go_enter Try.func46, Try.ntmps46
    go_wp2_with fail
    refine (left_any w g rb l bad HR.out).mono ?_
    rintro e w' ⟨rfl, rfl⟩
    go_wp2_with fail
    refine (err_any w g rb l bad HR.out).mono ?_
    rintro e w2 ⟨rfl, rfl⟩
    go_wp2
    go_ret
    exact ⟨rfl, HR.out, Chg.refl _ _ _⟩
end Go.Proofs.Ytbnjlminjopaaaa
