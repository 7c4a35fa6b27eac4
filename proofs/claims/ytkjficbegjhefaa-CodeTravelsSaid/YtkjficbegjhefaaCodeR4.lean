/- The walks of package code: the named sizes; Raw, Left, Fail, Err, End. -/
import Derived.Test.YtkjficbegjhefaaCodeR3
namespace Go.Proofs.Ytkjficbegjhefaa
open Go Go.RowKit
set_option linter.unusedVariables false
set_option maxRecDepth 100000

theorem wideR_any (w : World) (g rb : Nat) (l : List UInt8) (bad : Bool) (n : Nat) (hR : Rdr w g rb l bad) (hn8 : n ≤ 8) (hl : l.length ≤ 1000000000) :
    Calls Try.prog 53 #[.pointer (some ⟨g, 0, none⟩), .int .i64 n] w (Reads w g rb (.int .u64 (rWide l bad n).1) (rWide l bad n).2.1 (rWide l bad n).2.2) := by
  unfold rWide
  by_cases h : bad = true ∨ l.length < n
  · rw [if_pos h]
    exact wideR_no w g rb l bad n hR h hn8
  · rw [if_neg h]
    have hb : bad = false := by cases bad <;> simp_all
    subst hb
    exact wideR_yes w g rb l n hR (by omega) hn8 hl
theorem rWide_lt (l : List UInt8) (bad : Bool) (n : Nat) : (rWide l bad n).1 < 256 ^ n := by
  unfold rWide
  split
  · exact Nat.pow_pos (by omega)
  · have h := Code.leNat_lt (l.take n)
    have h2 : 256 ^ (l.take n).length ≤ 256 ^ n := Nat.pow_le_pow_right (by omega) (by simp; omega)
    exact Nat.lt_of_lt_of_le h h2

set_option maxHeartbeats 400000 in
theorem rU8_any (w : World) (g rb : Nat) (l : List UInt8) (bad : Bool) (hR : Rdr w g rb l bad) (hl : l.length ≤ 1000000000) :
    Calls Try.prog 36 #[.pointer (some ⟨g, 0, none⟩)] w (Reads w g rb (.int .u8 (rWide l bad 1).1) (rWide l bad 1).2.1 (rWide l bad 1).2.2) := by
  have HR := Lib.hid hR
  clear hR
  have hlt := rWide_lt l bad 1
  rw [show (256 : Nat) ^ 1 = 256 by decide] at hlt
  have HLT := Lib.hid hlt
  go_enter Try.func36, Try.ntmps36
  go_wp2_with fail
  refine (wideR_any w g rb l bad 1 HR.out (by omega) hl).mono ?_
  rintro e w1 ⟨rfl, hr1, hc1⟩
  generalize rWide l bad 1 = q at *
  obtain ⟨x, l', b'⟩ := q
  simp only at *
  have hx : x < 256 := hlt
  go_wp2
  go_ret
  exact ⟨rfl, hr1, hc1⟩

set_option maxHeartbeats 400000 in
theorem rU16_any (w : World) (g rb : Nat) (l : List UInt8) (bad : Bool) (hR : Rdr w g rb l bad) (hl : l.length ≤ 1000000000) :
    Calls Try.prog 44 #[.pointer (some ⟨g, 0, none⟩)] w (Reads w g rb (.int .u16 (rWide l bad 2).1) (rWide l bad 2).2.1 (rWide l bad 2).2.2) := by
  have HR := Lib.hid hR
  clear hR
  have hlt := rWide_lt l bad 2
  rw [show (256 : Nat) ^ 2 = 65536 by decide] at hlt
  have HLT := Lib.hid hlt
  go_enter Try.func44, Try.ntmps44
  go_wp2_with fail
  refine (wideR_any w g rb l bad 2 HR.out (by omega) hl).mono ?_
  rintro e w1 ⟨rfl, hr1, hc1⟩
  generalize rWide l bad 2 = q at *
  obtain ⟨x, l', b'⟩ := q
  simp only at *
  have hx : x < 65536 := hlt
  go_wp2
  go_ret
  exact ⟨rfl, hr1, hc1⟩

set_option maxHeartbeats 400000 in
theorem rU32_any (w : World) (g rb : Nat) (l : List UInt8) (bad : Bool) (hR : Rdr w g rb l bad) (hl : l.length ≤ 1000000000) :
    Calls Try.prog 45 #[.pointer (some ⟨g, 0, none⟩)] w (Reads w g rb (.int .u32 (rWide l bad 4).1) (rWide l bad 4).2.1 (rWide l bad 4).2.2) := by
  have HR := Lib.hid hR
  clear hR
  have hlt := rWide_lt l bad 4
  rw [show (256 : Nat) ^ 4 = 4294967296 by decide] at hlt
  have HLT := Lib.hid hlt
  go_enter Try.func45, Try.ntmps45
  go_wp2_with fail
  refine (wideR_any w g rb l bad 4 HR.out (by omega) hl).mono ?_
  rintro e w1 ⟨rfl, hr1, hc1⟩
  generalize rWide l bad 4 = q at *
  obtain ⟨x, l', b'⟩ := q
  simp only at *
  have hx : x < 4294967296 := hlt
  go_wp2
  go_ret
  exact ⟨rfl, hr1, hc1⟩

set_option maxHeartbeats 400000 in
theorem rU64_any (w : World) (g rb : Nat) (l : List UInt8) (bad : Bool) (hR : Rdr w g rb l bad) (hl : l.length ≤ 1000000000) :
    Calls Try.prog 46 #[.pointer (some ⟨g, 0, none⟩)] w (Reads w g rb (.int .u64 (rWide l bad 8).1) (rWide l bad 8).2.1 (rWide l bad 8).2.2) := by
  have HR := Lib.hid hR
  clear hR
  have hlt := rWide_lt l bad 8
  rw [show (256 : Nat) ^ 8 = 18446744073709551616 by decide] at hlt
  have HLT := Lib.hid hlt
  go_enter Try.func46, Try.ntmps46
  go_wp2_with fail
  refine (wideR_any w g rb l bad 8 HR.out (by omega) hl).mono ?_
  rintro e w1 ⟨rfl, hr1, hc1⟩
  generalize rWide l bad 8 = q at *
  obtain ⟨x, l', b'⟩ := q
  simp only at *
  clear hlt
  go_wp2
  go_ret
  exact ⟨rfl, hr1, hc1⟩

set_option maxHeartbeats 400000 in
theorem wU8_any (w : World) (base g : Nat) (r : Option Nat) (l : List UInt8) (x : Nat) (hW : Wtr w base g r l) (hb : base ≤ w.heap.size) (hx : x < 256) (hl : l.length ≤ 1000000000) :
    Calls Try.prog 42 #[.pointer (some ⟨g, 0, none⟩), .int .u8 x] w (Writes w base g r (l ++ Code.wide 1 x)) := by
  have HW := Lib.hid hW
  have HX := Lib.hid hx
  clear hW
  go_enter Try.func42, Try.ntmps42
  go_wp2_with fail
  refine (wide_any w base g r l x 1 HW.out hb (by have := HX.out; omega) (by omega) (by omega)).mono ?_
  rintro e w1 ⟨rfl, r1, hw1, hc1, hm1⟩
  go_wp2_with fail
  go_end0
  exact ⟨rfl, r1, hw1, hc1, hm1⟩

set_option maxHeartbeats 400000 in
theorem wU16_any (w : World) (base g : Nat) (r : Option Nat) (l : List UInt8) (x : Nat) (hW : Wtr w base g r l) (hb : base ≤ w.heap.size) (hx : x < 65536) (hl : l.length ≤ 1000000000) :
    Calls Try.prog 35 #[.pointer (some ⟨g, 0, none⟩), .int .u16 x] w (Writes w base g r (l ++ Code.wide 2 x)) := by
  have HW := Lib.hid hW
  have HX := Lib.hid hx
  clear hW
  go_enter Try.func35, Try.ntmps35
  go_wp2_with fail
  refine (wide_any w base g r l x 2 HW.out hb (by have := HX.out; omega) (by omega) (by omega)).mono ?_
  rintro e w1 ⟨rfl, r1, hw1, hc1, hm1⟩
  go_wp2_with fail
  go_end0
  exact ⟨rfl, r1, hw1, hc1, hm1⟩

set_option maxHeartbeats 400000 in
theorem wU32_any (w : World) (base g : Nat) (r : Option Nat) (l : List UInt8) (x : Nat) (hW : Wtr w base g r l) (hb : base ≤ w.heap.size) (hx : x < 4294967296) (hl : l.length ≤ 1000000000) :
    Calls Try.prog 43 #[.pointer (some ⟨g, 0, none⟩), .int .u32 x] w (Writes w base g r (l ++ Code.wide 4 x)) := by
  have HW := Lib.hid hW
  have HX := Lib.hid hx
  clear hW
  go_enter Try.func43, Try.ntmps43
  go_wp2_with fail
  refine (wide_any w base g r l x 4 HW.out hb (by have := HX.out; omega) (by omega) (by omega)).mono ?_
  rintro e w1 ⟨rfl, r1, hw1, hc1, hm1⟩
  go_wp2_with fail
  go_end0
  exact ⟨rfl, r1, hw1, hc1, hm1⟩

set_option maxHeartbeats 400000 in
theorem wU64_any (w : World) (base g : Nat) (r : Option Nat) (l : List UInt8) (x : Nat) (hW : Wtr w base g r l) (hb : base ≤ w.heap.size) (hx : x < 18446744073709551616) (hl : l.length ≤ 1000000000) :
    Calls Try.prog 34 #[.pointer (some ⟨g, 0, none⟩), .int .u64 x] w (Writes w base g r (l ++ Code.wide 8 x)) := by
  have HW := Lib.hid hW
  have HX := Lib.hid hx
  clear hW hx
  go_enter Try.func34, Try.ntmps34
  go_wp2_with fail
  refine (wide_any w base g r l x 8 HW.out hb (by have := HX.out; omega) (by omega) (by omega)).mono ?_
  rintro e w1 ⟨rfl, r1, hw1, hc1, hm1⟩
  go_wp2_with fail
  go_end0
  exact ⟨rfl, r1, hw1, hc1, hm1⟩

/-- Raw -/
def rRaw (l : List UInt8) (bad : Bool) (z : Int) : List UInt8 × List UInt8 × Bool := if bad = true ∨ z < 0 ∨ (l.length : Int) < z then ([], l, true) else (l.take z.toNat, l.drop z.toNat, false)

set_option maxHeartbeats 400000 in
theorem rawR_any (w : World) (g rb : Nat) (l : List UInt8) (bad : Bool) (z : Int) (hR : Rdr w g rb l bad) (hl : l.length ≤ 1000000000) :
    Calls Try.prog 32 #[.pointer (some ⟨g, 0, none⟩), .int .i64 z] w fun e w' => ∃ v, Own w' w.heap.size v (rRaw l bad z).1 ∧ Reads w g rb v (rRaw l bad z).2.1 (rRaw l bad z).2.2 e w' := by
  have HR := Lib.hid hR
  clear hR
  unfold rRaw
  by_cases h : bad = true ∨ z < 0 ∨ (l.length : Int) < z
  · rw [if_pos h]
    have H := Lib.hid h
    clear h
    go_enter Try.func32, Try.ntmps32
    go_wp2_with fail
    refine (take_no w g rb l bad z HR.out H.out).mono ?_
    rintro e w1 ⟨rfl, hr1, hc1, hs1⟩
    have HR1 := Lib.hid hr1
    have HC1 := Lib.hid hc1
    have HS1 := Lib.hid hs1
    clear hr1 hc1 hs1
    go_wp2_with fail
    refine (clone_any w1 0 none 0 [] Has.nil (by omega) (by simp)).mono ?_
    rintro e w2 ⟨v2, rfl, ho2, hb2⟩
    go_wp2
    go_ret
    rw [HS1.out] at ho2
    exact ⟨v2, ho2, rfl, HR1.out.grow hb2, ⟨hb2.os.trans HC1.out.os, hb2.tape.trans HC1.out.tape, hb2.output.trans HC1.out.output, Nat.le_trans HC1.out.size hb2.size, fun k hk h1 h2 => by
      rw [hb2.block k (Nat.lt_of_lt_of_le hk HC1.out.size), HC1.out.block k hk h1 h2]⟩⟩
  · rw [if_neg h]
    have hb : bad = false := by cases bad <;> simp_all
    subst hb
    obtain ⟨n, rfl⟩ : ∃ n : Nat, z = (n : Int) := ⟨z.toNat, by omega⟩
    rw [Int.toNat_natCast]
    have hn : n ≤ l.length := by omega
    clear h
    go_enter Try.func32, Try.ntmps32
    go_wp2_with fail
    refine (take_yes w g rb l n HR.out hn hl).mono ?_
    rintro e w1 ⟨A1, rfl, hi1, hr1, hc1, hs1⟩
    have HR1 := Lib.hid hr1
    have HC1 := Lib.hid hc1
    have HS1 := Lib.hid hs1
    have HTL := Lib.hid (show (l.take n).length = n by simp; omega)
    have HCl := clone_any w1 w1.heap.size A1 n (l.take n) hi1.has (Nat.le_refl _) (by rw [HTL.out]; omega)
    rw [HTL.out] at HCl
    have HCL := Lib.hid HCl
    clear hr1 hc1 hs1 hi1 HCl
    go_wp2_with fail
    refine HCL.out.mono ?_
    rintro e w2 ⟨v2, rfl, ho2, hb2⟩
    go_wp2
    go_ret
    rw [HS1.out] at ho2
    exact ⟨v2, ho2, rfl, HR1.out.grow hb2, ⟨hb2.os.trans HC1.out.os, hb2.tape.trans HC1.out.tape, hb2.output.trans HC1.out.output, Nat.le_trans HC1.out.size hb2.size, fun k hk h1 h2 => by
      rw [hb2.block k (Nat.lt_of_lt_of_le hk HC1.out.size), HC1.out.block k hk h1 h2]⟩⟩

set_option maxHeartbeats 400000 in
theorem left_any (w : World) (g rb : Nat) (l : List UInt8) (bad : Bool) (hR : Rdr w g rb l bad) :
    Calls Try.prog 22 #[.pointer (some ⟨g, 0, none⟩)] w fun e w' => e = .returned (.int .i64 l.length) ∧ w = w' := by
  obtain ⟨A, c, h0, h1, f0, f1, hc, hm, hin⟩ := hR.parts
  clear hR hin
  go_enter Try.func22, Try.ntmps22
  go_wp2
  go_ret
  exact ⟨rfl, rfl⟩
set_option maxHeartbeats 400000 in
theorem fail_any (w : World) (g rb : Nat) (l : List UInt8) (bad : Bool) (hR : Rdr w g rb l bad) :
    Calls Try.prog 47 #[.pointer (some ⟨g, 0, none⟩)] w (Reads w g rb (.tuple #[]) l true) := by
  have HR := Lib.hid hR
  obtain ⟨A, c, h0, h1, f0, f1, hc, hm, hin⟩ := hR.parts
  clear hR hin
  go_enter Try.func47, Try.ntmps47
  go_wp2
  go_end0
  exact ⟨rfl, HR.out.setBad true, chg_set _ _ _ _⟩
/-- a fault's number -/
def errOf (bad : Bool) : Int := if bad then 3 else 0
set_option maxHeartbeats 400000 in
theorem err_any (w : World) (g rb : Nat) (l : List UInt8) (bad : Bool) (hR : Rdr w g rb l bad) :
    Calls Try.prog 21 #[.pointer (some ⟨g, 0, none⟩)] w fun e w' => e = .returned (.int .i64 (errOf bad)) ∧ w = w' := by
  obtain ⟨A, c, h0, h1, f0, f1, hc, hm, hin⟩ := hR.parts
  clear hR hin
  cases bad
  all_goals
    go_enter Try.func21, Try.ntmps21
    go_wp2
    go_ret
    exact ⟨rfl, rfl⟩
/-- End -/
def rEnd (l : List UInt8) (bad : Bool) : Bool := bad || decide (0 < l.length)
set_option maxHeartbeats 400000 in
theorem end_any (w : World) (g rb : Nat) (l : List UInt8) (bad : Bool) (hR : Rdr w g rb l bad) :
    Calls Try.prog 33 #[.pointer (some ⟨g, 0, none⟩)] w (Reads w g rb (.int .i64 (errOf (rEnd l bad))) l (rEnd l bad)) := by
  have HR := Lib.hid hR
  clear hR
  by_cases h : 0 < l.length
  · have HE := Lib.hid (show rEnd l bad = true by unfold rEnd; simp [h])
    rw [HE.out]
    go_enter Try.func33, Try.ntmps33
    go_wp2_with fail
    refine (left_any w g rb l bad HR.out).mono ?_
    rintro e w' ⟨rfl, rfl⟩
    go_wp2_with fail
    refine (fail_any w g rb l bad HR.out).mono ?_
    rintro e w1 ⟨rfl, hr1, hc1⟩
    have HR1 := Lib.hid hr1
    have HC1 := Lib.hid hc1
    clear hr1 hc1
    go_wp2_with fail
    refine (err_any w1 g rb l true HR1.out).mono ?_
    rintro e w2 ⟨rfl, rfl⟩
    go_wp2
    go_ret
    exact ⟨rfl, HR1.out, HC1.out⟩
  · have HE := Lib.hid (show rEnd l bad = bad by unfold rEnd; simp [h])
    rw [HE.out]
    go_enter Try.func33, Try.ntmps33
    go_wp2_with fail
    refine (left_any w g rb l bad HR.out).mono ?_
    rintro e w' ⟨rfl, rfl⟩
    go_wp2_with fail
    refine (err_any w g rb l bad HR.out).mono ?_
    rintro e w2 ⟨rfl, rfl⟩
    go_wp2
    go_ret
    exact ⟨rfl, HR.out, Chg.refl _ _ _⟩
end Go.Proofs.Ytkjficbegjhefaa
