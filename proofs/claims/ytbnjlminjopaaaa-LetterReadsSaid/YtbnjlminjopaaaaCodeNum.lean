/- The plain law of reading short and wide numbers. No program in sight. -/
import Derived.Test.YtbnjlminjopaaaaCodeMath
namespace Go.Proofs.Ytbnjlminjopaaaa.Code

/-- the short number at the front, from its i-th group on: its worth, and how many bytes -/
def numF : Nat → List UInt8 → Option (Nat × Nat)
  | _, [] => none
  | i, c :: r => if i = 9 ∧ 1 < c.toNat then none else if c.toNat < 128 then (if c.toNat = 0 ∧ 0 < i then none else some (c.toNat, 1)) else
      match numF (i + 1) r with
      | none => none
      | some (y, n) => some (c.toNat % 128 + 128 * y, n + 1)
def num (l : List UInt8) : Option (Nat × Nat) := numF 0 l
/-- the worth of bytes, the lowest first -/
def leNat : List UInt8 → Nat
  | [] => 0
  | c :: r => c.toNat + 256 * leNat r

theorem numF_len : ∀ (l : List UInt8) (i x n : Nat), numF i l = some (x, n) → 1 ≤ n ∧ n ≤ l.length
  | [], _, _, _, h => by simp [numF] at h
  | c :: r, i, x, n, h => by
    rw [numF] at h
    split at h
    · cases h
    · split at h
      · split at h
        · cases h
        · simp at h; simp; omega
      · split at h
        · cases h
        · rename_i y m hm
          have := numF_len r (i + 1) y m hm
          simp at h
          simp
          omega
theorem num_len {l : List UInt8} {x n : Nat} (h : num l = some (x, n)) : 1 ≤ n ∧ n ≤ l.length := numF_len l 0 x n h

/-- what is read is what is written -/
theorem numF_shortF : ∀ (m i x : Nat) (r : List UInt8), i + m ≤ 9 → x < 128 ^ m * 2 → (i + m = 9 ∨ x < 128 ^ m) → (0 < i → 0 < x) → numF i (shortF m x ++ r) = some (x, (shortF m x).length)
  | 0, i, x, r, hi, hx, h9, h0 => by
    have hx2 : x < 2 := by simpa using hx
    have hb : (UInt8.ofNat x).toNat = x := by rw [UInt8.toNat_ofNat']; omega
    rw [shortF, List.singleton_append, numF, hb, if_neg (by omega), if_pos (by omega), if_neg (by omega)]
    rfl
  | m + 1, i, x, r, hi, hx, h9, h0 => by
    rw [shortF]
    by_cases hs : x < 128
    · have hb : (UInt8.ofNat x).toNat = x := by rw [UInt8.toNat_ofNat']; omega
      rw [if_pos hs, List.singleton_append, numF, hb, if_neg (by omega), if_pos hs, if_neg (by omega)]
      rfl
    · have hb : (UInt8.ofNat (x % 128 + 128)).toNat = x % 128 + 128 := by rw [UInt8.toNat_ofNat']; omega
      rw [if_neg hs, List.cons_append, numF, hb, if_neg (by omega), if_neg (by omega)]
      rw [Nat.pow_succ] at hx h9
      rw [numF_shortF m (i + 1) (x / 128) r (by omega) (by omega) (by omega) (by omega)]
      simp only [List.length_cons, Option.some.injEq, Prod.mk.injEq, and_true]
      omega
theorem num_short (x : Nat) (hx : x < 18446744073709551616) (r : List UInt8) : num (short x ++ r) = some (x, (short x).length) := by
  have e : short x = shortF 9 x := by
    have hp := pow10
    unfold short
    exact shortF_more 10 9 x (by rw [Nat.pow_succ]; omega) (by omega)
  rw [e]
  have h9 : (128 : Nat) ^ 9 * 2 = 18446744073709551616 := by decide
  exact numF_shortF 9 0 x r (by omega) (by omega) (by omega) (by omega)
/-- what was read is written so -/
theorem numF_form : ∀ (l : List UInt8) (i x n : Nat), i ≤ 9 → numF i l = some (x, n) → x < 128 ^ (9 - i) * 2 ∧ (0 < i → 0 < x) ∧ l.take n = shortF (9 - i) x
  | [], _, _, _, _, h => by simp [numF] at h
  | c :: r, i, x, n, hi, h => by
    have hc := c.toNat_lt
    rw [numF] at h
    split at h
    · cases h
    · rename_i h91
      split at h
      · rename_i hlt
        split at h
        · cases h
        · rename_i h0
          simp only [Option.some.injEq, Prod.mk.injEq] at h
          obtain ⟨rfl, rfl⟩ := h
          have hcc : UInt8.ofNat c.toNat = c := by simp
          by_cases h9 : i = 9
          · subst h9
            refine ⟨by simp; omega, fun _ => by omega, ?_⟩
            simp [shortF]
          · obtain ⟨m, hm⟩ : ∃ m, 9 - i = m + 1 := ⟨9 - i - 1, by omega⟩
            have hp : 1 ≤ 128 ^ m := Nat.pow_pos (by omega)
            refine ⟨by rw [hm, Nat.pow_succ]; omega, fun _ => by omega, ?_⟩
            rw [hm, shortF, if_pos hlt]
            simp
      · rename_i hge
        split at h
        · cases h
        · rename_i y k hk
          simp only [Option.some.injEq, Prod.mk.injEq] at h
          obtain ⟨rfl, rfl⟩ := h
          have hi8 : i + 1 ≤ 9 := by omega
          obtain ⟨h1, h2, h3⟩ := numF_form r (i + 1) y k hi8 hk
          obtain ⟨m, hm⟩ : ∃ m, 9 - i = m + 1 := ⟨9 - i - 1, by omega⟩
          have hm' : 9 - (i + 1) = m := by omega
          rw [hm'] at h1 h3
          have hy := h2 (by omega)
          refine ⟨by rw [hm, Nat.pow_succ]; omega, fun _ => by omega, ?_⟩
          rw [hm, shortF, if_neg (by omega), List.take_succ_cons, h3]
          congr 1
          · apply UInt8.toNat_inj.1
            rw [UInt8.toNat_ofNat']
            omega
          · congr 1
            omega
theorem num_form {l : List UInt8} {x n : Nat} (h : num l = some (x, n)) : x < 18446744073709551616 ∧ l.take n = short x ∧ n = (short x).length := by
  obtain ⟨h1, _, h3⟩ := numF_form l 0 x n (by omega) h
  have hx : x < 18446744073709551616 := by
    have : (128 : Nat) ^ 9 * 2 = 18446744073709551616 := by decide
    simp only [Nat.sub_zero] at h1
    omega
  have e : short x = shortF 9 x := by
    have hp := pow10
    unfold short
    exact shortF_more 10 9 x (by rw [Nat.pow_succ]; omega) (by omega)
  refine ⟨hx, by rw [e]; simpa using h3, ?_⟩
  have hl := congrArg List.length h3
  have hn := num_len h
  rw [List.length_take] at hl
  rw [e]
  simp only [Nat.sub_zero] at hl
  omega

theorem leNat_lt (l : List UInt8) : leNat l < 256 ^ l.length := by
  induction l with
  | nil => simp [leNat]
  | cons c r ih =>
    have := c.toNat_lt
    rw [leNat, List.length_cons, Nat.pow_succ]
    omega
theorem leNat_wide (n x : Nat) : leNat (wide n x) = x % 256 ^ n := by
  induction n generalizing x with
  | zero => simp [wide, leNat, Nat.mod_one]
  | succ n ih =>
    have e : 256 ^ (n + 1) = 256 * 256 ^ n := by rw [Nat.pow_succ, Nat.mul_comm]
    rw [wide, leNat, ih, UInt8.toNat_ofNat', e, Nat.mod_mul]
theorem wide_leNat (l : List UInt8) : wide l.length (leNat l) = l := by
  induction l with
  | nil => rfl
  | cons c r ih =>
    have hc := c.toNat_lt
    rw [List.length_cons, leNat, wide]
    congr 1
    · apply UInt8.toNat_inj.1
      rw [UInt8.toNat_ofNat']
      omega
    · rw [show (c.toNat + 256 * leNat r) / 256 = leNat r by omega]
      exact ih
theorem leNat_append (l m : List UInt8) : leNat (l ++ m) = leNat l + 256 ^ l.length * leNat m := by
  induction l with
  | nil => simp [leNat]
  | cons c r ih =>
    rw [List.cons_append, leNat, leNat, ih, List.length_cons, Nat.pow_succ, Nat.mul_add, Nat.mul_comm (256 ^ r.length) 256, Nat.mul_assoc, Nat.add_assoc]
end Go.Proofs.Ytbnjlminjopaaaa.Code
