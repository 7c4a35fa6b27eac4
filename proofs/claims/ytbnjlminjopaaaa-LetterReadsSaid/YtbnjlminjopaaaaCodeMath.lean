/- The plain law of layer 2's numbers: wide ones, short ones, as bytes. No program in sight. -/
namespace Go.Proofs.Ytbnjlminjopaaaa.Code

/-- a wide number: n bytes, the lowest first -/
def wide : Nat → Nat → List UInt8
  | 0, _ => []
  | n + 1, x => UInt8.ofNat x :: wide n (x / 256)
/-- a short number: groups of seven bits, the lowest first; with so many groups at the most -/
def shortF : Nat → Nat → List UInt8
  | 0, x => [UInt8.ofNat x]
  | n + 1, x => if x < 128 then [UInt8.ofNat x] else UInt8.ofNat (x % 128 + 128) :: shortF n (x / 128)
def short (x : Nat) : List UInt8 := shortF 10 x
def shorts (l : List Nat) : List UInt8 := (l.map short).flatten
def text (s : List UInt8) : List UInt8 := short s.length ++ s

theorem wide_length (n x : Nat) : (wide n x).length = n := by
  induction n generalizing x with
  | zero => rfl
  | succ n ih => simp [wide, ih]
theorem shortF_more (n m x : Nat) (hn : x < 128 ^ (n + 1)) (hm : x < 128 ^ (m + 1)) : shortF n x = shortF m x := by
  induction n generalizing m x with
  | zero =>
    cases m with
    | zero => rfl
    | succ m => rw [shortF, shortF, if_pos (by simpa using hn)]
  | succ n ih =>
    cases m with
    | zero => rw [shortF, shortF, if_pos (by simpa using hm)]
    | succ m =>
      rw [shortF, shortF]
      by_cases h : x < 128
      · rw [if_pos h, if_pos h]
      · rw [if_neg h, if_neg h, ih m (x / 128) (by rw [Nat.pow_succ] at hn; omega) (by rw [Nat.pow_succ] at hm; omega)]
theorem pow10 : (18446744073709551616 : Nat) ≤ 128 ^ 10 := by decide
theorem short_small (x : Nat) (h : x < 128) : short x = [UInt8.ofNat x] := by unfold short; rw [shortF, if_pos h]
theorem short_great (x : Nat) (h : 128 ≤ x) (hx : x < 18446744073709551616) : short x = UInt8.ofNat (x % 128 + 128) :: short (x / 128) := by
  have hp := pow10
  unfold short
  rw [shortF, if_neg (by omega), shortF_more 9 10 (x / 128) (by omega) (by rw [Nat.pow_succ]; omega)]
theorem shortF_length (n x : Nat) : 1 ≤ (shortF n x).length ∧ (shortF n x).length ≤ n + 1 := by
  induction n generalizing x with
  | zero => simp [shortF]
  | succ n ih =>
    rw [shortF]
    split
    · simp
    · have := ih (x / 128); simp; omega
theorem short_length (x : Nat) : 1 ≤ (short x).length ∧ (short x).length ≤ 11 := shortF_length 10 x
theorem short_length10 (x : Nat) (hx : x < 18446744073709551616) : (short x).length ≤ 10 := by
  unfold short
  have hp := pow10
  rw [shortF_more 10 9 x (by rw [Nat.pow_succ]; omega) (by omega)]
  exact (shortF_length 9 x).2
end Go.Proofs.Ytbnjlminjopaaaa.Code
