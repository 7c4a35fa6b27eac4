/- The plain law of CodeTravels. -/
import Derived.Test.YtkjficbegjhefaaCodeBreaks
namespace Go.Proofs.Ytkjficbegjhefaa
open Go Go.RowKit
set_option linter.unusedVariables false
set_option maxRecDepth 100000

def partX (xs : List Nat) (i : Nat) : List UInt8 := match xs[i]? with
  | some x => Code.wide (2 ^ (i % 4)) x ++ Code.short x
  | none => []
def partT (ts : List (List UInt8)) (i : Nat) : List UInt8 := match ts[i]? with
  | some t => Code.text t ++ t
  | none => []
def fromK (xs : List Nat) (ts : List (List UInt8)) (k n : Nat) : List UInt8 := ((List.range' k n).map fun i => partX xs i ++ partT ts i).flatten
theorem fromK_zero (xs : List Nat) (ts : List (List UInt8)) (k : Nat) : fromK xs ts k 0 = [] := rfl
theorem fromK_succ (xs : List Nat) (ts : List (List UInt8)) (k n : Nat) : fromK xs ts k (n + 1) = partX xs k ++ (partT ts k ++ fromK xs ts (k + 1) n) := by
  unfold fromK
  rw [List.range'_succ]
  simp
theorem fromK_snoc (xs : List Nat) (ts : List (List UInt8)) (k : Nat) : fromK xs ts 0 (k + 1) = fromK xs ts 0 k ++ partX xs k ++ partT ts k := by
  unfold fromK
  rw [List.range'_concat]
  simp
theorem partX_some {xs : List Nat} {i : Nat} (h : i < xs.length) : partX xs i = Code.wide (2 ^ (i % 4)) xs[i] ++ Code.short xs[i] := by unfold partX; rw [List.getElem?_eq_getElem h]
theorem partX_none {xs : List Nat} {i : Nat} (h : ¬ i < xs.length) : partX xs i = [] := by unfold partX; rw [List.getElem?_eq_none (by omega)]
theorem partT_some {ts : List (List UInt8)} {i : Nat} (h : i < ts.length) : partT ts i = Code.text ts[i] ++ ts[i] := by unfold partT; rw [List.getElem?_eq_getElem h]
theorem partT_none {ts : List (List UInt8)} {i : Nat} (h : ¬ i < ts.length) : partT ts i = [] := by unfold partT; rw [List.getElem?_eq_none (by omega)]
theorem partX_length (xs : List Nat) (i : Nat) : (partX xs i).length ≤ 19 := by
  unfold partX
  split
  · rename_i x _
    have h1 := (Code.short_length x).2
    have h2 : 2 ^ (i % 4) ≤ 8 := by
      have : 2 ^ (i % 4) ≤ 2 ^ 3 := Nat.pow_le_pow_right (by omega) (by omega)
      omega
    rw [List.length_append, Code.wide_length]
    omega
  · simp
theorem partT_length (ts : List (List UInt8)) (i : Nat) (h : ∀ t, ts[i]? = some t → t.length ≤ 10000) : (partT ts i).length ≤ 20011 := by
  unfold partT
  split
  · rename_i t ht
    have h1 := (Code.short_length t.length).2
    have h2 := h t ht
    unfold Code.text
    rw [List.length_append, List.length_append]
    omega
  · simp
theorem fromK_length (xs : List Nat) (ts : List (List UInt8)) (k n : Nat) (h : ∀ i t, i < k + n → ts[i]? = some t → t.length ≤ 10000) : (fromK xs ts k n).length ≤ 20030 * n := by
  induction n generalizing k with
  | zero => simp [fromK]
  | succ n ih =>
    have h1 := ih (k + 1) fun i t hi => h i t (by omega)
    have h2 := partX_length xs k
    have h3 := partT_length ts k fun t => h k t (by omega)
    rw [fromK_succ, List.length_append, List.length_append]
    omega
theorem rWide_put (n x : Nat) (R : List UInt8) : rWide (Code.wide n x ++ R) false n = (x % 256 ^ n, R, false) := by
  have hl := Code.wide_length n x
  unfold rWide
  rw [if_neg (by simp [hl])]
  rw [List.take_append_of_le_length (by omega), List.take_of_length_le (by omega), Code.leNat_wide, List.drop_append, List.drop_eq_nil_of_le (by omega), hl, Nat.sub_self]
  simp
theorem askR_put (s x : Nat) (hs : s < 4) (R : List UInt8) (n : Int) : askR (Code.wide (2 ^ s) x ++ R) false s n = ((x % 256 ^ (2 ^ s), []), R, false) := by
  match s, hs with
  | 0, _ => simp only [askR, if_true]; rw [show (2 : Nat) ^ 0 = 1 from rfl, rWide_put]
  | 1, _ => simp only [askR, if_true, show ¬ (1 = 0) by omega, if_false]; rw [show (2 : Nat) ^ 1 = 2 from rfl, rWide_put]
  | 2, _ => simp only [askR, if_true, show ¬ (2 = 0) by omega, show ¬ (2 = 1) by omega, if_false]; rw [show (2 : Nat) ^ 2 = 4 from rfl, rWide_put]
  | 3, _ => simp only [askR, if_true, show ¬ (3 = 0) by omega, show ¬ (3 = 1) by omega, show ¬ (3 = 2) by omega, if_false]; rw [show (2 : Nat) ^ 3 = 8 from rfl, rWide_put]
theorem rUint_put (x : Nat) (hx : x < 18446744073709551616) (R : List UInt8) : rUint (Code.short x ++ R) false = (x, R, false) := by
  unfold rUint
  rw [Code.num_short x hx R]
  simp
theorem rText_put (t R : List UInt8) (ht : t.length < 18446744073709551616) : rText (Code.text t ++ R) false (t.length : Int) = (t, R, false) := by
  have h := Code.num_short t.length ht (t ++ R)
  have e : Code.text t ++ R = Code.short t.length ++ (t ++ R) := by unfold Code.text; rw [List.append_assoc]
  rw [e, rText_yes _ _ t.length (Code.short t.length).length h (by rw [List.length_append, List.length_append]; omega)]
  simp
theorem rRaw_put (t R : List UInt8) : rRaw (t ++ R) false (t.length : Int) = (t, R, false) := by
  unfold rRaw
  rw [if_neg (by simp; omega), Int.toNat_natCast]
  simp
theorem isB_of {w : World} {v : Value} {l : List UInt8} (h : ∃ A c, v = .slice A l.length c ∧ l.length ≤ c ∧ c ≤ maxLen ∧ Has w w.heap.size A (us l)) : IsB l v w := by
  obtain ⟨A, c, e, _, _, h⟩ := h
  exact ⟨A, c, e, h⟩
end Go.Proofs.Ytkjficbegjhefaa
