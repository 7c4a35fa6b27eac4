/- CodeUnlike: the plain law. -/
import Derived.Test.YtcjafbpgjlcdpaaDoorCodeNum
import Derived.Test.YtcjafbpgjlcdpaaDoorCodeW3
namespace Go.Proofs.YtcjafbpgjlcdpaaDoor
open Go Go.RowKit
set_option linter.unusedVariables false
set_option maxRecDepth 100000
theorem shorts_append (l m : List Nat) : Code.shorts (l ++ m) = Code.shorts l ++ Code.shorts m := by simp [Code.shorts]
theorem shorts_cons (x : Nat) (m : List Nat) : Code.shorts (x :: m) = Code.short x ++ Code.shorts m := by simp [Code.shorts]
theorem short_ne_nil (x : Nat) : 1 ≤ (Code.short x).length := (Code.short_length x).1
/-- no number's bytes are a beginning of another's -/
theorem short_free {x y : Nat} (hx : x < 18446744073709551616) (hy : y < 18446744073709551616) {a b : List UInt8} (h : Code.short x ++ a = Code.short y ++ b) : x = y := by
  have h1 := Code.num_short x hx a
  rw [h, Code.num_short y hy b] at h1
  simp only [Option.some.injEq, Prod.mk.injEq] at h1
  exact h1.1.symm
theorem codeUnlike_law (xs ys zs : List Nat) (hx : ∀ x ∈ xs, x < 18446744073709551616) (hy : ∀ x ∈ ys, x < 18446744073709551616) (hz : xs.take zs.length = zs) (ht : xs.take zs.length = ys.take zs.length) (hk1 : zs.length ≤ xs.length) (hk2 : zs.length ≤ ys.length) (he : zs.length = xs.length ∨ zs.length = ys.length ∨ xs[zs.length]? ≠ ys[zs.length]?) :
    ∃ a b, Code.shorts xs = Code.shorts zs ++ a ∧ Code.shorts ys = Code.shorts zs ++ b ∧ (zs.length < xs.length → zs.length < ys.length → ∀ n, n = min (Code.shorts xs).length (Code.shorts ys).length → (Code.shorts xs).take n ≠ (Code.shorts ys).take n) ∧ ((xs.length = zs.length ∧ ys.length = zs.length) ↔ Code.shorts xs = Code.shorts ys) := by
  have e1 : xs = zs ++ xs.drop zs.length := by conv => lhs; rw [← List.take_append_drop zs.length xs, hz]
  have e2 : ys = zs ++ ys.drop zs.length := by conv => lhs; rw [← List.take_append_drop zs.length ys, ← ht, hz]
  have s1 : Code.shorts xs = Code.shorts zs ++ Code.shorts (xs.drop zs.length) := by conv => lhs; rw [e1, shorts_append]
  have s2 : Code.shorts ys = Code.shorts zs ++ Code.shorts (ys.drop zs.length) := by conv => lhs; rw [e2, shorts_append]
  have key : ∀ (u v : List UInt8), zs.length < xs.length → zs.length < ys.length → Code.shorts xs ++ u ≠ Code.shorts ys ++ v := by
    intro u v h1 h2 h
    rw [s1, s2, List.append_assoc, List.append_assoc] at h
    have h := List.append_cancel_left h
    rw [List.drop_eq_getElem_cons h1, List.drop_eq_getElem_cons h2, shorts_cons, shorts_cons, List.append_assoc, List.append_assoc] at h
    have h := short_free (hx _ (List.getElem_mem h1)) (hy _ (List.getElem_mem h2)) h
    rcases he with e | e | e
    · omega
    · omega
    · apply e
      rw [List.getElem?_eq_getElem h1, List.getElem?_eq_getElem h2, h]
  have pos : ∀ (l : List Nat), 0 < l.length → 0 < (Code.shorts l).length := by
    intro l hl
    cases l with
    | nil => simp at hl
    | cons x l => rw [shorts_cons, List.length_append]; have := short_ne_nil x; omega
  refine ⟨_, _, s1, s2, fun h1 h2 n hn h => ?_, ?_⟩
  · rcases Nat.le_total (Code.shorts xs).length (Code.shorts ys).length with hl | hl
    · rw [Nat.min_eq_left hl] at hn
      refine key ((Code.shorts ys).drop n) [] h1 h2 ?_
      rw [List.append_nil]
      conv => rhs; rw [← List.take_append_drop n (Code.shorts ys), ← h, hn, List.take_length]
      rw [hn]
    · rw [Nat.min_eq_right hl] at hn
      refine key [] ((Code.shorts xs).drop n) h1 h2 ?_
      rw [List.append_nil]
      conv => lhs; rw [← List.take_append_drop n (Code.shorts xs), h, hn, List.take_length]
      rw [hn]
  · constructor
    · rintro ⟨h1, h2⟩
      rw [s1, s2, List.drop_eq_nil_of_le (by omega), List.drop_eq_nil_of_le (by omega)]
    · intro h
      by_cases h1 : zs.length < xs.length
      · exfalso
        by_cases h2 : zs.length < ys.length
        · exact key [] [] h1 h2 (by rw [h])
        · rw [s1, s2, List.drop_eq_nil_of_le (show ys.length ≤ zs.length by omega)] at h
          have := congrArg List.length h
          have hp := pos (xs.drop zs.length) (by rw [List.length_drop]; omega)
          rw [List.length_append, List.length_append] at this
          have e0 : (Code.shorts []).length = 0 := rfl
          omega
      · by_cases h2 : zs.length < ys.length
        · exfalso
          rw [s1, s2, List.drop_eq_nil_of_le (show xs.length ≤ zs.length by omega)] at h
          have := congrArg List.length h
          have hp := pos (ys.drop zs.length) (by rw [List.length_drop]; omega)
          rw [List.length_append, List.length_append] at this
          have e0 : (Code.shorts []).length = 0 := rfl
          omega
        · omega
theorem ext_upto (l : List UInt8) (k : Nat) : (ByteArray.mk l.toArray).extract 0 k = ⟨(l.take k).toArray⟩ := by
  apply ByteArray.ext
  simp
theorem str_upto (l : List UInt8) (k : Nat) : ((ByteArray.mk l.toArray).extract 0 k).toList = l.take k := by
  rw [ext_upto]
  simp
/-- s[:n] of a string -/
theorem run_upto (l : List UInt8) (n : Nat) (h : n ≤ l.length) (W : World) : (Instr.slice 9 (.string ⟨l.toArray⟩) none (some (.int .i64 (n : Int))) none).run Tryd.prog W = .ok (.string ⟨(l.take n).toArray⟩) W := by
  have hs : (⟨l.toArray⟩ : ByteArray).size = l.length := size_str l
  rw [run_slice_string_to_if (P := Tryd.prog) W 9 ⟨l.toArray⟩ .i64 (n : Int) Tryd.underlying9]
  rw [if_pos ⟨by omega, by rw [hs]; omega⟩]
  simp [ext_upto]
end Go.Proofs.YtcjafbpgjlcdpaaDoor
