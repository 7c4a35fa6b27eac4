/- Things that lie apart: one of them to the front. No program in sight. -/
import Derived.Test.YtngegjboenfmeaaSepCe
namespace Go.Proofs.Ytngegjboenfmeaa
open Go Go.RowKit
set_option linter.unusedVariables false

theorem Sep.toFront {w0 w : World} {Ps : List SP} (h : Sep w0 w Ps) (n : Nat) {P : SP} (hn : Ps[n]? = some P) : Sep w0 w (P :: Ps.eraseIdx n) := by
  obtain ⟨hb, Fs, hl, h1, h2⟩ := h
  obtain ⟨hlt, _⟩ := List.getElem?_eq_some_iff.1 hn
  obtain ⟨F, hF⟩ : ∃ F, Fs[n]? = some F := ⟨_, List.getElem?_eq_getElem (by omega)⟩
  refine ⟨hb, F :: Fs.eraseIdx n, by simp [List.length_eraseIdx, hl], ?_, ?_⟩
  · intro i Q G hQ hG
    cases i with
    | zero =>
      simp only [List.getElem?_cons_zero, Option.some.injEq] at hQ hG
      subst hQ hG
      exact h1 n P F hn hF
    | succ i =>
      simp only [List.getElem?_cons_succ, List.getElem?_eraseIdx] at hQ hG
      by_cases hi : i < n
      · rw [if_pos hi] at hQ hG
        exact h1 i Q G hQ hG
      · rw [if_neg hi] at hQ hG
        exact h1 (i + 1) Q G hQ hG
  · intro i j G G' hij hG hG'
    cases i with
    | zero =>
      cases j with
      | zero => exact (hij rfl).elim
      | succ j =>
        simp only [List.getElem?_cons_zero, List.getElem?_cons_succ, List.getElem?_eraseIdx, Option.some.injEq] at hG hG'
        subst hG
        by_cases hj : j < n
        · rw [if_pos hj] at hG'
          exact h2 n j _ _ (by omega) hF hG'
        · rw [if_neg hj] at hG'
          exact h2 n (j + 1) _ _ (by omega) hF hG'
    | succ i =>
      simp only [List.getElem?_cons_succ, List.getElem?_eraseIdx] at hG
      cases j with
      | zero =>
        simp only [List.getElem?_cons_zero, Option.some.injEq] at hG'
        subst hG'
        by_cases hi : i < n
        · rw [if_pos hi] at hG
          exact h2 i n _ _ (by omega) hG hF
        · rw [if_neg hi] at hG
          exact h2 (i + 1) n _ _ (by omega) hG hF
      | succ j =>
        simp only [List.getElem?_cons_succ, List.getElem?_eraseIdx] at hG'
        by_cases hi : i < n <;> by_cases hj : j < n
        · rw [if_pos hi] at hG; rw [if_pos hj] at hG'
          exact h2 i j _ _ (by omega) hG hG'
        · rw [if_pos hi] at hG; rw [if_neg hj] at hG'
          exact h2 i (j + 1) _ _ (by omega) hG hG'
        · rw [if_neg hi] at hG; rw [if_pos hj] at hG'
          exact h2 (i + 1) j _ _ (by omega) hG hG'
        · rw [if_neg hi] at hG; rw [if_neg hj] at hG'
          exact h2 (i + 1) (j + 1) _ _ (by omega) hG hG'
theorem Sep.lastFront {w0 w : World} {Ps : List SP} {P : SP} (h : Sep w0 w (Ps ++ [P])) : Sep w0 w (P :: Ps) := by
  have h2 := h.toFront Ps.length (P := P) (by simp)
  rwa [show (Ps ++ [P]).eraseIdx Ps.length = Ps by rw [List.eraseIdx_append_of_length_le (Nat.le_refl _)]; simp] at h2
theorem sep_ceF {w0 w : World} {Ps : List SP} (h : Sep w0 w Ps) (vs : Array Value) (t : TypeId) : Sep w0 (w.alloc (.cells vs t)) (Ce w.heap.size t vs :: Ps) := (sep_ce h vs t).lastFront
theorem Sep.popF {w0 w : World} {Ps : List SP} {P : SP} (h : Sep w0 w (P :: Ps)) : Sep w0 w Ps := h.drop 0
end Go.Proofs.Ytngegjboenfmeaa
