/- The document's Reader out of bytes of one's own; appends onto an empty literal. -/
import Derived.Test.YtkjficbegjhefaaAskM
import Derived.Test.YtkjficbegjhefaaAskS
namespace Go.Proofs.Ytkjficbegjhefaa
open Go Go.RowKit
set_option linter.unusedVariables false
set_option maxRecDepth 100000
theorem own_row_in {w : World} {v : Value} {l : List UInt8} (h : Own w 0 v l) : ∃ rb A c, v = .slice A l.length c ∧ l.length ≤ c ∧ c ≤ maxLen ∧ HasIn w rb A (us l) ∧ (0 < l.length → v.ownBlock = some rb) := by
  rcases h.2 with ⟨rfl, hn⟩ | ⟨g, cap, cur, rfl, hg, hh, hnc, hm, hs, ht⟩
  · refine ⟨0, none, 0, by rw [hn], by omega, by unfold maxLen; omega, ?_, fun h0 => by omega⟩
    rw [List.eq_nil_of_length_eq_zero hn]; exact HasIn.nil
  · refine ⟨g, some ⟨g, 0, none⟩, cap, rfl, hnc, hm, fun j u hu => ⟨0, rfl, ?_⟩, fun _ => rfl⟩
    have h0 := h
    rw [Nat.zero_add, cell_of_row w g j cur _ (0, 0) hh]
    rw [← ht, List.getElem?_take] at hu
    split at hu
    · simpa using hu
    · cases hu
theorem sep_mkRf {w0 w : World} {Ps : List SP} {i : Nat} {v : Value} {l : List UInt8} (h : Sep w0 w Ps) (hi : Ps[i]? = some (By v l)) (bad : Bool) : Sep w0 (w.alloc (.cells #[v, .bool bad] 56)) (Ps.set i (Rf w.heap.size l bad)) := by
  obtain ⟨F, ⟨ho, hF⟩, hL, hlt, hk⟩ := h.upd hi
  obtain ⟨rb, A, c, rfl, h1, h2, h3, h4⟩ := own_row_in ho
  refine hk _ _ (fun k => k = w.heap.size ∨ (k = rb ∧ 0 < l.length)) ⟨rfl, rfl, rfl, by simp, fun k hk _ => Below.heap_alloc w _ k hk, fun k hk => ?_⟩ ⟨rb, ⟨A, c, heap_alloc_new w _, h1, h2, h3.keep fun hl => Below.heap_alloc w _ rb ?_⟩, fun k => Iff.rfl⟩ (Rf.loc _ _ _)
  · rcases hk with rfl | ⟨rfl, e⟩
    · exact .inr (Nat.le_refl _)
    · exact .inl ((hF _).2 (h4 e))
  · rw [us_length] at hl
    exact (ho.lt rb (h4 hl)).2
/-- a zero one of the document's, and of the program's -/
theorem sep_zeroRf {w0 w : World} {Ps : List SP} (h : Sep w0 w Ps) (bad : Bool) : Sep w0 (w.alloc (.cells #[.slice none 0 0, .bool bad] 56)) (Ps ++ [Rf w.heap.size [] bad]) :=
  h.add (F := fun k => k = w.heap.size ∨ (k = 0 ∧ 0 < ([] : List UInt8).length)) ((Below.refl _ _).alloc (Nat.le_refl _) _) ⟨0, ⟨none, 0, heap_alloc_new w _, Nat.le_refl _, by unfold maxLen; omega, HasIn.nil⟩, fun k => Iff.rfl⟩ (Rf.loc _ _ _) fun k hk => by
    rcases hk with rfl | ⟨_, e⟩
    · exact Nat.le_refl _
    · simp at e
theorem sep_zeroRd {w0 w : World} {Ps : List SP} (h : Sep w0 w Ps) (bad : Bool) : Sep w0 (w.alloc (.cells #[.slice none 0 0, .bool bad] 69)) (Ps ++ [Rd w.heap.size [] bad]) :=
  h.add (F := fun k => k = w.heap.size ∨ (k = 0 ∧ 0 < ([] : List UInt8).length)) ((Below.refl _ _).alloc (Nat.le_refl _) _) ⟨0, ⟨none, 0, heap_alloc_new w _, Nat.le_refl _, by unfold maxLen; omega, HasIn.nil⟩, fun k => Iff.rfl⟩ (Rd.loc _ _ _) fun k hk => by
    rcases hk with rfl | ⟨_, e⟩
    · exact Nat.le_refl _
    · simp at e
/-- new bytes, appended to an empty literal -/
theorem sep_new {w0 w w' : World} {Ps : List SP} {v : Value} {l : List UInt8} (h : Sep w0 w Ps) (ho : Own w' w.heap.size v l) (hb : Below w.heap.size w w') : Sep w0 w' (Ps ++ [By v l]) :=
  h.add (F := fun k => v.ownBlock = some k) hb ⟨own_mono ho (Nat.zero_le _), fun k => Iff.rfl⟩ (By.loc _ _) fun k hk => (ho.lt k hk).1
end Go.Proofs.Ytkjficbegjhefaa
