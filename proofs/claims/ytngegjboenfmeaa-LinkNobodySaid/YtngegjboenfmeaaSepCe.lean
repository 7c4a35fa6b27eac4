/- A block of cells as a thing that lies apart. No program in sight. -/
import Derived.Test.YtngegjboenfmeaaSep
import Derived.Test.YtngegjboenfmeaaBytes
namespace Go.Proofs.Ytngegjboenfmeaa
open Go Go.RowKit
set_option linter.unusedVariables false

/-- a block of cells of one's own -/
def Ce (g : Nat) (t : TypeId) (vs : Array Value) : SP := fun w F => w.heap[g]? = some (.cells vs t (0, 0)) ∧ ∀ k, F k ↔ k = g
theorem lt_of_heap {w : World} {g : Nat} {o : Obj} (h : w.heap[g]? = some o) : g < w.heap.size := by
  rcases Nat.lt_or_ge g w.heap.size with hlt | hge
  · exact hlt
  · rw [Array.getElem?_eq_none hge] at h; cases h
theorem Ce.loc (g : Nat) (t : TypeId) (vs : Array Value) : Loc (Ce g t vs) where
  keep := by
    rintro w w' F ⟨h, hF⟩ hk
    exact ⟨(hk g ((hF g).2 rfl)).trans h, hF⟩
  lt := by
    rintro w F ⟨h, hF⟩ k hk
    rw [(hF k).1 hk]; exact lt_of_heap h
section
variable {w0 w : World} {Ps : List SP}
theorem sep_ce (h : Sep w0 w Ps) (vs : Array Value) (t : TypeId) : Sep w0 (w.alloc (.cells vs t)) (Ps ++ [Ce w.heap.size t vs]) :=
  h.add (F := fun k => k = w.heap.size) ((Below.refl _ _).alloc (Nat.le_refl _) _) ⟨heap_alloc_new w _, fun k => Iff.rfl⟩ (Ce.loc _ _ _) (fun k hk => by omega)
theorem sep_ceHeap {i g : Nat} {t : TypeId} {vs : Array Value} (h : Sep w0 w Ps) (hi : Ps[i]? = some (Ce g t vs)) : w.heap[g]? = some (.cells vs t (0, 0)) := by
  obtain ⟨F, h⟩ := h.get hi
  exact h.1
theorem sep_ceAt {i g : Nat} {t : TypeId} {vs : Array Value} (h : Sep w0 w Ps) (hi : Ps[i]? = some (Ce g t vs)) (j : Nat) {v : Value} (hv : vs[j]? = some v) : w.cell? ⟨g, j, none⟩ = some v := by
  rw [cell_of_row w g j _ _ _ (sep_ceHeap h hi)]; exact hv
theorem sep_ceFrozen {i g : Nat} {t : TypeId} {vs : Array Value} (h : Sep w0 w Ps) (hi : Ps[i]? = some (Ce g t vs)) (j : Nat) : w.frozen? ⟨g, j, none⟩ = false := by
  simp [World.frozen?, sep_ceHeap h hi]
theorem sep_ceSet {i g : Nat} {t : TypeId} {vs : Array Value} (h : Sep w0 w Ps) (hi : Ps[i]? = some (Ce g t vs)) (j : Nat) (v : Value) : Sep w0 (w.setCell ⟨g, j, none⟩ v) (Ps.set i (Ce g t (vs.setIfInBounds j v))) := by
  obtain ⟨F, ⟨h1, hF⟩, hL, hlt, hk⟩ := h.upd hi
  refine hk _ _ (fun k => k = g) ⟨rfl, rfl, rfl, by simp [World.setCell], fun k _ hnF => Below.heap_setCell w _ _ k (fun e => hnF ((hF k).2 e)), fun k hk => .inl ((hF k).2 hk)⟩ ⟨?_, fun k => Iff.rfl⟩ (Ce.loc _ _ _)
  simp [World.setCell, Array.getElem?_modify, h1]
theorem sep_ceLt {i g : Nat} {t : TypeId} {vs : Array Value} (h : Sep w0 w Ps) (hi : Ps[i]? = some (Ce g t vs)) : g < w.heap.size := lt_of_heap (sep_ceHeap h hi)
theorem sep_ceSet' {i g : Nat} {t : TypeId} {vs : Array Value} (h : Sep w0 w Ps) (hi : Ps[i]? = some (Ce g t vs)) (j : Nat) (v : Value) : ∃ vs', Sep w0 (w.setCell ⟨g, j, none⟩ v) (Ps.set i (Ce g t vs')) ∧ (Ps.set i (Ce g t vs'))[i]? = some (Ce g t vs') :=
  ⟨_, sep_ceSet h hi j v, List.getElem?_set_self (List.getElem?_eq_some_iff.1 hi).1⟩
/-- ten cells are written -/
theorem sep_put10 {i g : Nat} {t : TypeId} {vs : Array Value} (h : Sep w0 w Ps) (hi : Ps[i]? = some (Ce g t vs)) (a0 a1 a2 a3 a4 a5 a6 a7 a8 a9 : Value) :
    ∃ vs', Sep w0 ((((((((((w.setCell ⟨g, 0, none⟩ a0).setCell ⟨g, 1, none⟩ a1).setCell ⟨g, 2, none⟩ a2).setCell ⟨g, 3, none⟩ a3).setCell ⟨g, 4, none⟩ a4).setCell ⟨g, 5, none⟩ a5).setCell ⟨g, 6, none⟩ a6).setCell ⟨g, 7, none⟩ a7).setCell ⟨g, 8, none⟩ a8).setCell ⟨g, 9, none⟩ a9) (Ps.set i (Ce g t vs')) := by
  obtain ⟨_, h, hi⟩ := sep_ceSet' h hi 0 a0
  obtain ⟨_, h, hi⟩ := sep_ceSet' h hi 1 a1
  obtain ⟨_, h, hi⟩ := sep_ceSet' h hi 2 a2
  obtain ⟨_, h, hi⟩ := sep_ceSet' h hi 3 a3
  obtain ⟨_, h, hi⟩ := sep_ceSet' h hi 4 a4
  obtain ⟨_, h, hi⟩ := sep_ceSet' h hi 5 a5
  obtain ⟨_, h, hi⟩ := sep_ceSet' h hi 6 a6
  obtain ⟨_, h, hi⟩ := sep_ceSet' h hi 7 a7
  obtain ⟨_, h, hi⟩ := sep_ceSet' h hi 8 a8
  obtain ⟨vs', h, hi⟩ := sep_ceSet' h hi 9 a9
  simp only [List.set_set] at h
  exact ⟨vs', h⟩
/-- ten cells are written, and these they are -/
theorem sep_put10c {i g : Nat} {t : TypeId} {v0 v1 v2 v3 v4 v5 v6 v7 v8 v9 : Value} (h : Sep w0 w Ps) (hi : Ps[i]? = some (Ce g t #[v0, v1, v2, v3, v4, v5, v6, v7, v8, v9])) (a0 a1 a2 a3 a4 a5 a6 a7 a8 a9 : Value) :
    Sep w0 ((((((((((w.setCell ⟨g, 0, none⟩ a0).setCell ⟨g, 1, none⟩ a1).setCell ⟨g, 2, none⟩ a2).setCell ⟨g, 3, none⟩ a3).setCell ⟨g, 4, none⟩ a4).setCell ⟨g, 5, none⟩ a5).setCell ⟨g, 6, none⟩ a6).setCell ⟨g, 7, none⟩ a7).setCell ⟨g, 8, none⟩ a8).setCell ⟨g, 9, none⟩ a9) (Ps.set i (Ce g t #[a0, a1, a2, a3, a4, a5, a6, a7, a8, a9])) := by
  have hs : ∀ vs : Array Value, (Ps.set i (Ce g t vs))[i]? = some (Ce g t vs) := fun vs => List.getElem?_set_self (List.getElem?_eq_some_iff.1 hi).1
  have e0 := sep_ceSet h hi 0 a0
  rw [show (#[v0, v1, v2, v3, v4, v5, v6, v7, v8, v9] : Array Value).setIfInBounds 0 a0 = #[a0, v1, v2, v3, v4, v5, v6, v7, v8, v9] from rfl] at e0
  have e1 := sep_ceSet e0 (hs _) 1 a1
  rw [List.set_set, show (#[a0, v1, v2, v3, v4, v5, v6, v7, v8, v9] : Array Value).setIfInBounds 1 a1 = #[a0, a1, v2, v3, v4, v5, v6, v7, v8, v9] from rfl] at e1
  have e2 := sep_ceSet e1 (hs _) 2 a2
  rw [List.set_set, show (#[a0, a1, v2, v3, v4, v5, v6, v7, v8, v9] : Array Value).setIfInBounds 2 a2 = #[a0, a1, a2, v3, v4, v5, v6, v7, v8, v9] from rfl] at e2
  have e3 := sep_ceSet e2 (hs _) 3 a3
  rw [List.set_set, show (#[a0, a1, a2, v3, v4, v5, v6, v7, v8, v9] : Array Value).setIfInBounds 3 a3 = #[a0, a1, a2, a3, v4, v5, v6, v7, v8, v9] from rfl] at e3
  have e4 := sep_ceSet e3 (hs _) 4 a4
  rw [List.set_set, show (#[a0, a1, a2, a3, v4, v5, v6, v7, v8, v9] : Array Value).setIfInBounds 4 a4 = #[a0, a1, a2, a3, a4, v5, v6, v7, v8, v9] from rfl] at e4
  have e5 := sep_ceSet e4 (hs _) 5 a5
  rw [List.set_set, show (#[a0, a1, a2, a3, a4, v5, v6, v7, v8, v9] : Array Value).setIfInBounds 5 a5 = #[a0, a1, a2, a3, a4, a5, v6, v7, v8, v9] from rfl] at e5
  have e6 := sep_ceSet e5 (hs _) 6 a6
  rw [List.set_set, show (#[a0, a1, a2, a3, a4, a5, v6, v7, v8, v9] : Array Value).setIfInBounds 6 a6 = #[a0, a1, a2, a3, a4, a5, a6, v7, v8, v9] from rfl] at e6
  have e7 := sep_ceSet e6 (hs _) 7 a7
  rw [List.set_set, show (#[a0, a1, a2, a3, a4, a5, a6, v7, v8, v9] : Array Value).setIfInBounds 7 a7 = #[a0, a1, a2, a3, a4, a5, a6, a7, v8, v9] from rfl] at e7
  have e8 := sep_ceSet e7 (hs _) 8 a8
  rw [List.set_set, show (#[a0, a1, a2, a3, a4, a5, a6, a7, v8, v9] : Array Value).setIfInBounds 8 a8 = #[a0, a1, a2, a3, a4, a5, a6, a7, a8, v9] from rfl] at e8
  have e9 := sep_ceSet e8 (hs _) 9 a9
  rw [List.set_set, show (#[a0, a1, a2, a3, a4, a5, a6, a7, a8, v9] : Array Value).setIfInBounds 9 a9 = #[a0, a1, a2, a3, a4, a5, a6, a7, a8, a9] from rfl] at e9
  exact e9
end
end Go.Proofs.Ytngegjboenfmeaa
