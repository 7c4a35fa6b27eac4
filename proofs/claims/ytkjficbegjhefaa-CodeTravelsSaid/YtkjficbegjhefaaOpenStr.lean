/- Strings and rows of strings, opened as lists of bytes. -/
import Derived.Test.YtkjficbegjhefaaOpen
namespace Go.Proofs.Ytkjficbegjhefaa
open Go Go.RowKit Go.ChangeShapes Go.WideShapes Go.ChangeAt Go.Deep
set_option linter.unusedVariables false
set_option maxRecDepth 100000
/-- strings as values -/
def strsOf (ts : List (List UInt8)) : List Value := ts.map fun t => .string ⟨t.toArray⟩
theorem strsOf_length (ts : List (List UInt8)) : (strsOf ts).length = ts.length := by simp [strsOf]
theorem str_mk (s : ByteArray) : s = ⟨s.data.toList.toArray⟩ := by cases s; simp
section
variable {H : Type} {enc : TypeId × Value → H} {P : Program} {w : World}
theorem arg_strs {r : Reach} {b0 : Nat} {t s : TypeId} {v : Value} {d : DataW H} {p : List MemPlace} (ht : P.underlying t = some (.slice s)) (hs : P.underlying s = some .string) (hcs : P.cellsOf s = 1) (hbs : P.bytesOf s = 16)
    (hv : Value.okWide P w r b0 t v) (h : DataW.Trod enc P w 0 (fun _ => true) true t v d p) (hw : ∀ n ∈ d.weights P t, n ≤ reachBytes) :
    ∃ (A : Option Addr) (c : Nat) (ts : List (List UInt8)), v = .slice A ts.length c ∧ ts.length ≤ c ∧ c ≤ maxLen ∧ ts.length ≤ 140737488355328 ∧ (∀ x ∈ ts, x.length ≤ 140737488355328) ∧ Has w w.heap.size A (strsOf ts) := by
  obtain ⟨a, n, c, rfl⟩ := okWide_slice ht hv
  obtain ⟨fuel, hf⟩ := h
  obtain ⟨A, c, vs, h1, h2, h3, h4, h5, h6⟩ := open_ones ht hcs hbs (by omega) (by simpa [Value.cells] using hf) hw
  obtain ⟨ls, hl, hp⟩ := choose_list vs.length (fun i (l : List UInt8) => vs[i]? = some (.string ⟨l.toArray⟩) ∧ l.length ≤ 140737488355328) (fun i hi => by
    obtain ⟨n, x, hx, hwx⟩ := h6 i _ (List.getElem?_eq_getElem hi)
    obtain ⟨s0, e1, e2, e3⟩ := DataW.trod_string hs hx
    refine ⟨s0.data.toList, ?_, ?_⟩
    · rw [List.getElem?_eq_getElem hi]
      simp only [List.cons.injEq, and_true] at e1
      rw [e1, ← str_mk s0]
    · have := hwx s0.data.toList.length (by rw [e2]; simp [DataW.weights])
      unfold reachBytes at this
      omega)
  have hvs : vs = strsOf ls := by
    apply List.ext_getElem?
    intro i
    rcases Nat.lt_or_ge i vs.length with hi | hi
    · have := (hp i (ls[i]'(by omega)) (List.getElem?_eq_getElem (by omega))).1
      rw [this]
      simp [strsOf, hl, hi]
    · rw [List.getElem?_eq_none hi, List.getElem?_eq_none (by rw [strsOf_length]; omega)]
  refine ⟨A, c, ls, by rw [h1, hl], by omega, h3, by omega, fun x hx => ?_, by rw [← hvs]; exact h5⟩
  obtain ⟨i, hi, rfl⟩ := List.getElem_of_mem hx
  exact (hp i _ (List.getElem?_eq_getElem hi)).2
theorem arg_str {r : Reach} {b0 : Nat} {s : TypeId} {v : Value} {d : DataW H} {p : List MemPlace} (hs : P.underlying s = some .string)
    (hv : Value.okWide P w r b0 s v) (h : DataW.Trod enc P w 0 (fun _ => true) true s v d p) (hw : ∀ n ∈ d.weights P s, n ≤ reachBytes) :
    ∃ (l : List UInt8), v = .string ⟨l.toArray⟩ ∧ l.length ≤ 140737488355328 := by
  obtain ⟨s0, rfl, rfl, rfl, e3⟩ := Go.ChangeMaps.open_string hs hv h
  refine ⟨s0.data.toList, by rw [← str_mk s0], ?_⟩
  have := hw s0.data.toList.length (by simp [DataW.weights])
  unfold reachBytes at this
  omega
end
end Go.Proofs.Ytkjficbegjhefaa
