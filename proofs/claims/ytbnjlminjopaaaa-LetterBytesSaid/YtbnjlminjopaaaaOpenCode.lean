/- Rows of wide numbers, opened as naturals. -/
import Derived.Test.YtbnjlminjopaaaaOpen
import Derived.Test.YtbnjlminjopaaaaCodeW3
namespace Go.Proofs.Ytbnjlminjopaaaa
open Go Go.RowKit Go.ChangeShapes Go.WideShapes Go.ChangeAt Go.Deep
set_option linter.unusedVariables false
set_option maxRecDepth 100000
section
variable {H : Type} {enc : TypeId × Value → H} {P : Program} {w : World}
theorem u64_nat {z : Int} (h : (Lit.int .u64 z).wf = true) : ∃ y : Nat, z = (y : Int) ∧ y < 18446744073709551616 := by
  have := bounds_u64 h
  exact ⟨z.toNat, by omega, by omega⟩
theorem u64s_of {zs : List Int} (hwf : ∀ n ∈ zs, (Lit.int .u64 n).wf = true) : u64s (zs.map Int.toNat) = zs.map (Value.int .u64) ∧ ∀ x ∈ zs.map Int.toNat, x < 18446744073709551616 := by
  refine ⟨?_, fun x hx => ?_⟩
  · unfold u64s
    rw [List.map_map]
    apply List.map_congr_left
    intro n hn
    have := bounds_u64 (hwf n hn)
    simp only [Function.comp, Value.int.injEq, true_and]
    omega
  · obtain ⟨n, hn, rfl⟩ := List.mem_map.1 hx
    have := bounds_u64 (hwf n hn)
    omega
theorem arg_u64s {r : Reach} {b0 : Nat} {t e : TypeId} {v : Value} {d : DataW H} {p : List MemPlace} (ht : P.underlying t = some (.slice e)) (he : P.underlying e = some (.int .u64)) (hc : P.cellsOf e = 1) (hby : P.bytesOf e = 8)
    (hv : Value.okWide P w r b0 t v) (h : DataW.Trod enc P w 0 (fun _ => true) true t v d p) (hw : ∀ n ∈ d.weights P t, n ≤ reachBytes) :
    ∃ (A : Option Addr) (c : Nat) (l : List Nat), v = .slice A l.length c ∧ l.length ≤ c ∧ c ≤ maxLen ∧ l.length ≤ 140737488355328 ∧ (∀ x ∈ l, x < 18446744073709551616) ∧ Has w w.heap.size A (u64s l) := by
  obtain ⟨A, c, zs, hv2, h1, h2, h3, hwf, hh⟩ := arg_nums ht he hc hby (by omega) hv h hw
  obtain ⟨e1, e2⟩ := u64s_of hwf
  exact ⟨A, c, zs.map Int.toNat, by simpa using hv2, by simpa using h1, h2, by simpa using h3, e2, by rw [e1]; exact hh⟩
end
end Go.Proofs.Ytbnjlminjopaaaa
