/- Struct arguments (a sender, a receiver), opened. -/
import Derived.Test.YtmjlehofjholaaaOpen
import Derived.Test.YtmjlehofjholaaaWinA
import Derived.Lib.SmallJoins
namespace Go.Proofs.Ytmjlehofjholaaa
open Go Go.RowKit Go.ChangeShapes Go.WideShapes Go.ChangeAt Go.Deep Go.Joins
set_option linter.unusedVariables false
set_option maxRecDepth 100000
section
variable {H : Type} {enc : TypeId × Value → H} {P : Program} {w : World}
theorem u64_nat {z : Int} (h : (Lit.int .u64 z).wf = true) : ∃ y : Nat, z = (y : Int) ∧ y < 18446744073709551616 := by
  have := bounds_u64 h
  exact ⟨z.toNat, by omega, by omega⟩
theorem open_byteses {t s e : TypeId} {v : Value} {d : DataW H} {p : List MemPlace} {fuel : Nat} (ht : P.underlying t = some (.slice s)) (hs : P.underlying s = some (.slice e)) (he : P.underlying e = some (.int .u8)) (hcs : P.cellsOf s = 1) (hbs : P.bytesOf s = 24) (hc : P.cellsOf e = 1) (hby : P.bytesOf e = 1)
    (hf : DataW.trod enc P w 0 (fun _ => true) true fuel t [v] = some (d, p)) (hw : ∀ n ∈ d.weights P t, n ≤ reachBytes) :
    ∃ (A : Option Addr) (c : Nat) (ls : List (List UInt8)), v = .slice A ls.length c ∧ ls.length ≤ c ∧ c ≤ maxLen ∧ ls.length ≤ 140737488355328 ∧ Bx w w.heap.size A ls := by
  obtain ⟨A, c, vs, h1, h2, h3, h4, h5, h6⟩ := open_ones ht hcs hbs (by omega) hf hw
  obtain ⟨ls, hl, hp⟩ := choose_list vs.length (fun i l => ∀ u, vs[i]? = some u → Sl w w.heap.size 1 u (us l)) (fun i hi => by
    obtain ⟨n, x, hx, hwx⟩ := h6 i _ (List.getElem?_eq_getElem hi)
    obtain ⟨A', c', l, e1, e2, e3, e4, e5⟩ := open_bytes hs he hc hby hx hwx
    exact ⟨l, fun u hu => by rw [List.getElem?_eq_getElem hi] at hu; injection hu with hu; rw [← hu, e1]; exact ⟨A', l.length, c', rfl, by rw [us_length, Nat.mul_one], e2, e3, e4, e5⟩⟩)
  exact ⟨A, c, ls, by rw [hl]; exact h1, by omega, h3, by omega, vs, h5, hl.symm, fun i u l hu hli => hp i l hli u hu⟩
theorem arg_bxs {r : Reach} {b0 : Nat} {t s e : TypeId} {v : Value} {d : DataW H} {p : List MemPlace} (ht : P.underlying t = some (.slice s)) (hs : P.underlying s = some (.slice e)) (he : P.underlying e = some (.int .u8)) (hcs : P.cellsOf s = 1) (hbs : P.bytesOf s = 24) (hc : P.cellsOf e = 1) (hby : P.bytesOf e = 1)
    (hv : Value.okWide P w r b0 t v) (h : DataW.Trod enc P w 0 (fun _ => true) true t v d p) (hw : ∀ n ∈ d.weights P t, n ≤ reachBytes) :
    ∃ (A : Option Addr) (c : Nat) (ls : List (List UInt8)), v = .slice A ls.length c ∧ ls.length ≤ c ∧ c ≤ maxLen ∧ ls.length ≤ 140737488355328 ∧ Bx w w.heap.size A ls := by
  obtain ⟨a, n, c, rfl⟩ := okWide_slice ht hv
  obtain ⟨fuel, hf⟩ := h
  exact open_byteses ht hs he hcs hbs hc hby (by simpa [Value.cells] using hf) hw
theorem arg_sender {r : Reach} {b0 : Nat} {t n u s e : TypeId} {f0 f1 : Field} {v : Value} {d : DataW H} {p : List MemPlace} (hst : P.underlying t = some (.struct #[f0, f1])) (hone : oneCellFields P #[f0, f1] = true) (hC : P.cellsOf t = 2) (h0 : f0.type = n) (h1 : f1.type = u)
    (hn : P.underlying n = some (.int .u64)) (ht : P.underlying u = some (.slice s)) (hs : P.underlying s = some (.slice e)) (he : P.underlying e = some (.int .u8)) (hcs : P.cellsOf s = 1) (hbs : P.bytesOf s = 24) (hc : P.cellsOf e = 1) (hby : P.bytesOf e = 1)
    (hv : Value.okWide P w r b0 t v) (h : DataW.Trod enc P w 0 (fun _ => true) true t v d p) (hw : ∀ n ∈ d.weights P t, n ≤ reachBytes) :
    ∃ (base : Nat) (A : Option Addr) (c : Nat) (ls : List (List UInt8)), v = .agg #[.int .u64 (base : Int), .slice A ls.length c] ∧ base < 18446744073709551616 ∧ ls.length ≤ c ∧ c ≤ maxLen ∧ ls.length ≤ 140737488355328 ∧ Bx w w.heap.size A ls := by
  obtain ⟨v0, v1, ⟨d0, p0⟩, ⟨d1, p1⟩, m, rfl, rfl, rfl, g0, g1⟩ := open_agg2 hst hone hC hv h
  rw [h0] at g0
  rw [h1] at g1
  obtain ⟨z, hz, _, hwf⟩ := DataW.trod_int hn g0
  obtain rfl : v0 = .int .u64 z := by simpa using hz
  obtain ⟨y, rfl, hy⟩ := u64_nat hwf
  obtain ⟨A, c, ls, rfl, q1, q2, q3, q4⟩ := open_byteses ht hs he hcs hbs hc hby g1 (fun k hk => hw k (by simp only [DataW.weights, hst, List.map_cons, List.map_nil, DataW.weightsEach, List.mem_append, h1]; exact .inr (.inl hk)))
  exact ⟨y, A, c, ls, rfl, hy, q1, q2, q3, q4⟩
theorem arg_receiver {r : Reach} {b0 : Nat} {t n : TypeId} {f0 : Field} {v : Value} {d : DataW H} {p : List MemPlace} (hst : P.underlying t = some (.struct #[f0])) (hone : oneCellFields P #[f0] = true) (hC : P.cellsOf t = 1) (h0 : f0.type = n)
    (hn : P.underlying n = some (.int .u64)) (hv : Value.okWide P w r b0 t v) (h : DataW.Trod enc P w 0 (fun _ => true) true t v d p) :
    ∃ (got : Nat), v = .agg #[.int .u64 (got : Int)] ∧ got < 18446744073709551616 := by
  obtain ⟨cs, rfl, hsz⟩ := okWide_struct hst hv
  obtain ⟨c0, rfl⟩ : ∃ c0, cs = #[c0] := by
    obtain ⟨l⟩ := cs
    match l, hsz.trans hC with
    | [c0], _ => exact ⟨c0, rfl⟩
  obtain ⟨fuel, hf⟩ := h
  obtain ⟨y0, n, hx, hl, g0⟩ := trod_struct1 hst hf
  obtain ⟨o0, k0⟩ := hone_of hone 0 f0 rfl
  rw [h0] at g0 k0
  obtain ⟨z, hz, _, hwf⟩ := DataW.trod_int hn g0
  obtain rfl : c0 = .int .u64 z := by simpa [Value.cells, o0, k0] using hz
  obtain ⟨y, rfl, hy⟩ := u64_nat hwf
  exact ⟨y, rfl, hy⟩
end
end Go.Proofs.Ytmjlehofjholaaa
