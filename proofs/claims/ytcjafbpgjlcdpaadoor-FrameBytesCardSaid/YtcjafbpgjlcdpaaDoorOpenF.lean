/- A frame as an argument, opened. -/
import Derived.Test.YtcjafbpgjlcdpaaDoorOpen
import Derived.Test.YtcjafbpgjlcdpaaDoorFrm
import Derived.Lib.SmallJoins
namespace Go.Proofs.YtcjafbpgjlcdpaaDoor
open Go Go.RowKit Go.ChangeShapes Go.WideShapes Go.ChangeAt Go.Deep Go.Joins
set_option linter.unusedVariables false
set_option maxRecDepth 100000
section
variable {H : Type} {enc : TypeId × Value → H} {P : Program} {w : World}
/-- a struct of fields of one cell each, however many -/
theorem open_aggs {t : TypeId} {fs : Array Field} {cs : List Value} {d : DataW H} {p : List MemPlace} {fuel : Nat} (hst : P.underlying t = some (.struct fs)) (hone : oneCellFields P fs = true) (hl : cs.length = fs.size)
    (hf : DataW.trod enc P w 0 (fun _ => true) true fuel t cs = some (d, p)) :
    ∃ (xs : List (DataW H × List MemPlace)) (n : Nat), d = .agg (xs.map (·.1)) ∧ xs.length = fs.size ∧ ∀ (j : Nat) (f : Field) (v : Value) (x : DataW H × List MemPlace), fs[j]? = some f → cs[j]? = some v → xs[j]? = some x → DataW.trod enc P w 0 (fun _ => true) true n f.type [v] = some x := by
  obtain ⟨xs, n, _, hx, hl2, hlen, hf2⟩ := DataW.trod_struct hst hf
  injection hx with hx1 hx2
  refine ⟨xs, n, hx1, hlen, fun j f v x hj hv hx => ?_⟩
  obtain ⟨o0, k0⟩ := hone_of hone j f hj
  have h := hf2 j f hj
  rw [o0, k0] at h
  obtain ⟨hjl, hv⟩ := List.getElem?_eq_some_iff.1 hv
  rw [List.drop_eq_getElem_cons hjl, List.take_succ_cons, List.take_zero, hv] at h
  rw [h, hx]
theorem arg_frame {r : Reach} {b0 : Nat} {t i u s e : TypeId} {f0 f1 f2 f3 f4 f5 f6 f7 f8 f9 : Field} {v : Value} {d : DataW H} {p : List MemPlace} (hst : P.underlying t = some (.struct #[f0, f1, f2, f3, f4, f5, f6, f7, f8, f9])) (hone : oneCellFields P #[f0, f1, f2, f3, f4, f5, f6, f7, f8, f9] = true) (hC : P.cellsOf t = 10)
    (ht : ([f0, f1, f2, f3, f4, f5, f6, f7, f8, f9].map (·.type)) = [i, i, i, u, u, u, u, u, u, s])
    (hi : P.underlying i = some (.int .i64)) (hu : P.underlying u = some (.int .u64)) (hs : P.underlying s = some (.slice e)) (he : P.underlying e = some (.int .u8)) (hc : P.cellsOf e = 1) (hby : P.bytesOf e = 1)
    (hv : Value.okWide P w r b0 t v) (h : DataW.Trod enc P w 0 (fun _ => true) true t v d p) (hw : ∀ n ∈ d.weights P t, n ≤ reachBytes) :
    ∃ (kind fr to : Int) (inc conn pinc pconn ack seq : Nat) (A : Option Addr) (c : Nat) (body : List UInt8), v = .agg ((Fr.mk kind fr to inc conn pinc pconn ack seq body).cells A c) ∧
      (inc < 18446744073709551616 ∧ conn < 18446744073709551616 ∧ pinc < 18446744073709551616 ∧ pconn < 18446744073709551616 ∧ ack < 18446744073709551616 ∧ seq < 18446744073709551616) ∧ body.length ≤ c ∧ c ≤ maxLen ∧ body.length ≤ 140737488355328 ∧ Has w w.heap.size A (us body) := by
  obtain ⟨cs, rfl, hsz⟩ := okWide_struct hst hv
  obtain ⟨cs⟩ := cs
  obtain ⟨fuel, hf⟩ := h
  have hl : cs.length = 10 := by simpa using hsz.trans hC
  simp only [List.map_cons, List.map_nil, List.cons.injEq, and_true] at ht
  obtain ⟨t0, t1, t2, t3, t4, t5, t6, t7, t8, t9⟩ := ht
  have hf' : DataW.trod enc P w 0 (fun _ => true) true fuel t cs = some (d, p) := by simpa [Value.cells] using hf
  obtain ⟨xs, n, rfl, hxl, hx⟩ := open_aggs hst hone (by simpa using hl) hf'
  simp only [List.size_toArray, List.length_cons, List.length_nil, Nat.reduceAdd] at hxl
  match cs, hl, xs, hxl with
  | [v0, v1, v2, v3, v4, v5, v6, v7, v8, v9], _, [x0, x1, x2, x3, x4, x5, x6, x7, x8, x9], _ =>
    have g0 := hx 0 f0 v0 x0 rfl rfl rfl
    rw [t0] at g0
    have g1 := hx 1 f1 v1 x1 rfl rfl rfl
    rw [t1] at g1
    have g2 := hx 2 f2 v2 x2 rfl rfl rfl
    rw [t2] at g2
    have g3 := hx 3 f3 v3 x3 rfl rfl rfl
    rw [t3] at g3
    have g4 := hx 4 f4 v4 x4 rfl rfl rfl
    rw [t4] at g4
    have g5 := hx 5 f5 v5 x5 rfl rfl rfl
    rw [t5] at g5
    have g6 := hx 6 f6 v6 x6 rfl rfl rfl
    rw [t6] at g6
    have g7 := hx 7 f7 v7 x7 rfl rfl rfl
    rw [t7] at g7
    have g8 := hx 8 f8 v8 x8 rfl rfl rfl
    rw [t8] at g8
    have g9 := hx 9 f9 v9 x9 rfl rfl rfl
    rw [t9] at g9
    obtain ⟨z0, hz0, _, w0⟩ := DataW.trod_int hi g0
    obtain rfl : v0 = .int .i64 z0 := by simpa using hz0
    obtain ⟨z1, hz1, _, w1⟩ := DataW.trod_int hi g1
    obtain rfl : v1 = .int .i64 z1 := by simpa using hz1
    obtain ⟨z2, hz2, _, w2⟩ := DataW.trod_int hi g2
    obtain rfl : v2 = .int .i64 z2 := by simpa using hz2
    obtain ⟨z3, hz3, _, w3⟩ := DataW.trod_int hu g3
    obtain rfl : v3 = .int .u64 z3 := by simpa using hz3
    obtain ⟨y3, rfl, b3⟩ : ∃ y : Nat, z3 = (y : Int) ∧ y < 18446744073709551616 := by
      have := bounds_u64 w3
      exact ⟨z3.toNat, by omega, by omega⟩
    obtain ⟨z4, hz4, _, w4⟩ := DataW.trod_int hu g4
    obtain rfl : v4 = .int .u64 z4 := by simpa using hz4
    obtain ⟨y4, rfl, b4⟩ : ∃ y : Nat, z4 = (y : Int) ∧ y < 18446744073709551616 := by
      have := bounds_u64 w4
      exact ⟨z4.toNat, by omega, by omega⟩
    obtain ⟨z5, hz5, _, w5⟩ := DataW.trod_int hu g5
    obtain rfl : v5 = .int .u64 z5 := by simpa using hz5
    obtain ⟨y5, rfl, b5⟩ : ∃ y : Nat, z5 = (y : Int) ∧ y < 18446744073709551616 := by
      have := bounds_u64 w5
      exact ⟨z5.toNat, by omega, by omega⟩
    obtain ⟨z6, hz6, _, w6⟩ := DataW.trod_int hu g6
    obtain rfl : v6 = .int .u64 z6 := by simpa using hz6
    obtain ⟨y6, rfl, b6⟩ : ∃ y : Nat, z6 = (y : Int) ∧ y < 18446744073709551616 := by
      have := bounds_u64 w6
      exact ⟨z6.toNat, by omega, by omega⟩
    obtain ⟨z7, hz7, _, w7⟩ := DataW.trod_int hu g7
    obtain rfl : v7 = .int .u64 z7 := by simpa using hz7
    obtain ⟨y7, rfl, b7⟩ : ∃ y : Nat, z7 = (y : Int) ∧ y < 18446744073709551616 := by
      have := bounds_u64 w7
      exact ⟨z7.toNat, by omega, by omega⟩
    obtain ⟨z8, hz8, _, w8⟩ := DataW.trod_int hu g8
    obtain rfl : v8 = .int .u64 z8 := by simpa using hz8
    obtain ⟨y8, rfl, b8⟩ : ∃ y : Nat, z8 = (y : Int) ∧ y < 18446744073709551616 := by
      have := bounds_u64 w8
      exact ⟨z8.toNat, by omega, by omega⟩
    obtain ⟨A, c, l, rfl, q1, q2, q3, q4⟩ := open_bytes hs he hc hby (show DataW.trod enc P w 0 (fun _ => true) true n s [v9] = some (x9.1, x9.2) from g9) (fun k hk => hw k (by
      simp only [DataW.weights, hst, List.map_cons, List.map_nil, DataW.weightsEach, List.mem_append, t9]
      exact .inr (.inr (.inr (.inr (.inr (.inr (.inr (.inr (.inr (.inl hk)))))))))))
    exact ⟨z0, z1, z2, y3, y4, y5, y6, y7, y8, A, c, l, rfl, ⟨b3, b4, b5, b6, b7, b8⟩, q1, q2, q3, q4⟩
end
end Go.Proofs.YtcjafbpgjlcdpaaDoor
