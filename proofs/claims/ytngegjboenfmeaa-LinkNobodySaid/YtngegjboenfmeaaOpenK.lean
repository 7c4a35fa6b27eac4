/- A step of layer 12 as an argument, opened. -/
import Derived.Test.YtngegjboenfmeaaOpen
import Derived.Lib.SmallJoins
namespace Go.Proofs.Ytngegjboenfmeaa
open Go Go.RowKit Go.ChangeShapes Go.WideShapes Go.ChangeAt Go.Deep Go.Joins
set_option linter.unusedVariables false
set_option maxRecDepth 100000
section
variable {H : Type} {enc : TypeId × Value → H} {P : Program} {w : World}
theorem u64_natK {z : Int} (h : (Lit.int .u64 z).wf = true) : ∃ y : Nat, z = (y : Int) ∧ y < 18446744073709551616 := by
  have := bounds_u64 h
  exact ⟨z.toNat, by omega, by omega⟩
/-- a frame as ten cells, opened -/
theorem open_frameK {t i u s e : TypeId} {f0 f1 f2 f3 f4 f5 f6 f7 f8 f9 : Field} {v0 v1 v2 v3 v4 v5 v6 v7 v8 v9 : Value} {d : DataW H} {p : List MemPlace} {fuel : Nat} (hst : P.underlying t = some (.struct #[f0, f1, f2, f3, f4, f5, f6, f7, f8, f9]))
    (hof : ([f0, f1, f2, f3, f4, f5, f6, f7, f8, f9].map fun f => (f.offset, f.type, P.cellsOf f.type)) = [(0, i, 1), (1, i, 1), (2, i, 1), (3, u, 1), (4, u, 1), (5, u, 1), (6, u, 1), (7, u, 1), (8, u, 1), (9, s, 1)])
    (hi : P.underlying i = some (.int .i64)) (hu : P.underlying u = some (.int .u64)) (hs : P.underlying s = some (.slice e)) (he : P.underlying e = some (.int .u8)) (hc : P.cellsOf e = 1) (hby : P.bytesOf e = 1)
    (h : DataW.trod enc P w 0 (fun _ => true) true fuel t [v0, v1, v2, v3, v4, v5, v6, v7, v8, v9] = some (d, p)) (hw : ∀ n ∈ d.weights P t, n ≤ reachBytes) :
    ∃ (ka kb kc : Int) (n1 n2 n3 n4 n5 n6 : Nat) (A : Option Addr) (c : Nat) (l : List UInt8), [v0, v1, v2, v3, v4, v5, v6, v7, v8, v9] = [.int .i64 ka, .int .i64 kb, .int .i64 kc, .int .u64 (n1 : Int), .int .u64 (n2 : Int), .int .u64 (n3 : Int), .int .u64 (n4 : Int), .int .u64 (n5 : Int), .int .u64 (n6 : Int), .slice A l.length c] ∧ l.length ≤ 140737488355328 ∧ Has w w.heap.size A (us l) := by
  obtain ⟨xs, n, _, hxx, _, hxl, hx⟩ := DataW.trod_struct hst h
  injection hxx with hd hp
  subst hd
  simp only [List.map_cons, List.map_nil, List.cons.injEq, and_true, Prod.mk.injEq] at hof
  obtain ⟨⟨o0, t0, c0⟩, ⟨o1, t1, c1⟩, ⟨o2, t2, c2⟩, ⟨o3, t3, c3⟩, ⟨o4, t4, c4⟩, ⟨o5, t5, c5⟩, ⟨o6, t6, c6⟩, ⟨o7, t7, c7⟩, ⟨o8, t8, c8⟩, ⟨o9, t9, c9⟩⟩ := hof
  simp only [List.size_toArray, List.length_cons, List.length_nil, Nat.reduceAdd] at hxl
  match xs, hxl with
  | [x0, x1, x2, x3, x4, x5, x6, x7, x8, x9], _ =>
    have g0 := hx 0 f0 rfl
    rw [o0, c0, t0] at g0
    have g1 := hx 1 f1 rfl
    rw [o1, c1, t1] at g1
    have g2 := hx 2 f2 rfl
    rw [o2, c2, t2] at g2
    have g3 := hx 3 f3 rfl
    rw [o3, c3, t3] at g3
    have g4 := hx 4 f4 rfl
    rw [o4, c4, t4] at g4
    have g5 := hx 5 f5 rfl
    rw [o5, c5, t5] at g5
    have g6 := hx 6 f6 rfl
    rw [o6, c6, t6] at g6
    have g7 := hx 7 f7 rfl
    rw [o7, c7, t7] at g7
    have g8 := hx 8 f8 rfl
    rw [o8, c8, t8] at g8
    have g9 := hx 9 f9 rfl
    rw [o9, c9, t9] at g9
    obtain ⟨z0, ez0, _, wz0⟩ := DataW.trod_int hi (show DataW.trod enc P w 0 (fun _ => true) true n i [v0] = some x0 from g0)
    obtain rfl : v0 = .int .i64 z0 := by simpa using ez0
    obtain ⟨z1, ez1, _, wz1⟩ := DataW.trod_int hi (show DataW.trod enc P w 0 (fun _ => true) true n i [v1] = some x1 from g1)
    obtain rfl : v1 = .int .i64 z1 := by simpa using ez1
    obtain ⟨z2, ez2, _, wz2⟩ := DataW.trod_int hi (show DataW.trod enc P w 0 (fun _ => true) true n i [v2] = some x2 from g2)
    obtain rfl : v2 = .int .i64 z2 := by simpa using ez2
    obtain ⟨z3, ez3, _, wz3⟩ := DataW.trod_int hu (show DataW.trod enc P w 0 (fun _ => true) true n u [v3] = some x3 from g3)
    obtain ⟨y3, rfl, _⟩ := u64_natK wz3
    obtain rfl : v3 = .int .u64 (y3 : Int) := by simpa using ez3
    obtain ⟨z4, ez4, _, wz4⟩ := DataW.trod_int hu (show DataW.trod enc P w 0 (fun _ => true) true n u [v4] = some x4 from g4)
    obtain ⟨y4, rfl, _⟩ := u64_natK wz4
    obtain rfl : v4 = .int .u64 (y4 : Int) := by simpa using ez4
    obtain ⟨z5, ez5, _, wz5⟩ := DataW.trod_int hu (show DataW.trod enc P w 0 (fun _ => true) true n u [v5] = some x5 from g5)
    obtain ⟨y5, rfl, _⟩ := u64_natK wz5
    obtain rfl : v5 = .int .u64 (y5 : Int) := by simpa using ez5
    obtain ⟨z6, ez6, _, wz6⟩ := DataW.trod_int hu (show DataW.trod enc P w 0 (fun _ => true) true n u [v6] = some x6 from g6)
    obtain ⟨y6, rfl, _⟩ := u64_natK wz6
    obtain rfl : v6 = .int .u64 (y6 : Int) := by simpa using ez6
    obtain ⟨z7, ez7, _, wz7⟩ := DataW.trod_int hu (show DataW.trod enc P w 0 (fun _ => true) true n u [v7] = some x7 from g7)
    obtain ⟨y7, rfl, _⟩ := u64_natK wz7
    obtain rfl : v7 = .int .u64 (y7 : Int) := by simpa using ez7
    obtain ⟨z8, ez8, _, wz8⟩ := DataW.trod_int hu (show DataW.trod enc P w 0 (fun _ => true) true n u [v8] = some x8 from g8)
    obtain ⟨y8, rfl, _⟩ := u64_natK wz8
    obtain rfl : v8 = .int .u64 (y8 : Int) := by simpa using ez8
    obtain ⟨A, c, l, rfl, q1, q2, q3, q4⟩ := open_bytes hs he hc hby (show DataW.trod enc P w 0 (fun _ => true) true n s [v9] = some (x9.1, x9.2) from g9) (fun k hk => hw k (by
      simp only [DataW.weights, hst, List.map_cons, List.map_nil, DataW.weightsEach, List.mem_append, t9]
      exact .inr (.inr (.inr (.inr (.inr (.inr (.inr (.inr (.inr (.inl hk)))))))))))
    exact ⟨z0, z1, z2, y3, y4, y5, y6, y7, y8, A, c, l, rfl, q3, q4⟩
theorem arg_step {r : Reach} {b0 : Nat} {t fr i u s e : TypeId} {f0 f1 f2 f3 f4 f5 f6 f7 f8 f9 d0 d1 d2 d3 : Field} {v : Value} {d : DataW H} {p : List MemPlace} (hst : P.underlying t = some (.struct #[d0, d1, d2, d3])) (hfr : P.underlying fr = some (.struct #[f0, f1, f2, f3, f4, f5, f6, f7, f8, f9])) (hC : P.cellsOf t = 13)
    (hod : ([d0, d1, d2, d3].map fun f => (f.offset, f.type, P.cellsOf f.type)) = [(0, i, 1), (1, u, 1), (2, fr, 10), (12, s, 1)])
    (hof : ([f0, f1, f2, f3, f4, f5, f6, f7, f8, f9].map fun f => (f.offset, f.type, P.cellsOf f.type)) = [(0, i, 1), (1, i, 1), (2, i, 1), (3, u, 1), (4, u, 1), (5, u, 1), (6, u, 1), (7, u, 1), (8, u, 1), (9, s, 1)])
    (hi : P.underlying i = some (.int .i64)) (hu : P.underlying u = some (.int .u64)) (hs : P.underlying s = some (.slice e)) (he : P.underlying e = some (.int .u8)) (hc : P.cellsOf e = 1) (hby : P.bytesOf e = 1)
    (hv : Value.okWide P w r b0 t v) (h : DataW.Trod enc P w 0 (fun _ => true) true t v d p) (hw : ∀ n ∈ d.weights P t, n ≤ reachBytes) :
    ∃ (dd : Int) (now : Nat) (ka kb kc : Int) (n1 n2 n3 n4 n5 n6 nf c nb c2 : Nat) (A A2 : Option Addr), v = .agg #[.int .i64 dd, .int .u64 (now : Int), .int .i64 ka, .int .i64 kb, .int .i64 kc, .int .u64 (n1 : Int), .int .u64 (n2 : Int), .int .u64 (n3 : Int), .int .u64 (n4 : Int), .int .u64 (n5 : Int), .int .u64 (n6 : Int), .slice A nf c, .slice A2 nb c2] ∧ nb ≤ 140737488355328 ∧ nf ≤ 140737488355328 := by
  obtain ⟨cs, rfl, hsz⟩ := okWide_struct hst hv
  obtain ⟨cs⟩ := cs
  obtain ⟨fuel, hf⟩ := h
  have hl : cs.length = 13 := by simpa using hsz.trans hC
  simp only [List.map_cons, List.map_nil, List.cons.injEq, and_true, Prod.mk.injEq] at hod
  obtain ⟨⟨o0, t0, c0⟩, ⟨o1, t1, c1⟩, ⟨o2, t2, c2⟩, ⟨o3, t3, c3⟩⟩ := hod
  have hf' : DataW.trod enc P w 0 (fun _ => true) true fuel t cs = some (d, p) := by simpa [Value.cells] using hf
  obtain ⟨xs, n, _, hxx, _, hxl, hx⟩ := DataW.trod_struct hst hf'
  injection hxx with hd hp
  subst hd
  simp only [List.size_toArray, List.length_cons, List.length_nil, Nat.reduceAdd] at hxl
  match cs, hl, xs, hxl with
  | [a0, a1, b0, b1, b2, b3, b4, b5, b6, b7, b8, b9, a3], _, [x0, x1, x2, x3], _ =>
    have g0 := hx 0 d0 rfl
    rw [o0, c0, t0] at g0
    have g1 := hx 1 d1 rfl
    rw [o1, c1, t1] at g1
    have g2 := hx 2 d2 rfl
    rw [o2, c2, t2] at g2
    have g3 := hx 3 d3 rfl
    rw [o3, c3, t3] at g3
    obtain ⟨dd, ed, _, _⟩ := DataW.trod_int hi (show DataW.trod enc P w 0 (fun _ => true) true n i [a0] = some x0 from g0)
    obtain rfl : a0 = .int .i64 dd := by simpa using ed
    obtain ⟨zn, en, _, wn⟩ := DataW.trod_int hu (show DataW.trod enc P w 0 (fun _ => true) true n u [a1] = some x1 from g1)
    obtain ⟨now, rfl, _⟩ := u64_natK wn
    obtain rfl : a1 = .int .u64 (now : Int) := by simpa using en
    obtain ⟨ka, kb, kc, n1, n2, n3, n4, n5, n6, A, c, l, eb, hl1, _⟩ := open_frameK hfr hof hi hu hs he hc hby (show DataW.trod enc P w 0 (fun _ => true) true n fr [b0, b1, b2, b3, b4, b5, b6, b7, b8, b9] = some (x2.1, x2.2) from g2) (fun k hk => hw k (by
      simp only [DataW.weights, hst, List.map_cons, List.map_nil, DataW.weightsEach, List.mem_append, t2]
      exact .inr (.inr (.inl hk))))
    simp only [List.cons.injEq, and_true] at eb
    obtain ⟨rfl, rfl, rfl, rfl, rfl, rfl, rfl, rfl, rfl, rfl⟩ := eb
    obtain ⟨A2, c2', l2, rfl, q1, q2, q3, q4⟩ := open_bytes hs he hc hby (show DataW.trod enc P w 0 (fun _ => true) true n s [a3] = some (x3.1, x3.2) from g3) (fun k hk => hw k (by
      simp only [DataW.weights, hst, List.map_cons, List.map_nil, DataW.weightsEach, List.mem_append, t3]
      exact .inr (.inr (.inr (.inl hk)))))
    exact ⟨dd, now, ka, kb, kc, n1, n2, n3, n4, n5, n6, l.length, c, l2.length, c2', A, A2, rfl, q3, hl1⟩
end
end Go.Proofs.Ytngegjboenfmeaa
