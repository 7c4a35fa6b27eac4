/- A letter as an argument, opened. -/
import Derived.Test.YtbnjlminjopaaaaOpenCode
import Derived.Test.YtbnjlminjopaaaaLet
import Derived.Lib.SmallJoins
namespace Go.Proofs.Ytbnjlminjopaaaa
open Go Go.RowKit Go.ChangeShapes Go.WideShapes Go.ChangeAt Go.Deep Go.Joins
set_option linter.unusedVariables false
set_option maxRecDepth 100000
section
variable {H : Type} {enc : TypeId × Value → H} {P : Program} {w : World}
/-- a life as two cells, opened -/
theorem open_proc {t i u : TypeId} {f0 f1 : Field} {a b : Value} {d : DataW H} {p : List MemPlace} {fuel : Nat} (hst : P.underlying t = some (.struct #[f0, f1]))
    (hof : ([f0, f1].map fun f => (f.offset, f.type, P.cellsOf f.type)) = [(0, i, 1), (1, u, 1)])
    (hi : P.underlying i = some (.int .i64)) (hu : P.underlying u = some (.int .u64)) (h : DataW.trod enc P w 0 (fun _ => true) true fuel t [a, b] = some (d, p)) :
    ∃ (node : Int) (inc : Nat), a = .int .i64 node ∧ b = .int .u64 (inc : Int) ∧ inc < 18446744073709551616 := by
  obtain ⟨xs, n, _, hx, _, hlen, hf⟩ := DataW.trod_struct hst h
  simp only [List.map_cons, List.map_nil, List.cons.injEq, and_true, Prod.mk.injEq] at hof
  obtain ⟨⟨o0, t0, c0⟩, ⟨o1, t1, c1⟩⟩ := hof
  simp only [List.size_toArray, List.length_cons, List.length_nil, Nat.reduceAdd] at hlen
  match xs, hlen with
  | [x0, x1], _ =>
    have g0 := hf 0 f0 rfl
    rw [o0, c0, t0] at g0
    have g1 := hf 1 f1 rfl
    rw [o1, c1, t1] at g1
    obtain ⟨z0, hz0, _, w0⟩ := DataW.trod_int hi (show DataW.trod enc P w 0 (fun _ => true) true n i [a] = some x0 from g0)
    obtain ⟨z1, hz1, _, w1⟩ := DataW.trod_int hu (show DataW.trod enc P w 0 (fun _ => true) true n u [b] = some x1 from g1)
    obtain ⟨y, rfl, hy⟩ := u64_nat w1
    exact ⟨z0, y, by simpa using hz0, by simpa using hz1, hy⟩
/-- a view's name as three cells, opened -/
theorem open_viewId {t pr i u : TypeId} {f0 f1 q0 q1 : Field} {a b e : Value} {d : DataW H} {p : List MemPlace} {fuel : Nat} (hst : P.underlying t = some (.struct #[f0, f1])) (hpr : P.underlying pr = some (.struct #[q0, q1]))
    (hof : ([f0, f1].map fun f => (f.offset, f.type, P.cellsOf f.type)) = [(0, u, 1), (1, pr, 2)])
    (hoq : ([q0, q1].map fun f => (f.offset, f.type, P.cellsOf f.type)) = [(0, i, 1), (1, u, 1)])
    (hi : P.underlying i = some (.int .i64)) (hu : P.underlying u = some (.int .u64)) (h : DataW.trod enc P w 0 (fun _ => true) true fuel t [a, b, e] = some (d, p)) :
    ∃ (round : Nat) (node : Int) (inc : Nat), a = .int .u64 (round : Int) ∧ b = .int .i64 node ∧ e = .int .u64 (inc : Int) ∧ round < 18446744073709551616 ∧ inc < 18446744073709551616 := by
  obtain ⟨xs, n, _, hx, _, hlen, hf⟩ := DataW.trod_struct hst h
  simp only [List.map_cons, List.map_nil, List.cons.injEq, and_true, Prod.mk.injEq] at hof
  obtain ⟨⟨o0, t0, c0⟩, ⟨o1, t1, c1⟩⟩ := hof
  simp only [List.size_toArray, List.length_cons, List.length_nil, Nat.reduceAdd] at hlen
  match xs, hlen with
  | [x0, x1], _ =>
    have g0 := hf 0 f0 rfl
    rw [o0, c0, t0] at g0
    have g1 := hf 1 f1 rfl
    rw [o1, c1, t1] at g1
    obtain ⟨z0, hz0, _, w0⟩ := DataW.trod_int hu (show DataW.trod enc P w 0 (fun _ => true) true n u [a] = some x0 from g0)
    obtain ⟨y, rfl, hy⟩ := u64_nat w0
    obtain ⟨node, inc, e1, e2, e3⟩ := open_proc hpr hoq hi hu (show DataW.trod enc P w 0 (fun _ => true) true n pr [b, e] = some (x1.1, x1.2) from g1)
    exact ⟨y, node, inc, by simpa using hz0, e1, e2, hy, e3⟩
theorem open_u64s {t e : TypeId} {v : Value} {d : DataW H} {p : List MemPlace} {fuel : Nat} (ht : P.underlying t = some (.slice e)) (he : P.underlying e = some (.int .u64)) (hc : P.cellsOf e = 1) (hby : P.bytesOf e = 8)
    (h : DataW.trod enc P w 0 (fun _ => true) true fuel t [v] = some (d, p)) (hw : ∀ n ∈ d.weights P t, n ≤ reachBytes) :
    ∃ (A : Option Addr) (c : Nat) (l : List Nat), v = .slice A l.length c ∧ l.length ≤ c ∧ c ≤ maxLen ∧ l.length ≤ 140737488355328 ∧ (∀ x ∈ l, x < 18446744073709551616) ∧ Has w w.heap.size A (u64s l) := by
  obtain ⟨A, c, zs, hv2, h1, h2, h3, hwf, hh⟩ := open_nums ht he hc hby (by omega) h hw
  obtain ⟨e1, e2⟩ := u64s_of hwf
  exact ⟨A, c, zs.map Int.toNat, by simpa using hv2, by simpa using h1, h2, by simpa using h3, e2, by rw [e1]; exact hh⟩
theorem arg_letter {r : Reach} {b0 : Nat} {t i u s e s2 pr vw bo : TypeId} {f0 f1 f2 f3 f4 f5 f6 f7 q0 q1 v0 v1 : Field} {v : Value} {d : DataW H} {p : List MemPlace} (hst : P.underlying t = some (.struct #[f0, f1, f2, f3, f4, f5, f6, f7])) (hpr : P.underlying pr = some (.struct #[q0, q1])) (hvw : P.underlying vw = some (.struct #[v0, v1])) (hC : P.cellsOf t = 11)
    (hof : ([f0, f1, f2, f3, f4, f5, f6, f7].map fun f => (f.offset, f.type, P.cellsOf f.type)) = [(0, i, 1), (1, pr, 2), (3, vw, 3), (6, u, 1), (7, s, 1), (8, u, 1), (9, s2, 1), (10, bo, 1)])
    (hoq : ([q0, q1].map fun f => (f.offset, f.type, P.cellsOf f.type)) = [(0, i, 1), (1, u, 1)])
    (hov : ([v0, v1].map fun f => (f.offset, f.type, P.cellsOf f.type)) = [(0, u, 1), (1, pr, 2)])
    (hi : P.underlying i = some (.int .i64)) (hu : P.underlying u = some (.int .u64)) (hbo : P.underlying bo = some .bool) (hs : P.underlying s = some (.slice e)) (hs2 : P.underlying s2 = some (.slice u)) (he : P.underlying e = some (.int .u8)) (hc : P.cellsOf e = 1) (hby : P.bytesOf e = 1) (hcu : P.cellsOf u = 1) (hbu : P.bytesOf u = 8)
    (hv : Value.okWide P w r b0 t v) (h : DataW.Trod enc P w 0 (fun _ => true) true t v d p) (hw : ∀ n ∈ d.weights P t, n ≤ reachBytes) :
    ∃ (x : Lt) (A : Option Addr) (c : Nat) (A2 : Option Addr) (c2 : Nat), v = .agg (x.cells A c A2 c2) ∧
      (x.pinc < 18446744073709551616 ∧ x.round < 18446744073709551616 ∧ x.sinc < 18446744073709551616 ∧ x.cid < 18446744073709551616) ∧ x.n < 18446744073709551616 ∧ (∀ y ∈ x.cut, y < 18446744073709551616) ∧ x.body.length ≤ c ∧ c ≤ maxLen ∧ Has w w.heap.size A (us x.body) ∧ Has w w.heap.size A2 (u64s x.cut) ∧ x.cut.length ≤ 140737488355328 := by
  obtain ⟨cs, rfl, hsz⟩ := okWide_struct hst hv
  obtain ⟨cs⟩ := cs
  obtain ⟨fuel, hf⟩ := h
  have hl : cs.length = 11 := by simpa using hsz.trans hC
  simp only [List.map_cons, List.map_nil, List.cons.injEq, and_true, Prod.mk.injEq] at hof
  obtain ⟨⟨o0, t0, c0⟩, ⟨o1, t1, c1⟩, ⟨o2, t2, c2⟩, ⟨o3, t3, c3⟩, ⟨o4, t4, c4⟩, ⟨o5, t5, c5⟩, ⟨o6, t6, c6⟩, ⟨o7, t7, c7⟩⟩ := hof
  have hf' : DataW.trod enc P w 0 (fun _ => true) true fuel t cs = some (d, p) := by simpa [Value.cells] using hf
  obtain ⟨xs, n, _, hxx, _, hxl, hx⟩ := DataW.trod_struct hst hf'
  injection hxx with hd hp
  subst hd
  simp only [List.size_toArray, List.length_cons, List.length_nil, Nat.reduceAdd] at hxl
  match cs, hl, xs, hxl with
  | [a0, a1, a2, a3, a4, a5, a6, a7, a8, a9, a10], _, [x0, x1, x2, x3, x4, x5, x6, x7], _ =>
    have g0 := hx 0 f0 rfl
    rw [o0, c0, t0] at g0
    have g1 := hx 1 f1 rfl
    rw [o1, c1, t1] at g1
    have g2 := hx 2 f2 rfl
    rw [o2, c2, t2] at g2
    have g3 := hx 3 f3 rfl
    rw [o3, c3, t3] at g3
    have g4 := hx 4 f4 rfl
    rw [o4, c4, t4] at g4
    have g5 := hx 5 f5 rfl
    rw [o5, c5, t5] at g5
    have g6 := hx 6 f6 rfl
    rw [o6, c6, t6] at g6
    have g7 := hx 7 f7 rfl
    rw [o7, c7, t7] at g7
    obtain ⟨kind, ek, _, _⟩ := DataW.trod_int hi (show DataW.trod enc P w 0 (fun _ => true) true n i [a0] = some x0 from g0)
    obtain rfl : a0 = .int .i64 kind := by simpa using ek
    obtain ⟨node, pinc, rfl, rfl, b1⟩ := open_proc hpr hoq hi hu (show DataW.trod enc P w 0 (fun _ => true) true n pr [a1, a2] = some (x1.1, x1.2) from g1)
    obtain ⟨round, snode, sinc, rfl, rfl, rfl, b2, b3⟩ := open_viewId hvw hpr hov hoq hi hu (show DataW.trod enc P w 0 (fun _ => true) true n vw [a3, a4, a5] = some (x2.1, x2.2) from g2)
    obtain ⟨zn, ez, _, wn⟩ := DataW.trod_int hu (show DataW.trod enc P w 0 (fun _ => true) true n u [a6] = some x3 from g3)
    obtain ⟨m, rfl, b4⟩ := u64_nat wn
    obtain rfl : a6 = .int .u64 (m : Int) := by simpa using ez
    obtain ⟨zc, ec, _, wc⟩ := DataW.trod_int hu (show DataW.trod enc P w 0 (fun _ => true) true n u [a8] = some x5 from g5)
    obtain ⟨cid, rfl, b5⟩ := u64_nat wc
    obtain rfl : a8 = .int .u64 (cid : Int) := by simpa using ec
    obtain ⟨want, ew, _⟩ := DataW.trod_bool hbo (show DataW.trod enc P w 0 (fun _ => true) true n bo [a10] = some x7 from g7)
    obtain rfl : a10 = .bool want := by simpa using ew
    obtain ⟨A, c, l, rfl, q1, q2, q3, q4⟩ := open_bytes hs he hc hby (show DataW.trod enc P w 0 (fun _ => true) true n s [a7] = some (x4.1, x4.2) from g4) (fun k hk => hw k (by
      simp only [DataW.weights, hst, List.map_cons, List.map_nil, DataW.weightsEach, List.mem_append, t4, t6]
      exact .inr (.inr (.inr (.inr (.inl hk))))))
    obtain ⟨A2, c2, l2, rfl, r1, r2, r3, r4, r5⟩ := open_u64s hs2 hu hcu hbu (show DataW.trod enc P w 0 (fun _ => true) true n s2 [a9] = some (x6.1, x6.2) from g6) (fun k hk => hw k (by
      simp only [DataW.weights, hst, List.map_cons, List.map_nil, DataW.weightsEach, List.mem_append, t4, t6]
      exact .inr (.inr (.inr (.inr (.inr (.inr (.inl hk))))))))
    exact ⟨⟨kind, node, pinc, round, snode, sinc, m, l, cid, l2, want⟩, A, c, A2, c2, rfl, ⟨b1, b2, b3, b5⟩, b4, r4, q1, q2, q4, r5, r3⟩
end
end Go.Proofs.Ytbnjlminjopaaaa
