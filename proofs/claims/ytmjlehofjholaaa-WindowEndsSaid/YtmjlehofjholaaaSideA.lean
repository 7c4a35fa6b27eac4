/- Both sides of a window in memory: rows of texts, rows of copies, the six cells. -/
import Derived.Test.YtmjlehofjholaaaSideM
namespace Go.Proofs.Ytmjlehofjholaaa
open Go Go.RowKit Go.Shelf
set_option linter.unusedVariables false
set_option maxRecDepth 100000

def strs (l : List (List UInt8)) : List Value := l.map fun x => .string ⟨x.toArray⟩
def cpv (x : Cp) : List Value := [.int .u64 (x.1 : Int), .string ⟨x.2.toArray⟩]
def cps (l : List Cp) : List Value := l.flatMap cpv
theorem strs_len (l : List (List UInt8)) : (strs l).length = l.length := by simp [strs]
theorem strs_app (l m : List (List UInt8)) : strs (l ++ m) = strs l ++ strs m := by simp [strs]
theorem cps_len (l : List Cp) : (cps l).length = l.length * 2 := by
  induction l with
  | nil => rfl
  | cons a l ih => simp [cps, cpv] at *; omega
theorem cps_app (l m : List Cp) : cps (l ++ m) = cps l ++ cps m := by simp [cps]
theorem strs_one (l : List (List UInt8)) : ∀ u ∈ strs l, u.oneCell' = true := by
  intro u hu
  obtain ⟨b, _, rfl⟩ := List.mem_map.1 hu
  rfl
theorem cps_one (l : List Cp) : ∀ u ∈ cps l, u.oneCell' = true := by
  intro u hu
  obtain ⟨b, _, hb⟩ := List.mem_flatMap.1 hu
  simp [cpv] at hb
  rcases hb with rfl | rfl <;> rfl
theorem strs_at {l : List (List UInt8)} {k : Nat} (h : k < l.length) : (strs l)[k]? = some (.string ⟨l[k].toArray⟩) := by simp [strs, h]
theorem cps_at {l : List Cp} {k : Nat} (h : k < l.length) : (cps l)[k * 2]? = some (.int .u64 (l[k].1 : Int)) ∧ (cps l)[k * 2 + 1]? = some (.string ⟨l[k].2.toArray⟩) := by
  induction l generalizing k with
  | nil => simp at h
  | cons a l ih =>
    cases k with
    | zero => exact ⟨rfl, rfl⟩
    | succ k =>
      have h2 := ih (k := k) (by simpa using h)
      have e : cps (a :: l) = cpv a ++ cps l := by simp [cps]
      rw [e]
      refine ⟨?_, ?_⟩
      · rw [List.getElem?_append_right (by simp [cpv]; omega), show (k + 1) * 2 - (cpv a).length = k * 2 by simp [cpv]; omega]
        simpa using h2.1
      · rw [List.getElem?_append_right (by simp [cpv]; omega), show (k + 1) * 2 + 1 - (cpv a).length = k * 2 + 1 by simp [cpv]; omega]
        simpa using h2.2
theorem cps_take (l : List Cp) (k : Nat) : cps (l.take k) = (cps l).take (k * 2) := by
  induction l generalizing k with
  | nil => simp [cps]
  | cons a l ih =>
    cases k with
    | zero => simp [cps]
    | succ k =>
      have e : cps (a :: l) = cpv a ++ cps l := by simp [cps]
      have e2 : cps (a :: l.take k) = cpv a ++ cps (l.take k) := by simp [cps]
      rw [List.take_succ_cons, e, e2, ih, show (k + 1) * 2 = (cpv a).length + k * 2 by simp [cpv]; omega, List.take_length_add_append]
theorem cps_drop (l : List Cp) (k : Nat) : cps (l.drop k) = (cps l).drop (k * 2) := by
  induction l generalizing k with
  | nil => simp [cps]
  | cons a l ih =>
    cases k with
    | zero => simp [cps]
    | succ k =>
      have e : cps (a :: l) = cpv a ++ cps l := by simp [cps]
      rw [List.drop_succ_cons, e, ih, show (k + 1) * 2 = (cpv a).length + k * 2 by simp [cpv]; omega, List.drop_length_add_append]
theorem info_st : (Try.prog.info? 9).map (fun i => (i.zero, i.size, i.bytes)) = some (some (.string ⟨#[]⟩), 1, 16) := by kernel_rfl
theorem info_cp : (Try.prog.info? 62).map (fun i => (i.zero, i.size, i.bytes)) = some (some (.agg #[.int .u64 0, .string ⟨#[]⟩]), 2, 24) := by kernel_rfl

def StrRow (w : World) (B : Nat) (v : Value) (l : List (List UInt8)) : Prop := w.ownsRow B 9 1 v l.length (strs l)
def CpRow (w : World) (B : Nat) (v : Value) (l : List Cp) : Prop := w.ownsRow B 62 2 v l.length (cps l)
section rows
variable {w w' : World} {base e size n : Nat} {v : Value} {xs : List Value}
theorem row_lt {k : Nat} (h : w.ownsRow base e size v n xs) (hk : v.ownBlock = some k) : base ≤ k ∧ k < w.heap.size ∧ ∃ cur, w.heap[k]? = some (.cells cur e (0, 0)) := by
  rcases h.2 with ⟨rfl, _⟩ | ⟨g, cap, cur, rfl, p1, p2, _⟩
  · cases hk
  · obtain rfl : g = k := by simpa [Value.ownBlock] using hk
    exact ⟨p1, (Array.getElem?_eq_some_iff.1 p2).1, cur, p2⟩
theorem row_same (h : w.ownsRow base e size v n xs) (hk : ∀ k, v.ownBlock = some k → w'.heap[k]? = w.heap[k]?) : w'.ownsRow base e size v n xs := by
  refine ⟨h.1, ?_⟩
  rcases h.2 with h0 | ⟨g, cap, cur, rfl, h2, h3, h4⟩
  · exact .inl h0
  · exact .inr ⟨g, cap, cur, rfl, h2, by rw [hk g rfl]; exact h3, h4⟩
theorem row_grown {row : Option Nat} (h : w.ownsRow base e size v n xs) (hg : w.grownBy w' row) (hne : ∀ k, row = some k → v.ownBlock ≠ some k) : w'.ownsRow base e size v n xs :=
  row_same h fun k hk => hg.block k (row_lt h hk).2.1 fun e => hne k e.symm hk
theorem row_below (h : w.ownsRow base e size v n xs) (hb : Below w.heap.size w w') : w'.ownsRow base e size v n xs :=
  row_same h fun k hk => hb.block k (row_lt h hk).2.1
theorem row_base {b' : Nat} (h : w.ownsRow base e size v n xs) (hb : b' ≤ base) : w.ownsRow b' e size v n xs := by
  refine ⟨h.1, ?_⟩
  rcases h.2 with h0 | ⟨g, cap, cur, rfl, h2, h3, h4⟩
  · exact .inl h0
  · exact .inr ⟨g, cap, cur, rfl, by omega, h3, h4⟩
theorem row_form (h : w.ownsRow base e size v n xs) : ∃ A c, v = .slice A n c ∧ n ≤ c ∧ c ≤ maxLen ∧ Has w w.heap.size A xs := by
  have h0 := h
  rcases h.2 with ⟨rfl, hn⟩ | ⟨g, cap, cur, rfl, p1, p2, p3, p4, p5, p6⟩
  · refine ⟨none, 0, by rw [hn], by omega, by unfold maxLen; omega, ?_⟩
    have : xs = [] := List.eq_nil_of_length_eq_zero (by rw [h.1, hn]; simp)
    rw [this]
    exact Has.nil
  · exact ⟨_, cap, rfl, p3, p4, fun j u hu => ⟨g, 0, rfl, (Array.getElem?_eq_some_iff.1 p2).1, by
      rw [← p6, List.getElem?_take] at hu
      split at hu
      · simp only [World.cell?, p2]
        simpa using hu
      · cases hu⟩⟩
end rows
/-- blocks of unlike kinds are unlike -/
theorem kind_ne {w : World} {k j : Nat} {c1 c2 : Array Value} {t1 t2 : TypeId} (h1 : w.heap[k]? = some (.cells c1 t1 (0, 0))) (h2 : w.heap[j]? = some (.cells c2 t2 (0, 0))) (hne : t1 ≠ t2) : k ≠ j := by
  rintro rfl
  rw [h1] at h2
  simp at h2
  exact hne h2.2
theorem OwnB.grown {w w' : World} {base : Nat} {v : Value} {L : List (List UInt8)} {row : Option Nat} (h : OwnB w base v L) (hg : w.grownBy w' row) (hr : ∀ k, row = some k → ∃ cur t, w.heap[k]? = some (.cells cur t (0, 0)) ∧ t ≠ 26 ∧ t ≠ 5) : OwnB w' base v L := by
  obtain ⟨vs, h1, h2, h3⟩ := h
  refine ⟨vs, h1, row_grown h2 hg fun k hk hv => ?_, fun i u l hu hl => ⟨row_grown (h3 i u l hu hl).1 hg fun k hk hv => ?_, (h3 i u l hu hl).2⟩⟩
  · obtain ⟨cur, t, e, n1, n2⟩ := hr k hk
    obtain ⟨_, _, cur2, e2⟩ := row_lt h2 hv
    exact kind_ne e2 e (Ne.symm n1) rfl
  · obtain ⟨cur, t, e, n1, n2⟩ := hr k hk
    obtain ⟨_, _, cur2, e2⟩ := row_lt (h3 i u l hu hl).1 hv
    exact kind_ne e2 e (Ne.symm n2) rfl

theorem run_appS {w : World} {ty : TypeId} {base B c : Nat} {v : Value} {A : Option Addr} {l m : List (List UInt8)}
    (hown : StrRow w base v l) (hr : Has w B A (strs m)) (hlen : l.length + m.length ≤ 1000000) (hbase : base ≤ w.heap.size) :
    ∃ v' w', (Builtin.append_ #[52, 52] ty #[v, .slice A m.length c]).run Try.prog w = .ok v' w' ∧ StrRow w' base v' (l ++ m) ∧ w.grownBy w' v.ownBlock ∧ (v'.ownBlock = v.ownBlock ∨ v'.ownBlock = some w.heap.size) := by
  obtain ⟨i0, hi, hz0, hz1, hz2⟩ := info_parts info_st
  obtain ⟨v', w', hrun, h2, h3, h4⟩ := run_append_has (P := Try.prog) w base 52 ty 9 i0 _ 1 16 Try.underlying52 hi hz0 hz1 hz2 rfl (by omega) v l.length (strs l) hown B A m.length c (strs m) (by rw [strs_len, Nat.mul_one]) hr (strs_one m) (by unfold maxLen; omega) (by omega) hbase
  exact ⟨v', w', hrun, by unfold StrRow; rw [List.length_append, strs_app]; exact h2, h3, h4⟩
theorem run_appC {w : World} {ty : TypeId} {base B c : Nat} {v : Value} {A : Option Addr} {l m : List Cp}
    (hown : CpRow w base v l) (hr : Has w B A (cps m)) (hlen : l.length + m.length ≤ 1000000) (hbase : base ≤ w.heap.size) :
    ∃ v' w', (Builtin.append_ #[53, 53] ty #[v, .slice A m.length c]).run Try.prog w = .ok v' w' ∧ CpRow w' base v' (l ++ m) ∧ w.grownBy w' v.ownBlock ∧ (v'.ownBlock = v.ownBlock ∨ v'.ownBlock = some w.heap.size) := by
  obtain ⟨i0, hi, hz0, hz1, hz2⟩ := info_parts info_cp
  obtain ⟨v', w', hrun, h2, h3, h4⟩ := run_append_has (P := Try.prog) w base 53 ty 62 i0 _ 2 24 Try.underlying53 hi hz0 hz1 hz2 rfl (by omega) v l.length (cps l) hown B A m.length c (cps m) (by rw [cps_len]) hr (cps_one m) (by unfold maxLen; omega) (by omega) hbase
  exact ⟨v', w', hrun, by unfold CpRow; rw [List.length_append, cps_app]; exact h2, h3, h4⟩
theorem op_appS {w : World} {o : Oper} {a : Act} {K : Act → World → Prop} {Q : Exit → Act → World → Prop} {s x : Operand} {base B c : Nat} {v : Value} {A : Option Addr} {l m : List (List UInt8)}
    (ho : o.op = .call { callee := .builtin .append, args := #[s, x], argTypes := #[52, 52] }) (hs : a.eval s = v) (hx : a.eval x = .slice A m.length c)
    (hown : StrRow w base v l) (hr : Has w B A (strs m)) (hlen : l.length + m.length ≤ 1000000) (hbase : base ≤ w.heap.size)
    (h : ∀ v' w', StrRow w' base v' (l ++ m) → w.grownBy w' v.ownBlock → (v'.ownBlock = v.ownBlock ∨ v'.ownBlock = some w.heap.size) → K (a.put o.dst v') w') : Oper.wp Try.prog o a w K Q := by
  obtain ⟨v', w', hrun, h1, h2, h3⟩ := run_appS (ty := o.type) (c := c) hown hr hlen hbase
  unfold Oper.wp execOp
  simp only [ho, resolve, invoke, builtin, Sem.run_bind, Sem.run_pure, Result.andThen_ok, List.map_toArray, List.map_cons, List.map_nil, hs, hx, hrun]
  exact h v' w' h1 h2 h3
theorem op_appC {w : World} {o : Oper} {a : Act} {K : Act → World → Prop} {Q : Exit → Act → World → Prop} {s x : Operand} {base B c : Nat} {v : Value} {A : Option Addr} {l m : List Cp}
    (ho : o.op = .call { callee := .builtin .append, args := #[s, x], argTypes := #[53, 53] }) (hs : a.eval s = v) (hx : a.eval x = .slice A m.length c)
    (hown : CpRow w base v l) (hr : Has w B A (cps m)) (hlen : l.length + m.length ≤ 1000000) (hbase : base ≤ w.heap.size)
    (h : ∀ v' w', CpRow w' base v' (l ++ m) → w.grownBy w' v.ownBlock → (v'.ownBlock = v.ownBlock ∨ v'.ownBlock = some w.heap.size) → K (a.put o.dst v') w') : Oper.wp Try.prog o a w K Q := by
  obtain ⟨v', w', hrun, h1, h2, h3⟩ := run_appC (ty := o.type) (c := c) hown hr hlen hbase
  unfold Oper.wp execOp
  simp only [ho, resolve, invoke, builtin, Sem.run_bind, Sem.run_pure, Result.andThen_ok, List.map_toArray, List.map_cons, List.map_nil, hs, hx, hrun]
  exact h v' w' h1 h2 h3
end Go.Proofs.Ytmjlehofjholaaa
