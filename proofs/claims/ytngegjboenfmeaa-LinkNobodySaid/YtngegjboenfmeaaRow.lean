/- Rows of one's own, of any element, as things that lie apart; an append in a drawn region. -/
import Derived.Test.YtngegjboenfmeaaSepCe
import Derived.Test.YtngegjboenfmeaaRgApp
namespace Go.Proofs.Ytngegjboenfmeaa
open Go Go.RowKit
set_option linter.unusedVariables false
set_option maxRecDepth 100000

/-- a row of one's own: n elements of so many cells -/
def Rw (e : TypeId) (size : Nat) (v : Value) (n : Nat) (xs : List Value) : SP := fun w F => w.ownsRow 0 e size v n xs ∧ ∀ k, F k ↔ v.ownBlock = some k
theorem ownsRow_keep {w w' : World} {base : Nat} {e : TypeId} {size : Nat} {v : Value} {n : Nat} {xs : List Value} (h : w.ownsRow base e size v n xs) (hk : ∀ k, v.ownBlock = some k → w'.heap[k]? = w.heap[k]?) : w'.ownsRow base e size v n xs := by
  refine ⟨h.1, ?_⟩
  rcases h.2 with q | ⟨k, cap, cur, rfl, f1, f2, f3⟩
  · exact .inl q
  · exact .inr ⟨k, cap, cur, rfl, f1, by rw [hk k rfl]; exact f2, f3⟩
theorem Rw.loc (e : TypeId) (size : Nat) (v : Value) (n : Nat) (xs : List Value) : Loc (Rw e size v n xs) where
  keep := by
    rintro w w' F ⟨h, hF⟩ hk
    exact ⟨ownsRow_keep h fun k hv => hk k ((hF k).2 hv), hF⟩
  lt := by
    rintro w F ⟨h, hF⟩ k hk
    exact (h.lt k ((hF k).1 hk)).2
section
variable {w0 w w' : World} {Ps : List SP} {i : Nat} {e : TypeId} {size n : Nat} {v v' : Value} {xs xs' : List Value}
theorem ownsRow_form {base : Nat} (h : w.ownsRow base e size v n xs) : ∃ A c, v = .slice A n c ∧ n ≤ c ∧ c ≤ maxLen ∧ Has w w.heap.size A xs := by
  have h0 := h
  rcases h.2 with ⟨rfl, hn⟩ | ⟨g, cap, cur, rfl, _, _, hnc, hm, _⟩
  · refine ⟨none, 0, by rw [hn], by omega, by unfold maxLen; omega, ?_⟩
    have h1 := h.1
    rw [hn, Nat.zero_mul] at h1
    rw [List.eq_nil_of_length_eq_zero h1]
    exact Has.nil
  · exact ⟨_, cap, rfl, hnc, hm, Has.of_own h0⟩
theorem sep_rwForm (h : Sep w0 w Ps) (hi : Ps[i]? = some (Rw e size v n xs)) : ∃ A c, v = .slice A n c ∧ n ≤ c ∧ c ≤ maxLen ∧ Has w w.heap.size A xs := by
  obtain ⟨F, h⟩ := h.get hi
  exact ownsRow_form h.1
theorem sep_rwNil (h : Sep w0 w Ps) (e : TypeId) (size : Nat) : Sep w0 w (Ps ++ [Rw e size (.slice none 0 0) 0 []]) :=
  h.add (F := fun _ => False) (Below.refl _ _) ⟨World.ownsRow_nil _ _ _ _, fun k => by simp [Value.ownBlock]⟩ (Rw.loc _ _ _ _ _) (fun k h => h.elim)
theorem sep_rwGrown {n' : Nat} (h : Sep w0 w Ps) (hi : Ps[i]? = some (Rw e size v n xs)) (ho : w'.ownsRow 0 e size v' n' xs') (hg : w.grownBy w' v.ownBlock) (hat : v'.ownBlock = v.ownBlock ∨ v'.ownBlock = some w.heap.size) : Sep w0 w' (Ps.set i (Rw e size v' n' xs')) := by
  obtain ⟨F, ⟨h1, hF⟩, hL, hlt, hk⟩ := h.upd hi
  refine hk w' _ (fun k => v'.ownBlock = some k) ⟨hg.os, hg.tape, hg.output, hg.size, fun k hk hnF => hg.block k hk (fun q => hnF ((hF k).2 q.symm)), fun k hk => ?_⟩ ⟨ho, fun k => Iff.rfl⟩ (Rw.loc _ _ _ _ _)
  rcases hat with q | q
  · exact .inl ((hF k).2 (by rw [← q]; exact hk))
  · rw [q] at hk
    injection hk with hk
    exact .inr (by omega)
end
/-- what is to be known of a row's type -/
def RowTy (t e : TypeId) (size bytes : Nat) : Prop := Try.prog.underlying t = some (.slice e) ∧ (∃ i z, Try.prog.info? e = some i ∧ i.zero = some z ∧ i.size = size ∧ i.bytes = bytes ∧ z.cells.size = size) ∧ 0 < size
theorem op_appW {w : World} {o : Oper} {a : Act} {K : Act → World → Prop} {Q : Exit → Act → World → Prop} {s x : Operand} {B c m n : Nat} {v : Value} {A : Option Addr} {t e : TypeId} {size bytes : Nat} {xs news : List Value} (hT : RowTy t e size bytes)
    (ho : o.op = .call { callee := .builtin .append, args := #[s, x], argTypes := #[t, t] }) (hs : a.eval s = v) (hx : a.eval x = .slice A m c)
    (hown : w.ownsRow 0 e size v n xs) (hl : news.length = m * size) (hr : Has w B A news) (h1 : ∀ u ∈ news, u.oneCell' = true) (hlen : n + m ≤ maxLen) (hby : (n + m) * bytes ≤ 140737488355328)
    (h : ∀ v' w', w'.ownsRow 0 e size v' (n + m) (xs ++ news) → w.grownBy w' v.ownBlock → (v'.ownBlock = v.ownBlock ∨ v'.ownBlock = some w.heap.size) → K (a.put o.dst v') w') : Oper.wp Try.prog o a w K Q := by
  obtain ⟨hu, ⟨i0, z, hi, hz0, hz1, hz2, hz3⟩, hp⟩ := hT
  obtain ⟨v', w', hrun, h2, h3, h4⟩ := run_append_has (P := Try.prog) w 0 t o.type e i0 z size bytes hu hi hz0 hz1 hz2 hz3 hp v n xs hown B A m c news hl hr h1 hlen hby (Nat.zero_le _)
  unfold Oper.wp execOp
  simp only [ho, resolve, invoke, builtin, Sem.run_bind, Sem.run_pure, Result.andThen_ok, List.map_toArray, List.map_cons, List.map_nil, hs, hx, hrun]
  exact h v' w' h2 h3 h4
theorem sep_opAppW {w0 w : World} {Ps : List SP} {i : Nat} {o : Oper} {a : Act} {K : Act → World → Prop} {Q : Exit → Act → World → Prop} {s x : Operand} {B c m n : Nat} {v : Value} {A : Option Addr} {t e : TypeId} {size bytes : Nat} {xs news : List Value} (hT : RowTy t e size bytes)
    (ho : o.op = .call { callee := .builtin .append, args := #[s, x], argTypes := #[t, t] }) (hs : a.eval s = v) (hx : a.eval x = .slice A m c)
    (h : Sep w0 w Ps) (hi : Ps[i]? = some (Rw e size v n xs)) (hl : news.length = m * size) (hr : Has w B A news) (h1 : ∀ u ∈ news, u.oneCell' = true) (hlen : n + m ≤ maxLen) (hby : (n + m) * bytes ≤ 140737488355328)
    (hk : ∀ v' w', Sep w0 w' (Ps.set i (Rw e size v' (n + m) (xs ++ news))) → K (a.put o.dst v') w') : Oper.wp Try.prog o a w K Q := by
  obtain ⟨F, hb⟩ := h.get hi
  exact op_appW hT ho hs hx hb.1 hl hr h1 hlen hby fun v' w' h1 h3 h4 => hk v' w' (sep_rwGrown h hi h1 h3 h4)
theorem rowFrames : RowTy 30 51 10 96 := by
  obtain ⟨i0, hi, hz0, hz1, hz2⟩ := info_parts (show (Try.prog.info? 51).map (fun i => (i.zero, i.size, i.bytes)) = some (some (.agg #[.int .i64 0, .int .i64 0, .int .i64 0, .int .u64 0, .int .u64 0, .int .u64 0, .int .u64 0, .int .u64 0, .int .u64 0, .slice none 0 0]), 10, 96) by kernel_rfl)
  exact ⟨Try.underlying30, ⟨i0, _, hi, hz0, hz1, hz2, rfl⟩, by omega⟩
theorem rowEvents : RowTy 41 49 4 48 := by
  obtain ⟨i0, hi, hz0, hz1, hz2⟩ := info_parts (show (Try.prog.info? 49).map (fun i => (i.zero, i.size, i.bytes)) = some (some (.agg #[.int .i64 0, .int .i64 0, .int .u64 0, .slice none 0 0]), 4, 48) by kernel_rfl)
  exact ⟨Try.underlying41, ⟨i0, _, hi, hz0, hz1, hz2, rfl⟩, by omega⟩
end Go.Proofs.Ytngegjboenfmeaa
