/- Rows of numbers of one's own as things that lie apart; eleven cells written; what is decoded. -/
import Derived.Test.YtbnjlminjopaaaaLetQ
import Derived.Test.YtbnjlminjopaaaaCodeRef
import Derived.Test.YtbnjlminjopaaaaRgApp
namespace Go.Proofs.Ytbnjlminjopaaaa
open Go Go.RowKit
set_option linter.unusedVariables false
set_option maxRecDepth 100000

section
variable {w0 w : World} {Ps : List SP}
/-- eleven cells are written -/
theorem sep_put11 {i g : Nat} {t : TypeId} {vs : Array Value} (h : Sep w0 w Ps) (hi : Ps[i]? = some (Ce g t vs)) (a0 a1 a2 a3 a4 a5 a6 a7 a8 a9 a10 : Value) :
    ∃ vs', Sep w0 (((((((((((w.setCell ⟨g, 0, none⟩ a0).setCell ⟨g, 1, none⟩ a1).setCell ⟨g, 2, none⟩ a2).setCell ⟨g, 3, none⟩ a3).setCell ⟨g, 4, none⟩ a4).setCell ⟨g, 5, none⟩ a5).setCell ⟨g, 6, none⟩ a6).setCell ⟨g, 7, none⟩ a7).setCell ⟨g, 8, none⟩ a8).setCell ⟨g, 9, none⟩ a9).setCell ⟨g, 10, none⟩ a10) (Ps.set i (Ce g t vs')) := by
  obtain ⟨_, h, hi⟩ := sep_ceSet' h hi 0 a0
  obtain ⟨_, h, hi⟩ := sep_ceSet' h hi 1 a1
  obtain ⟨_, h, hi⟩ := sep_ceSet' h hi 2 a2
  obtain ⟨_, h, hi⟩ := sep_ceSet' h hi 3 a3
  obtain ⟨_, h, hi⟩ := sep_ceSet' h hi 4 a4
  obtain ⟨_, h, hi⟩ := sep_ceSet' h hi 5 a5
  obtain ⟨_, h, hi⟩ := sep_ceSet' h hi 6 a6
  obtain ⟨_, h, hi⟩ := sep_ceSet' h hi 7 a7
  obtain ⟨_, h, hi⟩ := sep_ceSet' h hi 8 a8
  obtain ⟨_, h, hi⟩ := sep_ceSet' h hi 9 a9
  obtain ⟨vs', h, hi⟩ := sep_ceSet' h hi 10 a10
  simp only [List.set_set] at h
  exact ⟨vs', h⟩
end

/-- numbers of one's own -/
def Uv (v : Value) (l : List Nat) : SP := fun w F => OwnU w 0 v l ∧ ∀ k, F k ↔ v.ownBlock = some k
theorem ownU_keep {w w' : World} {base : Nat} {v : Value} {l : List Nat} (h : OwnU w base v l) (hk : ∀ k, v.ownBlock = some k → w'.heap[k]? = w.heap[k]?) : OwnU w' base v l := by
  refine ⟨h.1, ?_⟩
  rcases h.2 with e | ⟨k, cap, cur, rfl, f1, f2, f3⟩
  · exact .inl e
  · exact .inr ⟨k, cap, cur, rfl, f1, by rw [hk k rfl]; exact f2, f3⟩
theorem Uv.loc (v : Value) (l : List Nat) : Loc (Uv v l) where
  keep := by
    rintro w w' F ⟨h, hF⟩ hk
    exact ⟨ownU_keep h fun k hv => hk k ((hF k).2 hv), hF⟩
  lt := by
    rintro w F ⟨h, hF⟩ k hk
    exact (h.lt k ((hF k).1 hk)).2
theorem OwnU.nil (w : World) (base : Nat) : OwnU w base (.slice none 0 0) [] := ⟨rfl, .inl ⟨rfl, rfl⟩⟩
theorem sep_uvForm {w0 w : World} {Ps : List SP} {i : Nat} {v : Value} {l : List Nat} (h : Sep w0 w Ps) (hi : Ps[i]? = some (Uv v l)) : ∃ A c, v = .slice A l.length c ∧ l.length ≤ c ∧ c ≤ maxLen ∧ Has w w.heap.size A (u64s l) := by
  obtain ⟨F, h⟩ := h.get hi
  exact h.1.form
theorem sep_uvNil {w0 w : World} {Ps : List SP} (h : Sep w0 w Ps) : Sep w0 w (Ps ++ [Uv (.slice none 0 0) []]) :=
  h.add (F := fun _ => False) (Below.refl _ _) ⟨OwnU.nil _ _, fun k => by simp [Value.ownBlock]⟩ (Uv.loc _ _) (fun k h => h.elim)
theorem sep_uvGrown {w0 w w' : World} {Ps : List SP} {i : Nat} {v v' : Value} {l l' : List Nat} (h : Sep w0 w Ps) (hi : Ps[i]? = some (Uv v l)) (ho : OwnU w' 0 v' l') (hg : w.grownBy w' v.ownBlock) (hat : v'.ownBlock = v.ownBlock ∨ v'.ownBlock = some w.heap.size) : Sep w0 w' (Ps.set i (Uv v' l')) := by
  obtain ⟨F, ⟨h1, hF⟩, hL, hlt, hk⟩ := h.upd hi
  refine hk w' _ (fun k => v'.ownBlock = some k) ⟨hg.os, hg.tape, hg.output, hg.size, fun k hk hnF => hg.block k hk (fun e => hnF ((hF k).2 e.symm)), fun k hk => ?_⟩ ⟨ho, fun k => Iff.rfl⟩ (Uv.loc _ _)
  rcases hat with e | e
  · exact .inl ((hF k).2 (by rw [← e]; exact hk))
  · rw [e] at hk
    injection hk with hk
    exact .inr (by omega)
/-- an append of numbers, in a drawn region -/
theorem op_appU {w : World} {o : Oper} {a : Act} {K : Act → World → Prop} {Q : Exit → Act → World → Prop} {s x : Operand} {base B c : Nat} {v : Value} {A : Option Addr} {l m : List Nat}
    (ho : o.op = .call { callee := .builtin .append, args := #[s, x], argTypes := #[28, 28] }) (hs : a.eval s = v) (hx : a.eval x = .slice A m.length c)
    (hown : OwnU w base v l) (hr : Has w B A (u64s m)) (hlen : l.length + m.length ≤ 1000000000000) (hbase : base ≤ w.heap.size)
    (h : ∀ v' w', OwnU w' base v' (l ++ m) → Below base w w' → w.grownBy w' v.ownBlock → (v'.ownBlock = v.ownBlock ∨ v'.ownBlock = some w.heap.size) → K (a.put o.dst v') w') : Oper.wp Try.prog o a w K Q := by
  obtain ⟨i0, hi, hz0, hz1, hz2⟩ := info_parts info_u64
  obtain ⟨v', w', hrun, h2, h3, h4⟩ := run_append_has (P := Try.prog) w base 28 o.type 22 i0 _ 1 8 Try.underlying28 hi hz0 hz1 hz2 rfl (by omega) v l.length (u64s l) hown B A m.length c (u64s m) (by rw [u64s_length, Nat.mul_one]) hr (fun u hu => by obtain ⟨z, _, rfl⟩ := List.mem_map.1 hu; rfl) (by unfold maxLen; omega) (by omega) hbase
  unfold Oper.wp execOp
  simp only [ho, resolve, invoke, builtin, Sem.run_bind, Sem.run_pure, Result.andThen_ok, List.map_toArray, List.map_cons, List.map_nil, hs, hx, hrun]
  exact h v' w' (by unfold OwnU; rw [List.length_append, (show u64s (l ++ m) = u64s l ++ u64s m by simp [u64s])]; exact h2) ((Below.refl _ _).grown h3 hbase (fun k hk => (hown.lt k hk).1)) h3 h4
theorem sep_opAppU {w0 w : World} {Ps : List SP} {i : Nat} {o : Oper} {a : Act} {K : Act → World → Prop} {Q : Exit → Act → World → Prop} {s x : Operand} {B c : Nat} {v : Value} {A : Option Addr} {l m : List Nat}
    (ho : o.op = .call { callee := .builtin .append, args := #[s, x], argTypes := #[28, 28] }) (hs : a.eval s = v) (hx : a.eval x = .slice A m.length c)
    (h : Sep w0 w Ps) (hi : Ps[i]? = some (Uv v l)) (hr : Has w B A (u64s m)) (hlen : l.length + m.length ≤ 1000000000000)
    (hk : ∀ v' w', Sep w0 w' (Ps.set i (Uv v' (l ++ m))) → K (a.put o.dst v') w') : Oper.wp Try.prog o a w K Q := by
  obtain ⟨F, hb⟩ := h.get hi
  exact op_appU ho hs hx hb.1 hr hlen (Nat.zero_le _) fun v' w' h1 _ h3 h4 => hk v' w' (sep_uvGrown h hi h1 h3 h4)

/-- a body in memory of its own -/
def BodyAt (w : World) (base : Nat) (A : Option Addr) (c : Nat) (l : List UInt8) : Prop :=
  (A = none ∧ c = 0 ∧ l = []) ∨ ∃ g, A = some ⟨g, 0, none⟩ ∧ base ≤ g ∧ g < w.heap.size ∧ ∀ j (hj : j < l.length), w.cell? ⟨g, j, none⟩ = some (.int .u8 (l[j].toNat : Int)) ∧ w.frozen? ⟨g, j, none⟩ = false
theorem BodyAt.has {w : World} {base c : Nat} {A : Option Addr} {l : List UInt8} (h : BodyAt w base A c l) : Has w w.heap.size A (us l) := by
  rcases h with ⟨rfl, rfl, rfl⟩ | ⟨g, rfl, h1, h2, h3⟩
  · exact Has.nil
  · intro j u hu
    have hj : j < l.length := by
      rcases Nat.lt_or_ge j l.length with h | h
      · exact h
      · rw [List.getElem?_eq_none (by rw [us_length]; exact h)] at hu; cases hu
    rw [us_at hj] at hu
    exact ⟨g, 0, rfl, h2, by rw [Nat.zero_add, (h3 j hj).1]; exact hu⟩
theorem sep_bodyAt {w0 w : World} {Ps : List SP} {i n c g : Nat} {l : List UInt8} (h : Sep w0 w Ps) (hi : Ps[i]? = some (Cv (.slice (some ⟨g, 0, none⟩) n c) l)) : BodyAt w w0.heap.size (some ⟨g, 0, none⟩) c l := by
  obtain ⟨F, ⟨g', c', e, hg, hc, hF⟩, _, hlt, _⟩ := h.upd hi
  injection e with e1 e2 e3
  injection e1 with e1
  injection e1 with e1 _
  subst e1
  exact .inr ⟨g, rfl, (hlt g ((hF g).2 rfl)).1, hg, hc⟩
theorem sep_uvOwn {w0 w : World} {Ps : List SP} {i : Nat} {v : Value} {l : List Nat} (h : Sep w0 w Ps) (hi : Ps[i]? = some (Uv v l)) : OwnU w w0.heap.size v l := by
  obtain ⟨F, ⟨h1, hF⟩, _, hlt, _⟩ := h.upd hi
  refine ⟨h1.1, ?_⟩
  rcases h1.2 with e | ⟨k, cap, cur, rfl, f1, f2⟩
  · exact .inl e
  · exact .inr ⟨k, cap, cur, rfl, (hlt k ((hF k).2 rfl)).1, f2⟩
/-- what is decoded: the body and the cut lie apart, from w on -/
def DecsL (okv errv : Value) (w : World) (b : List UInt8) (e : Ending) (w' : World) : Prop :=
  (∃ x A c A2 c2, IsLt b x ∧ e = .returned (.tuple #[.agg (x.cells A c A2 c2), okv]) ∧ BodyAt w' w.heap.size A c x.body ∧ OwnU w' w.heap.size (.slice A2 x.cut.length c2) x.cut ∧ Below w.heap.size w w') ∨
  ((∀ x, ¬ IsLt b x) ∧ e = .returned (.tuple #[.agg (Lt.nil.cells none 0 none 0), errv]) ∧ Below w.heap.size w w')
end Go.Proofs.Ytbnjlminjopaaaa
