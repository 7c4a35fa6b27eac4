/- Bytes of one's own as things that lie apart; an append to one of them. -/
import Derived.Test.YtmjhdjiglnkoiaaDoorSep
import Derived.Test.YtmjhdjiglnkoiaaDoorBytes
import Derived.Test.YtmjhdjiglnkoiaaDoorRgApp
namespace Go.Proofs.YtmjhdjiglnkoiaaDoor
open Go Go.RowKit
set_option linter.unusedVariables false
/-- bytes of one's own -/
def By (v : Value) (l : List UInt8) : SP := fun w F => Own w 0 v l ∧ ∀ k, F k ↔ v.ownBlock = some k
theorem own_keep {w w' : World} {base : Nat} {v : Value} {l : List UInt8} (h : Own w base v l) (hk : ∀ k, v.ownBlock = some k → w'.heap[k]? = w.heap[k]?) : Own w' base v l := by
  refine ⟨h.1, ?_⟩
  rcases h.2 with e | ⟨k, cap, cur, rfl, f1, f2, f3⟩
  · exact .inl e
  · exact .inr ⟨k, cap, cur, rfl, f1, by rw [hk k rfl]; exact f2, f3⟩
theorem By.loc (v : Value) (l : List UInt8) : Loc (By v l) where
  keep := by
    rintro w w' F ⟨h, hF⟩ hk
    exact ⟨own_keep h fun k hv => hk k ((hF k).2 hv), hF⟩
  lt := by
    rintro w F ⟨h, hF⟩ k hk
    exact (h.lt k ((hF k).1 hk)).2
theorem sep_byForm {w0 w : World} {Ps : List SP} {i : Nat} {v : Value} {l : List UInt8} (h : Sep w0 w Ps) (hi : Ps[i]? = some (By v l)) : ∃ A c, v = .slice A l.length c ∧ l.length ≤ c ∧ c ≤ maxLen ∧ Has w w.heap.size A (us l) := by
  obtain ⟨F, h⟩ := h.get hi
  exact h.1.form
theorem sep_byNil {w0 w : World} {Ps : List SP} (h : Sep w0 w Ps) : Sep w0 w (Ps ++ [By (.slice none 0 0) []]) :=
  h.add (F := fun _ => False) (Below.refl _ _) ⟨Own.nil _ _, fun k => by simp [Value.ownBlock]⟩ (By.loc _ _) (fun k h => h.elim)
theorem sep_byOwn {w0 w w' : World} {Ps : List SP} {v : Value} {l : List UInt8} (h : Sep w0 w Ps) (hb : Below w.heap.size w w') (ho : Own w' w.heap.size v l) : Sep w0 w' (Ps ++ [By v l]) :=
  h.add (F := fun k => v.ownBlock = some k) hb ⟨own_mono ho (Nat.zero_le _), fun k => Iff.rfl⟩ (By.loc _ _) fun k hk => (ho.lt k hk).1
theorem sep_grown {w0 w w' : World} {Ps : List SP} {i : Nat} {v v' : Value} {l l' : List UInt8} (h : Sep w0 w Ps) (hi : Ps[i]? = some (By v l)) (ho : Own w' 0 v' l') (hg : w.grownBy w' v.ownBlock) (hat : v'.ownBlock = v.ownBlock ∨ v'.ownBlock = some w.heap.size) : Sep w0 w' (Ps.set i (By v' l')) := by
  obtain ⟨F, ⟨h1, hF⟩, hL, hlt, hk⟩ := h.upd hi
  refine hk w' _ (fun k => v'.ownBlock = some k) ⟨hg.os, hg.tape, hg.output, hg.size, fun k hk hnF => hg.block k hk (fun e => hnF ((hF k).2 e.symm)), fun k hk => ?_⟩ ⟨ho, fun k => Iff.rfl⟩ (By.loc _ _)
  rcases hat with e | e
  · exact .inl ((hF k).2 (by rw [← e]; exact hk))
  · rw [e] at hk
    injection hk with hk
    exact .inr (by omega)
/-- an append, in a walk -/
theorem sep_app {w0 w : World} {Ps : List SP} {i : Nat} {ops : Array Oper} {rest : List Oper} {o : Oper} {a : Act} {Q : Exit → Act → World → Prop} {s x : Operand} {B c : Nat} {v : Value} {A : Option Addr} {l m : List UInt8} (hgd : o.guard = none)
    (ho : o.op = .call { callee := .builtin .append, args := #[s, x], argTypes := #[25, 25] }) (hs : a.eval s = v) (hx : a.eval x = .slice A m.length c)
    (h : Sep w0 w Ps) (hi : Ps[i]? = some (By v l)) (hr : Has w B A (us m)) (hlen : l.length + m.length ≤ 100000000000000)
    (hk : ∀ v' w', Sep w0 w' (Ps.set i (By v' (l ++ m))) → wpList Tryd.prog ops Q rest (a.put o.dst v') w') : wpList Tryd.prog ops Q (o :: rest) a w := by
  obtain ⟨F, hb⟩ := h.get hi
  exact wp_app hgd ho hs hx hb.1 hr hlen (Nat.zero_le _) fun v' w' h1 _ h3 h4 => hk v' w' (sep_grown h hi h1 h3 h4)
/-- an append, in a drawn region -/
theorem sep_opApp {w0 w : World} {Ps : List SP} {i : Nat} {o : Oper} {a : Act} {K : Act → World → Prop} {Q : Exit → Act → World → Prop} {s x : Operand} {B c : Nat} {v : Value} {A : Option Addr} {l m : List UInt8}
    (ho : o.op = .call { callee := .builtin .append, args := #[s, x], argTypes := #[25, 25] }) (hs : a.eval s = v) (hx : a.eval x = .slice A m.length c)
    (h : Sep w0 w Ps) (hi : Ps[i]? = some (By v l)) (hr : Has w B A (us m)) (hlen : l.length + m.length ≤ 100000000000000)
    (hk : ∀ v' w', Sep w0 w' (Ps.set i (By v' (l ++ m))) → K (a.put o.dst v') w') : Oper.wp Tryd.prog o a w K Q := by
  obtain ⟨F, hb⟩ := h.get hi
  exact op_app ho hs hx hb.1 hr hlen (Nat.zero_le _) fun v' w' h1 _ h3 h4 => hk v' w' (sep_grown h hi h1 h3 h4)
end Go.Proofs.YtmjhdjiglnkoiaaDoor
