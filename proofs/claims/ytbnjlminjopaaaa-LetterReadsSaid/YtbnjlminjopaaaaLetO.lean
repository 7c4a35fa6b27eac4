/- Bytes of one's own as things that lie apart, on: a row of given bytes, an append. -/
import Derived.Test.YtbnjlminjopaaaaSepCode
import Derived.Test.YtbnjlminjopaaaaRgApp
namespace Go.Proofs.Ytbnjlminjopaaaa
open Go Go.RowKit
set_option linter.unusedVariables false
set_option maxRecDepth 100000

theorem own_lit (w : World) (m : List UInt8) (hm : m.length ≤ maxLen) : Own (w.alloc (.cells (us m).toArray 5)) w.heap.size (.slice (some ⟨w.heap.size, 0, none⟩) m.length m.length) m := by
  exact ⟨by simp [us], .inr ⟨w.heap.size, m.length, (us m).toArray, rfl, Nat.le_refl _, heap_alloc_new w _, Nat.le_refl _, hm, by simp [us], by rw [Nat.mul_one, ← us_length m]; simp⟩⟩
theorem sep_lit {w0 w : World} {Ps : List SP} (h : Sep w0 w Ps) (m : List UInt8) (hm : m.length ≤ maxLen) : Sep w0 (w.alloc (.cells (us m).toArray 5)) (Ps ++ [By (.slice (some ⟨w.heap.size, 0, none⟩) m.length m.length) m]) :=
  h.add (F := fun k => k = w.heap.size) ((Below.refl _ _).alloc (Nat.le_refl _) _) ⟨own_mono (own_lit w m hm) (Nat.zero_le _), fun k => by simp [Value.ownBlock, eq_comm]⟩ (By.loc _ _) (fun k hk => by omega)
theorem sep_empty {w0 w : World} {Ps : List SP} (h : Sep w0 w Ps) : Sep w0 (w.alloc (.cells #[] 5)) (Ps ++ [By (.slice (some ⟨w.heap.size, 0, none⟩) 0 0) []]) := sep_lit h [] (Nat.zero_le _)
theorem sep_byNilB {w0 w : World} {Ps : List SP} (h : Sep w0 w Ps) : Sep w0 w (Ps ++ [By (.slice none 0 0) []]) :=
  h.add (F := fun _ => False) (Below.refl _ _) ⟨Own.nil _ _, fun k => by simp [Value.ownBlock]⟩ (By.loc _ _) (fun k h => h.elim)
theorem sep_grownB {w0 w w' : World} {Ps : List SP} {i : Nat} {v v' : Value} {l l' : List UInt8} (h : Sep w0 w Ps) (hi : Ps[i]? = some (By v l)) (ho : Own w' 0 v' l') (hg : w.grownBy w' v.ownBlock) (hat : v'.ownBlock = v.ownBlock ∨ v'.ownBlock = some w.heap.size) : Sep w0 w' (Ps.set i (By v' l')) := by
  obtain ⟨F, ⟨h1, hF⟩, hL, hlt, hk⟩ := h.upd hi
  refine hk w' _ (fun k => v'.ownBlock = some k) ⟨hg.os, hg.tape, hg.output, hg.size, fun k hk hnF => hg.block k hk (fun e => hnF ((hF k).2 e.symm)), fun k hk => ?_⟩ ⟨ho, fun k => Iff.rfl⟩ (By.loc _ _)
  rcases hat with e | e
  · exact .inl ((hF k).2 (by rw [← e]; exact hk))
  · rw [e] at hk
    injection hk with hk
    exact .inr (by omega)
theorem sep_appB {w0 w : World} {Ps : List SP} {i : Nat} {ops : Array Oper} {rest : List Oper} {o : Oper} {a : Act} {Q : Exit → Act → World → Prop} {s x : Operand} {B c : Nat} {v : Value} {A : Option Addr} {l m : List UInt8} (hgd : o.guard = none)
    (ho : o.op = .call { callee := .builtin .append, args := #[s, x], argTypes := #[27, 27] }) (hs : a.eval s = v) (hx : a.eval x = .slice A m.length c)
    (h : Sep w0 w Ps) (hi : Ps[i]? = some (By v l)) (hr : Has w B A (us m)) (hlen : l.length + m.length ≤ 100000000000000)
    (hk : ∀ v' w', Sep w0 w' (Ps.set i (By v' (l ++ m))) → wpList Try.prog ops Q rest (a.put o.dst v') w') : wpList Try.prog ops Q (o :: rest) a w := by
  obtain ⟨F, hb⟩ := h.get hi
  exact wp_app hgd ho hs hx hb.1 hr hlen (Nat.zero_le _) fun v' w' h1 _ h3 h4 => hk v' w' (sep_grownB h hi h1 h3 h4)
/-- an append, in a drawn region -/
theorem sep_opAppB {w0 w : World} {Ps : List SP} {i : Nat} {o : Oper} {a : Act} {K : Act → World → Prop} {Q : Exit → Act → World → Prop} {s x : Operand} {B c : Nat} {v : Value} {A : Option Addr} {l m : List UInt8}
    (ho : o.op = .call { callee := .builtin .append, args := #[s, x], argTypes := #[27, 27] }) (hs : a.eval s = v) (hx : a.eval x = .slice A m.length c)
    (h : Sep w0 w Ps) (hi : Ps[i]? = some (By v l)) (hr : Has w B A (us m)) (hlen : l.length + m.length ≤ 100000000000000)
    (hk : ∀ v' w', Sep w0 w' (Ps.set i (By v' (l ++ m))) → K (a.put o.dst v') w') : Oper.wp Try.prog o a w K Q := by
  obtain ⟨F, hb⟩ := h.get hi
  exact op_app ho hs hx hb.1 hr hlen (Nat.zero_le _) fun v' w' h1 _ h3 h4 => hk v' w' (sep_grownB h hi h1 h3 h4)
/-- from where on the bytes lie -/
theorem sep_byFrom {w0 w : World} {Ps : List SP} {i : Nat} {v : Value} {l : List UInt8} (h : Sep w0 w Ps) (hi : Ps[i]? = some (By v l)) : Own w w0.heap.size v l := by
  obtain ⟨F, ⟨h1, hF⟩, _, hlt, _⟩ := h.upd hi
  refine ⟨h1.1, ?_⟩
  rcases h1.2 with e | ⟨k, cap, cur, rfl, f1, f2, f3⟩
  · exact .inl e
  · exact .inr ⟨k, cap, cur, rfl, (hlt k ((hF k).2 rfl)).1, f2, f3⟩
theorem sep_byHas {w0 w : World} {Ps : List SP} {i n c : Nat} {A : Option Addr} {l : List UInt8} (h : Sep w0 w Ps) (hi : Ps[i]? = some (By (.slice A n c) l)) : Has w w.heap.size A (us l) := by
  obtain ⟨A', c', e, _, _, hh⟩ := sep_byForm h hi
  injection e with e
  subst e
  exact hh
end Go.Proofs.Ytbnjlminjopaaaa
