/- Appends of bytes as a step of a region that draws its order. -/
import Derived.Test.YtngegjboenfmeaaRgB
import Derived.Test.YtngegjboenfmeaaRgS
namespace Go.Proofs.Ytngegjboenfmeaa
open Go Go.RowKit
set_option linter.unusedVariables false
theorem if_wanted {o : Oper} {y : Nat → Option Bool} {p q : Prop} (hg : o.guard = none) (h : p) : if Region.wanted o y = true then p else q := by
  rw [if_pos (by simp [Region.wanted, hg])]
  exact h
theorem op_app {w : World} {o : Oper} {a : Act} {K : Act → World → Prop} {Q : Exit → Act → World → Prop} {s x : Operand} {base B c : Nat} {v : Value} {A : Option Addr} {l m : List UInt8}
    (ho : o.op = .call { callee := .builtin .append, args := #[s, x], argTypes := #[47, 47] }) (hs : a.eval s = v) (hx : a.eval x = .slice A m.length c)
    (hown : Own w base v l) (hr : Has w B A (us m)) (hlen : l.length + m.length ≤ 100000000000000) (hbase : base ≤ w.heap.size)
    (h : ∀ v' w', Own w' base v' (l ++ m) → Below base w w' → w.grownBy w' v.ownBlock → (v'.ownBlock = v.ownBlock ∨ v'.ownBlock = some w.heap.size) → K (a.put o.dst v') w') : Oper.wp Try.prog o a w K Q := by
  obtain ⟨i0, hi, hz0, hz1, hz2⟩ := info_parts info_u8
  obtain ⟨v', w', hrun, h2, h3, h4⟩ := run_append_has (P := Try.prog) w base 47 o.type 5 i0 _ 1 1 Try.underlying47 hi hz0 hz1 hz2 rfl (by omega) v l.length (us l) hown B A m.length c (us m) (by rw [us_length, Nat.mul_one]) hr (us_one m) (by unfold maxLen; omega) (by omega) hbase
  unfold Oper.wp execOp
  simp only [ho, resolve, invoke, builtin, Sem.run_bind, Sem.run_pure, Result.andThen_ok, List.map_toArray, List.map_cons, List.map_nil, hs, hx, hrun]
  exact h v' w' (by unfold Own; rw [List.length_append, us_append]; exact h2) ((Below.refl _ _).grown h3 hbase (fun k hk => (hown.lt k hk).1)) h3 h4
end Go.Proofs.Ytngegjboenfmeaa
