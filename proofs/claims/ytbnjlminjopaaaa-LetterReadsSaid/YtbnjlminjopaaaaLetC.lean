/- The walk of the document's Copy of a letter. -/
import Derived.Test.YtbnjlminjopaaaaLetO
import Derived.Test.YtbnjlminjopaaaaLetU
namespace Go.Proofs.Ytbnjlminjopaaaa
open Go Go.RowKit
set_option linter.unusedVariables false
set_option maxRecDepth 100000

theorem sep_appU {w0 w : World} {Ps : List SP} {i : Nat} {ops : Array Oper} {rest : List Oper} {o : Oper} {a : Act} {Q : Exit → Act → World → Prop} {s x : Operand} {B c : Nat} {v : Value} {A : Option Addr} {l m : List Nat} (hgd : o.guard = none)
    (ho : o.op = .call { callee := .builtin .append, args := #[s, x], argTypes := #[28, 28] }) (hs : a.eval s = v) (hx : a.eval x = .slice A m.length c)
    (h : Sep w0 w Ps) (hi : Ps[i]? = some (Uv v l)) (hr : Has w B A (u64s m)) (hlen : l.length + m.length ≤ 1000000000000)
    (hk : ∀ v' w', Sep w0 w' (Ps.set i (Uv v' (l ++ m))) → wpList Try.prog ops Q rest (a.put o.dst v') w') : wpList Try.prog ops Q (o :: rest) a w := by
  obtain ⟨F, hb⟩ := h.get hi
  exact wp_app_u64s hgd ho hs hx hb.1 hr hlen (Nat.zero_le _) fun v' w' h1 _ h3 h4 => hk v' w' (sep_uvGrown h hi h1 h3 h4)
theorem sep_uvEmpty {w0 w : World} {Ps : List SP} (h : Sep w0 w Ps) : Sep w0 (w.alloc (.cells #[] 22)) (Ps ++ [Uv (.slice (some ⟨w.heap.size, 0, none⟩) 0 0) []]) :=
  h.add (F := fun k => k = w.heap.size) ((Below.refl _ _).alloc (Nat.le_refl _) _) ⟨⟨by simp [u64s], .inr ⟨w.heap.size, 0, #[], rfl, Nat.zero_le _, heap_alloc_new w _, Nat.le_refl _, Nat.zero_le _, by simp, by simp [u64s]⟩⟩, fun k => by simp [Value.ownBlock, eq_comm]⟩ (Uv.loc _ _) (fun k hk => by omega)

set_option maxHeartbeats 3200000 in
theorem copy10_any (w : World) (B : Nat) (x : Lt) (A E : Option Addr) (c d : Nat) (hA : Has w B A (us x.body)) (hE : Has w B E (u64s x.cut)) (hB : B ≤ w.heap.size) (h1 : x.body.length ≤ 5000) (h2 : x.cut.length ≤ 300) :
    Calls Try.prog 15 #[.agg (x.cells A c E d)] w fun e w' => ∃ A' c' E' d', e = .returned (.agg (x.cells A' c' E' d')) ∧ Own w' w.heap.size (.slice A' x.body.length c') x.body ∧ OwnU w' w.heap.size (.slice E' x.cut.length d') x.cut ∧ Below w.heap.size w w' := by
  have HA := Lib.hid (hA.more hB)
  have HE := Lib.hid (hE.more hB)
  clear hA hE hB
  obtain ⟨kind, node, pinc, round, snode, sinc, n, body, cid, cut, want⟩ := x
  simp only at HA HE h1 h2
  have HS0 := Lib.hid (show Sep w (((w.alloc (.cells #[.int .i64 kind, .int .i64 node, .int .u64 (pinc : Int), .int .u64 (round : Int), .int .i64 snode, .int .u64 (sinc : Int), .int .u64 (n : Int), .slice A body.length c, .int .u64 (cid : Int), .slice E cut.length d, .bool want] 30)).alloc (.cells #[.int .i64 0, .int .i64 0, .int .u64 0, .int .u64 0, .int .i64 0, .int .u64 0, .int .u64 0, .slice none 0 0, .int .u64 0, .slice none 0 0, .bool false] 30)).alloc (.cells #[] 5)) [Ce w.heap.size 30 #[.int .i64 kind, .int .i64 node, .int .u64 (pinc : Int), .int .u64 (round : Int), .int .i64 snode, .int .u64 (sinc : Int), .int .u64 (n : Int), .slice A body.length c, .int .u64 (cid : Int), .slice E cut.length d, .bool want], Ce (w.heap.size + 1) 30 #[.int .i64 0, .int .i64 0, .int .u64 0, .int .u64 0, .int .i64 0, .int .u64 0, .int .u64 0, .slice none 0 0, .int .u64 0, .slice none 0 0, .bool false], By (.slice (some ⟨w.heap.size + 1 + 1, 0, none⟩) 0 0) []] by
    have := sep_empty (sep_ce (sep_ce (Sep.nil w) #[.int .i64 kind, .int .i64 node, .int .u64 (pinc : Int), .int .u64 (round : Int), .int .i64 snode, .int .u64 (sinc : Int), .int .u64 (n : Int), .slice A body.length c, .int .u64 (cid : Int), .slice E cut.length d, .bool want] 30) #[.int .i64 0, .int .i64 0, .int .u64 0, .int .u64 0, .int .i64 0, .int .u64 0, .int .u64 0, .slice none 0 0, .int .u64 0, .slice none 0 0, .bool false] 30)
    simp only [World.size_alloc] at this
    exact this)
  simp only [Lt.cells]
  go_enter Try.func15, Try.ntmps15
  go_wp2_with (at_builtin; first
    | (have ck := HS0; clear ck; go_must (refine sep_appB (i := 2) (m := body) rfl rfl (by rfl) (by rfl) HS0.out rfl (HS0.out.has HA.out) (by simp; omega) ?_); intro v1 w1 hs1
       have HS1 : Hid (Sep w w1 [Ce w.heap.size 30 #[.int .i64 kind, .int .i64 node, .int .u64 (pinc : Int), .int .u64 (round : Int), .int .i64 snode, .int .u64 (sinc : Int), .int .u64 (n : Int), .slice A body.length c, .int .u64 (cid : Int), .slice E cut.length d, .bool want], Ce (w.heap.size + 1) 30 #[.int .i64 0, .int .i64 0, .int .u64 0, .int .u64 0, .int .i64 0, .int .u64 0, .int .u64 0, .slice none 0 0, .int .u64 0, .slice none 0 0, .bool false], By v1 body]) := Lib.hid hs1
       obtain ⟨A1, c1, rfl, _, _, _⟩ := sep_byForm (i := 2) HS1.out rfl
       clear hs1 HS0
       have k0 := sep_ceAt (i := 0) HS1.out rfl 0 rfl
       have k1 := sep_ceAt (i := 0) HS1.out rfl 1 rfl
       have k2 := sep_ceAt (i := 0) HS1.out rfl 2 rfl
       have k3 := sep_ceAt (i := 0) HS1.out rfl 3 rfl
       have k4 := sep_ceAt (i := 0) HS1.out rfl 4 rfl
       have k5 := sep_ceAt (i := 0) HS1.out rfl 5 rfl
       have k6 := sep_ceAt (i := 0) HS1.out rfl 6 rfl
       have k7 := sep_ceAt (i := 0) HS1.out rfl 7 rfl
       have k8 := sep_ceAt (i := 0) HS1.out rfl 8 rfl
       have k9 := sep_ceAt (i := 0) HS1.out rfl 9 rfl
       have k10 := sep_ceAt (i := 0) HS1.out rfl 10 rfl
       have y7 := sep_ceFrozen (i := 0) HS1.out rfl 7
       have HS2 : Hid (Sep w ((w1.setCell ⟨w.heap.size, 7, none⟩ (.slice A1 body.length c1)).alloc (.cells #[] 22)) [Ce w.heap.size 30 #[.int .i64 kind, .int .i64 node, .int .u64 (pinc : Int), .int .u64 (round : Int), .int .i64 snode, .int .u64 (sinc : Int), .int .u64 (n : Int), .slice A1 body.length c1, .int .u64 (cid : Int), .slice E cut.length d, .bool want], Ce (w.heap.size + 1) 30 #[.int .i64 0, .int .i64 0, .int .u64 0, .int .u64 0, .int .i64 0, .int .u64 0, .int .u64 0, .slice none 0 0, .int .u64 0, .slice none 0 0, .bool false], By (.slice A1 body.length c1) body, Uv (.slice (some ⟨w1.heap.size, 0, none⟩) 0 0) []]) := Lib.hid (by
         have := sep_uvEmpty (sep_ceSet (i := 0) HS1.out rfl 7 (.slice A1 body.length c1))
         rw [show (w1.setCell ⟨w.heap.size, 7, none⟩ (.slice A1 body.length c1)).heap.size = w1.heap.size by simp [World.setCell]] at this
         exact this)
       clear HS1
       have m9 := sep_ceAt (i := 0) HS2.out rfl 9 rfl)
    | (have ck := HS2; clear ck; go_must (refine sep_appU (i := 3) (m := cut) rfl rfl (by rfl) (by rfl) HS2.out rfl (HS2.out.has HE.out) (by simp; omega) ?_); intro v2 w2 hs2
       have HS3 : Hid (Sep w w2 [Ce w.heap.size 30 #[.int .i64 kind, .int .i64 node, .int .u64 (pinc : Int), .int .u64 (round : Int), .int .i64 snode, .int .u64 (sinc : Int), .int .u64 (n : Int), .slice A1 body.length c1, .int .u64 (cid : Int), .slice E cut.length d, .bool want], Ce (w.heap.size + 1) 30 #[.int .i64 0, .int .i64 0, .int .u64 0, .int .u64 0, .int .i64 0, .int .u64 0, .int .u64 0, .slice none 0 0, .int .u64 0, .slice none 0 0, .bool false], By (.slice A1 body.length c1) body, Uv v2 cut]) := Lib.hid hs2
       obtain ⟨A2, c2, rfl, _, _, _⟩ := sep_uvForm (i := 3) HS3.out rfl
       clear hs2 HS2 k0 k1 k2 k3 k4 k5 k6 k7 k8 k9 k10 y7 m9
       have k0 := sep_ceAt (i := 0) HS3.out rfl 0 rfl
       have k1 := sep_ceAt (i := 0) HS3.out rfl 1 rfl
       have k2 := sep_ceAt (i := 0) HS3.out rfl 2 rfl
       have k3 := sep_ceAt (i := 0) HS3.out rfl 3 rfl
       have k4 := sep_ceAt (i := 0) HS3.out rfl 4 rfl
       have k5 := sep_ceAt (i := 0) HS3.out rfl 5 rfl
       have k6 := sep_ceAt (i := 0) HS3.out rfl 6 rfl
       have k7 := sep_ceAt (i := 0) HS3.out rfl 7 rfl
       have k8 := sep_ceAt (i := 0) HS3.out rfl 8 rfl
       have k9 := sep_ceAt (i := 0) HS3.out rfl 9 rfl
       have k10 := sep_ceAt (i := 0) HS3.out rfl 10 rfl
       have y9 := sep_ceFrozen (i := 0) HS3.out rfl 9
       have z0 := sep_ceAt (i := 1) HS3.out rfl 0 rfl
       have z1 := sep_ceAt (i := 1) HS3.out rfl 1 rfl
       have z2 := sep_ceAt (i := 1) HS3.out rfl 2 rfl
       have z3 := sep_ceAt (i := 1) HS3.out rfl 3 rfl
       have z4 := sep_ceAt (i := 1) HS3.out rfl 4 rfl
       have z5 := sep_ceAt (i := 1) HS3.out rfl 5 rfl
       have z6 := sep_ceAt (i := 1) HS3.out rfl 6 rfl
       have z7 := sep_ceAt (i := 1) HS3.out rfl 7 rfl
       have z8 := sep_ceAt (i := 1) HS3.out rfl 8 rfl
       have z9 := sep_ceAt (i := 1) HS3.out rfl 9 rfl
       have z10 := sep_ceAt (i := 1) HS3.out rfl 10 rfl
       have x0 := sep_ceFrozen (i := 1) HS3.out rfl 0
       have x1 := sep_ceFrozen (i := 1) HS3.out rfl 1
       have x2 := sep_ceFrozen (i := 1) HS3.out rfl 2
       have x3 := sep_ceFrozen (i := 1) HS3.out rfl 3
       have x4 := sep_ceFrozen (i := 1) HS3.out rfl 4
       have x5 := sep_ceFrozen (i := 1) HS3.out rfl 5
       have x6 := sep_ceFrozen (i := 1) HS3.out rfl 6
       have x7 := sep_ceFrozen (i := 1) HS3.out rfl 7
       have x8 := sep_ceFrozen (i := 1) HS3.out rfl 8
       have x9 := sep_ceFrozen (i := 1) HS3.out rfl 9
       have x10 := sep_ceFrozen (i := 1) HS3.out rfl 10
       skip))
  obtain ⟨_, hs5⟩ := sep_put11 (i := 1) (sep_ceSet (i := 0) HS3.out rfl 9 (.slice A2 cut.length c2)) rfl (.int .i64 kind) (.int .i64 node) (.int .u64 (pinc : Int)) (.int .u64 (round : Int)) (.int .i64 snode) (.int .u64 (sinc : Int)) (.int .u64 (n : Int)) (.slice A1 body.length c1) (.int .u64 (cid : Int)) (.slice A2 cut.length c2) (.bool want)
  have HS5 : Hid (Sep w _ [_, _, By (.slice A1 body.length c1) body, Uv (.slice A2 cut.length c2) cut]) := Lib.hid hs5
  clear hs5
  refine bodyPost_ret (v := .agg #[.int .i64 kind, .int .i64 node, .int .u64 (pinc : Int), .int .u64 (round : Int), .int .i64 snode, .int .u64 (sinc : Int), .int .u64 (n : Int), .slice A1 body.length c1, .int .u64 (cid : Int), .slice A2 cut.length c2, .bool want]) (by simp [results, Try.results15, go_sem, z0, z1, z2, z3, z4, z5, z6, z7, z8, z9, z10]) rfl ?_
  exact ⟨A1, c1, A2, c2, rfl, sep_byFrom (i := 2) HS5.out rfl, sep_uvOwn (i := 3) HS5.out rfl, HS5.out.bel⟩
end Go.Proofs.Ytbnjlminjopaaaa
