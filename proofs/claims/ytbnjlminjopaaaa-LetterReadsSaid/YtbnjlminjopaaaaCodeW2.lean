/- The walks of package code's Writer: short numbers, texts, bytes. -/
import Derived.Test.YtbnjlminjopaaaaCodeW
import Derived.Lib.AppendStr
namespace Go.Proofs.Ytbnjlminjopaaaa
open Go Go.RowKit
set_option linter.unusedVariables false

theorem strCells_us (m : List UInt8) : Lib.strCells ⟨m.toArray⟩ = us m := by simp [Lib.strCells, us]
theorem size_str (m : List UInt8) : (⟨m.toArray⟩ : ByteArray).size = m.length := by simp [ByteArray.size]
/-- append a text onto a row of bytes of the call's own -/
theorem wp_app_str {w : World} {ops : Array Oper} {rest : List Oper} {o : Oper} {a : Act} {Q : Exit → Act → World → Prop} {s x : Operand} {base : Nat} {v : Value} {l m : List UInt8} (hgd : o.guard = none)
    (ho : o.op = .call { callee := .builtin .append, args := #[s, x], argTypes := #[27, 9] }) (hs : a.eval s = v) (hx : a.eval x = .string ⟨m.toArray⟩)
    (hown : Own w base v l) (hlen : l.length + m.length ≤ 100000000000000) (hbase : base ≤ w.heap.size)
    (h : ∀ v' w', Own w' base v' (l ++ m) → Below base w w' → w.grownBy w' v.ownBlock → (v'.ownBlock = v.ownBlock ∨ v'.ownBlock = some w.heap.size) → wpList Try.prog ops Q rest (a.put o.dst v') w') : wpList Try.prog ops Q (o :: rest) a w := by
  obtain ⟨i, hi, hz0, hz1, hz2⟩ := info_parts info_u8
  have hsz := size_str m
  refine wpList_plain hgd fun K hK => ?_
  obtain ⟨v', w', hr, h2, h3, _⟩ := Lib.run_append_own_string (P := Try.prog) w base 27 9 o.type 5 i Try.underlying27 Try.underlying9 hi hz0 hz1 hz2 v l.length (us l) hown ⟨m.toArray⟩ (by rw [hsz]; unfold maxLen; omega) (by rw [hsz]; omega) hbase
  have hat : v'.ownBlock = v.ownBlock ∨ v'.ownBlock = some w.heap.size := by
    rcases hown.2 with ⟨rfl, hn⟩ | ⟨g, cap, cur, rfl, hbg, hg, hnc, hcm, hcs, htake⟩
    · by_cases hm : m.length = 0
      · left
        have hm0 : m = [] := List.eq_nil_of_length_eq_zero hm
        subst hm0
        have h4 := h2.2
        have hl0 : l.length = 0 := hn
        have hr2 : (Builtin.append_ #[27, 9] o.type #[.slice none 0 0, .string ⟨([] : List UInt8).toArray⟩]).run Try.prog w = .ok (.slice none 0 0) w := by
          have hf := Lib.run_firstCells_string (P := Try.prog) w 1 ⟨([] : List UInt8).toArray⟩
          rw [size_str] at hf
          simp only [List.length_nil] at hf
          have hf' : (Builtin.firstCells 1 0 (Value.string ⟨#[]⟩)).run Try.prog w = .ok (Lib.strCells ⟨#[]⟩).toArray w := by simpa using hf
          simp [Builtin.append_, run_underlying Try.underlying27, run_underlying Try.underlying9, sizeOf, typeInfo, hi, hz1, Builtin.lenOf, ByteArray.size, hf']
        have e := hr.symm.trans hr2
        injection e with e _
        rw [e]
      · right
        have hr2 := run_append_nil_string (P := Try.prog) w 27 9 o.type 5 i _ Try.underlying27 Try.underlying9 hi hz0 ⟨m.toArray⟩ (by rw [hsz]; omega) (by rw [hsz]; omega) (by rw [hsz, hz2]; omega)
        have e := hr.symm.trans hr2
        injection e with e _
        rw [e]
        rfl
    · by_cases hroom : l.length + m.length ≤ cap
      · left
        have hr2 := Lib.run_append_room_string (P := Try.prog) w 27 9 o.type 5 i Try.underlying27 Try.underlying9 hi hz1 g l.length cap cur hg ⟨m.toArray⟩ (by rw [hsz]; exact hroom) (by rw [hsz]; omega)
        have e := hr.symm.trans hr2
        injection e with e _
        rw [e]
        rfl
      · right
        have hr2 := Lib.run_append_grow_string (P := Try.prog) w 27 9 o.type 5 i _ Try.underlying27 Try.underlying9 hi hz0 ⟨g, 0, none⟩ l.length cap (us l) (by rw [hz1, us_length, Nat.mul_one]) (hown.cells (g := g) rfl) ⟨m.toArray⟩ (by rw [hsz]; omega) (by rw [hsz]; omega) (by rw [hsz, hz2]; exact growslice_fits (by omega) (by omega))
        have e := hr.symm.trans hr2
        injection e with e _
        rw [e]
        rfl
  unfold Oper.wp execOp
  simp only [ho, resolve, invoke, builtin, Sem.run_bind, Sem.run_pure, Result.andThen_ok, List.map_toArray, List.map_cons, List.map_nil, hs, hx, hr]
  refine hK _ _ (h v' w' ?_ ((Below.refl _ _).grown h3 hbase (fun k hk => (hown.lt k hk).1)) h3 hat)
  unfold Own
  rw [List.length_append, us_append, ← strCells_us m, ← hsz]
  exact h2

/-- the store of a grown row, no block laid ahead of it -/
theorem Wtr.store0 {w w4 : World} {base g : Nat} {v v' : Value} {l l2 : List UInt8} (hv : w.heap[g]? = some (.cells #[v] 52 (0, 0))) (hown : Own w base v l) (hbg : base ≤ g)
    (h4 : Own w4 base v' l2) (hg : w.grownBy w4 v.ownBlock) (hat : v'.ownBlock = v.ownBlock ∨ v'.ownBlock = some w.heap.size) :
    w4.cell? ⟨g, 0, none⟩ = some v ∧ w4.frozen? ⟨g, 0, none⟩ = false ∧ Wtr (w4.setCell ⟨g, 0, none⟩ v') base g v'.ownBlock l2 ∧ Chg w (w4.setCell ⟨g, 0, none⟩ v') g v.ownBlock ∧ Moved w v.ownBlock v'.ownBlock := by
  have hw : Wtr w base g v.ownBlock l := ⟨v, hv, rfl, hown, hbg⟩
  have hlt := hw.lt
  have hne : some g ≠ v.ownBlock := fun e => (hw.row g e.symm).2.2 rfl
  have hb4 : w4.heap[g]? = some (.cells #[v] 52 (0, 0)) := by
    rw [hg.block g hlt hne]; exact hv
  have hne' : some g ≠ v'.ownBlock := by
    rcases hat with e | e
    · rw [e]; exact hne
    · rw [e]; simp; omega
  refine ⟨by rw [cell_of_row w4 g 0 _ _ _ hb4]; rfl, by simp [World.frozen?, hb4], ⟨v', ?_, rfl, ?_, hbg⟩, ⟨?_, ?_, ?_, ?_, ?_⟩, ?_⟩
  · simp [World.setCell, Array.getElem?_modify, hb4]
  · refine ⟨h4.1, ?_⟩
    rcases h4.2 with e | ⟨k, cap, cur, rfl, f1, f2, f3⟩
    · exact .inl e
    · refine .inr ⟨k, cap, cur, rfl, f1, ?_, f3⟩
      rw [Below.heap_setCell w4 ⟨g, 0, none⟩ _ k (fun e => hne' (by simp only at e; subst e; rfl))]
      exact f2
  · exact hg.os
  · exact hg.tape
  · exact hg.output
  · have := hg.size; simp only [World.setCell, Array.size_modify]; omega
  · intro k hk h1 h2
    rw [Below.heap_setCell w4 ⟨g, 0, none⟩ _ k h1, hg.block k hk h2]
  · rcases hat with e | e
    · exact .inl e
    · exact .inr ⟨_, e, Nat.le_refl _⟩

/-- what a writer's call leaves -/
def Writes (w : World) (base g : Nat) (r : Option Nat) (l : List UInt8) (e : Ending) (w' : World) : Prop := e = .returned (.tuple #[]) ∧ ∃ r', Wtr w' base g r' l ∧ Chg w w' g r ∧ Moved w r r'

theorem or_128 (y : Nat) (hy : y < 18446744073709551616) : bits .or .u64 (bits .and .u64 (y : Int) 127) 128 = ((y % 128 + 128 : Nat) : Int) := by
  rw [show (127 : Int) = ((127 : Nat) : Int) from rfl, u64_and_nat _ _ hy (by omega), nat_mask7, show (128 : Int) = ((128 : Nat) : Int) from rfl, u64_or_nat _ _ (by omega) (by omega), Nat.or_comm, nat_join 7 _ _ (by omega) (by omega)]
  omega

set_option maxRecDepth 100000 in
set_option maxHeartbeats 400000 in
theorem uint_any (w : World) (base g : Nat) (r : Option Nat) (l : List UInt8) (x : Nat) (hW : Wtr w base g r l) (hb : base ≤ w.heap.size) (hx : x < 18446744073709551616) (hl : l.length ≤ 1000000000) :
    Calls Try.prog 33 #[.pointer (some ⟨g, 0, none⟩), .int .u64 x] w (Writes w base g r (l ++ Code.short x)) := by
  have HW := Lib.hid hW
  have HX := Lib.hid hx
  clear hW hx
  go_enter Try.func33, Try.ntmps33
  go_wp2_with fail
  go_loopw [1] (fun xv wr => ∃ (y : Nat) (l' : List UInt8) (r' : Option Nat), Hid (y < 18446744073709551616) ∧ l'.length ≤ l.length + (Code.short x).length ∧ xv = .int .u64 y ∧ Hid (l ++ Code.short x = l' ++ Code.short y) ∧ Hid (Wtr wr base g r' l') ∧ Hid (Chg w wr g r) ∧ Hid (Moved w r r')) (fun xv _ => (intOf xv).toNat)
  case atStart => exact ⟨x, l, r, HX, by omega, rfl, Lib.hid rfl, HW, Lib.hid (Chg.refl _ _ _), Lib.hid (Moved.refl _ _)⟩
  case round =>
    obtain ⟨y, l', r', HY, hl', rfl, HE, HWr, HC, HM⟩ := hrel
    have hsl := (Code.short_length x).2
    by_cases hyt : 128 ≤ y
    · have e1 := or_128 y HY.out
      have HS := Lib.hid (Code.short_great y hyt HY.out)
      have hz : y % 128 + 128 < 256 := by omega
      generalize y % 128 + 128 = z at *
      go_wp2_with fail
      refine (wide_any wr base g r' l' z 1 HWr.out (Nat.le_trans hb HC.out.size) (by omega) (by omega) (by omega)).mono ?_
      rintro e w1 ⟨rfl, r1, hw1, hc1, hm1⟩
      have HW1 := Lib.hid hw1
      have HC1 := Lib.hid hc1
      have HM1 := Lib.hid hm1
      clear hw1 hc1 hm1 e1
      go_wp2_with fail
      go_roundw
      case rel =>
        refine ⟨y / 128, l' ++ Code.wide 1 z, r1, Lib.hid (by have := HY.out; omega), ?_, by go_num, ?_, HW1, Lib.hid (HC.out.trans HC1.out HM.out), Lib.hid (HM.out.trans HM1.out HC.out.size)⟩
        · have h1 := congrArg List.length HE.out
          rw [HS.out] at h1
          simp [Code.wide] at h1 ⊢
          omega
        · exact Lib.hid (by rw [HE.out, HS.out]; simp [Code.wide])
      case measure => simp [intOf]; omega
    · have HS := Lib.hid (Code.short_small y (by omega))
      go_wp2_with fail
      refine (wide_any wr base g r' l' y 1 HWr.out (Nat.le_trans hb HC.out.size) HY.out (by omega) (by omega)).mono ?_
      rintro e w1 ⟨rfl, r1, hw1, hc1, hm1⟩
      go_wp2_with fail
      go_end0
      exact ⟨rfl, r1, by rw [HE.out, HS.out]; exact hw1, HC.out.trans hc1 HM.out, HM.out.trans hm1 HC.out.size⟩
end Go.Proofs.Ytbnjlminjopaaaa
