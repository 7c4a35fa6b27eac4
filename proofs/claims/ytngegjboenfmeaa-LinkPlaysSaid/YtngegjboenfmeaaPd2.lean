/- Part 2 of the texts of a claim: WinA SepL LnkG WinB WinC WinD WinE WinF WinG WinGS Lnk7 Lnk8 LnkA LnkC LnkD LnkE LkS RkA RkB WinH WinT WinL WinW WinO -/
import Derived.Test.YtngegjboenfmeaaPd1
import Derived.Deep.CutBlock
import Derived.Deep.DeepCutAuto
import Derived.IntWalk
import Derived.RangeFuncNested
import Derived.RangeFuncBound
import Derived.RangeFuncCalls
import Derived.RangeFuncLeaves
import Derived.Shelf.Abstract
import Derived.Shelf.RegionOpen
import Derived.WalkKit
import Derived.OwnWalkIn
import Derived.TacticsInMore
import Derived.LoopNIn
import Derived.LoopIn
import Derived.Stop.RegionWithIn
import Derived.Deep.QuietTactic
import Derived.BigQuiet
import Derived.RegionTactic
import Derived.ChangeAlike
import Derived.Laws.Rows
namespace Go.Proofs.Ytngegjboenfmeaa
open Go Go.RowKit
set_option linter.unusedVariables false
set_option maxRecDepth 100000

/-- bodies in memory: the cells at A are slices that hold L -/
def Bx (w : World) (B : Nat) (A : Option Addr) (L : List (List UInt8)) : Prop := ∃ vs, Has w B A vs ∧ Parts w B vs L
theorem Bx.below {w w' : World} {B : Nat} {A : Option Addr} {L : List (List UInt8)} (h : Bx w B A L) (hb : Below B w w') : Bx w' B A L := by
  obtain ⟨vs, h1, h2⟩ := h; exact ⟨vs, h1.below hb, h2.below hb⟩
theorem Sl.more {w : World} {B B' n : Nat} {v : Value} {xs : List Value} (h : Sl w B n v xs) (hB : B ≤ B') : Sl w B' n v xs := by
  obtain ⟨A, m, c, h1, h2, h3, h4, h5, h6⟩ := h; exact ⟨A, m, c, h1, h2, h3, h4, h5, h6.more hB⟩
theorem Bx.more {w : World} {B B' : Nat} {A : Option Addr} {L : List (List UInt8)} (h : Bx w B A L) (hB : B ≤ B') : Bx w B' A L := by
  obtain ⟨vs, h1, h2⟩ := h; exact ⟨vs, h1.more hB, h2.1, fun i v l hv hl => (h2.2 i v l hv hl).more hB⟩
theorem Bx.nil {w : World} {B : Nat} {A : Option Addr} : Bx w B A [] := ⟨[], Has.nil, Parts.nil⟩
/-- a body of it -/
theorem Bx.at_ {w : World} {B : Nat} {A : Option Addr} {L : List (List UInt8)} (h : Bx w B A L) {k : Nat} (hk : k < L.length) :
    ∃ b o A1 c1, A = some ⟨b, o, none⟩ ∧ b < B ∧ w.cell? ⟨b, o + k, none⟩ = some (.slice A1 (L[k]).length c1) ∧ (L[k]).length ≤ c1 ∧ c1 ≤ maxLen ∧ (L[k]).length ≤ 140737488355328 ∧ Has w B A1 (us L[k]) := by
  obtain ⟨vs, h1, h2⟩ := h; have hl := h2.1; obtain ⟨b, o, rfl, hb, hc⟩ := h1.at_ (show k < vs.length by omega); obtain ⟨A1, c1, hv, hr⟩ := h2.at_ (show k < vs.length by omega); rw [hv] at hc; exact ⟨b, o, A1, c1, rfl, hb, hc, hr⟩
theorem Parts.take {w : World} {B : Nat} {vs : List Value} {L : List (List UInt8)} (h : Parts w B vs L) (k : Nat) : Parts w B (vs.take k) (L.take k) :=
  ⟨by have := h.1; simp; omega, fun i v l hv hl => by
    rw [List.getElem?_take] at hv hl; split at hv
    · rw [if_pos ‹_›] at hl; exact h.2 i v l hv hl
    · cases hv⟩
theorem Parts.drop {w : World} {B : Nat} {vs : List Value} {L : List (List UInt8)} (h : Parts w B vs L) (k : Nat) : Parts w B (vs.drop k) (L.drop k) :=
  ⟨by have := h.1; simp; omega, fun i v l hv hl => by
    rw [List.getElem?_drop] at hv hl; exact h.2 _ v l hv hl⟩
theorem Bx.take {w : World} {B : Nat} {A : Option Addr} {L : List (List UInt8)} (h : Bx w B A L) (k : Nat) : Bx w B A (L.take k) := by
  obtain ⟨vs, h1, h2⟩ := h; exact ⟨_, h1.take k, h2.take k⟩
theorem Bx.drop {w : World} {B : Nat} {A : Option Addr} {L : List (List UInt8)} (h : Bx w B A L) (k cap : Nat) (hc : L.length ≤ cap) : Bx w B (if cap = k then A else A.map (·.add (k * 1))) (L.drop k) := by
  obtain ⟨vs, h1, h2⟩ := h; have := h1.drop k 1 cap (by have := h2.1; omega); rw [Nat.mul_one] at this ⊢; exact ⟨_, this, h2.drop k⟩

theorem info_bs : (Try.prog.info? 47).map (fun i => (i.zero, i.size, i.bytes)) = some (some (.slice none 0 0), 1, 24) := by kernel_rfl

/-- bodies of the call's own -/
def OwnB (w : World) (base : Nat) (v : Value) (L : List (List UInt8)) : Prop :=
  ∃ vs, vs.length = L.length ∧ w.ownsRow base 47 1 v L.length vs ∧ ∀ (i : Nat) (u : Value) (l : List UInt8), vs[i]? = some u → L[i]? = some l → Own w base u l ∧ ∀ g, u.ownBlock = some g → v.ownBlock ≠ some g
theorem OwnB.nil (w : World) (base : Nat) : OwnB w base (.slice none 0 0) [] := ⟨[], rfl, World.ownsRow_nil w base _ 1, fun i u l h => by simp at h⟩
theorem own_lt {w : World} {base : Nat} {v : Value} {l : List UInt8} {g : Nat} (h : Own w base v l) (hg : v.ownBlock = some g) : base ≤ g ∧ g < w.heap.size := by
  have := World.ownsRow.lt h g hg
  exact this
theorem row_keep {w w' : World} {base e n : Nat} {v : Value} {xs : List Value} (h : w.ownsRow base e 1 v n xs) (hk : ∀ k, v.ownBlock = some k → w'.heap[k]? = w.heap[k]?) : w'.ownsRow base e 1 v n xs := by
  refine ⟨h.1, ?_⟩
  rcases h.2 with h0 | ⟨g, cap, cur, rfl, h2, h3, h4⟩
  · exact .inl h0
  · exact .inr ⟨g, cap, cur, rfl, h2, by rw [hk g rfl]; exact h3, h4⟩
theorem OwnB.keep {w w' : World} {base : Nat} {v : Value} {L : List (List UInt8)} (h : OwnB w base v L) (hk : ∀ k, base ≤ k → k < w.heap.size → w'.heap[k]? = w.heap[k]?) : OwnB w' base v L := by
  obtain ⟨vs, h1, h2, h3⟩ := h; refine ⟨vs, h1, row_keep h2 fun k hv => ?_, fun i u l hu hl => ⟨?_, (h3 i u l hu hl).2⟩⟩
  · have := World.ownsRow.lt h2 k hv
    exact hk k this.1 this.2
  · refine row_keep (h3 i u l hu hl).1 fun k hv => ?_
    have := own_lt (h3 i u l hu hl).1 hv
    exact hk k this.1 this.2
theorem OwnB.below {w w' : World} {base : Nat} {v : Value} {L : List (List UInt8)} (h : OwnB w base v L) (hb : Below w.heap.size w w') : OwnB w' base v L :=
  h.keep fun k _ hk => hb.block k hk
theorem OwnB.form {w : World} {base : Nat} {v : Value} {L : List (List UInt8)} (h : OwnB w base v L) (hL : ∀ l ∈ L, l.length ≤ 140737488355328) : ∃ A c, v = .slice A L.length c ∧ L.length ≤ c ∧ c ≤ maxLen ∧ Bx w w.heap.size A L := by
  obtain ⟨vs, h1, h2, h3⟩ := h; have hp : Parts w w.heap.size vs L := ⟨h1, fun i u l hu hl => by
    obtain ⟨A, c, rfl, ha, hb, hc⟩ := (h3 i u l hu hl).1.form; exact Sl.mk' hc ha hb (hL l (List.mem_of_getElem? hl))⟩
  have h2' := h2
  rcases h2.2 with ⟨rfl, hn⟩ | ⟨g, cap, cur, rfl, _, _, hnc, hm, _⟩
  · refine ⟨none, 0, by rw [hn], by omega, by unfold maxLen; omega, vs, ?_, hp⟩
    rw [List.eq_nil_of_length_eq_zero (show vs.length = 0 by omega)]; exact Has.nil
  · exact ⟨_, cap, rfl, hnc, hm, vs, Has.of_own h2', hp⟩
theorem OwnB.mono {w : World} {b b' : Nat} {v : Value} {L : List (List UInt8)} (h : OwnB w b v L) (hb : b' ≤ b) : OwnB w b' v L := by
  obtain ⟨vs, h1, h2, h3⟩ := h; refine ⟨vs, h1, ⟨h2.1, ?_⟩, fun i u l hu hl => ⟨own_mono (h3 i u l hu hl).1 hb, (h3 i u l hu hl).2⟩⟩
  rcases h2.2 with h0 | ⟨g, cap, cur, h1, h2, h3⟩
  · exact .inl h0
  · exact .inr ⟨g, cap, cur, h1, Nat.le_trans hb h2, h3⟩

/-- what is new lies apart from what was there -/
theorem apart_new {w w' : World} {base : Nat} {v u : Value} {L : List (List UInt8)} {l : List UInt8} (h : OwnB w base v L) (hu : Own w' w.heap.size u l) : ∀ g, u.ownBlock = some g → v.ownBlock ≠ some g := by
  intro g hg hv; obtain ⟨vs, _, h2, _⟩ := h; have h1 := (World.ownsRow.lt h2 g hv).2; have h3 := (own_lt hu hg).1; omega
/-- a body is put behind bodies of the call's own -/
theorem run_appB {w : World} {ty : TypeId} {base B c : Nat} {v u : Value} {A : Option Addr} {L : List (List UInt8)} {l : List UInt8}
    (hown : OwnB w base v L) (hu : Own w base u l) (hap : ∀ g, u.ownBlock = some g → v.ownBlock ≠ some g) (hr : Has w B A [u]) (hlen : L.length ≤ 1000000000000) (hbase : base ≤ w.heap.size) :
    ∃ v' w', (Builtin.append_ #[66, 66] ty #[v, .slice A 1 c]).run Try.prog w = .ok v' w' ∧ OwnB w' base v' (L ++ [l]) ∧ Below base w w' := by
  obtain ⟨i0, hi, hz0, hz1, hz2⟩ := info_parts info_bs; obtain ⟨vs, h1, h2, h3⟩ := hown; have hone : u.oneCell' = true := by
    obtain ⟨A', c', rfl, _⟩ := hu.form; rfl
  obtain ⟨v', w', hrun, g1, g2, g3⟩ := run_append_has (P := Try.prog) w base 66 ty 47 i0 _ 1 24 Try.underlying66 hi hz0 hz1 hz2 rfl (by omega) v L.length vs h2 B A 1 c [u] (by simp) hr (by simpa using hone) (by unfold maxLen; omega) (by omega) hbase; have hbel : Below base w w' := (Below.refl _ _).grown g2 hbase (fun k hk => (World.ownsRow.lt h2 k hk).1); have hkeep : ∀ u' l', Own w base u' l' → (∀ g, u'.ownBlock = some g → v.ownBlock ≠ some g) → Own w' base u' l' ∧ ∀ g, u'.ownBlock = some g → v'.ownBlock ≠ some g := fun u' l' hu' ha' =>
    ⟨row_keep hu' fun k hk => g2.block k (own_lt hu' hk).2 (fun e => ha' k hk e.symm), fun g hg e => by
      rcases g3 with g3 | g3
      · exact ha' g hg (g3.symm.trans e)
      · rw [g3] at e
        injection e with e; have := (own_lt hu' hg).2; omega⟩
  refine ⟨v', w', hrun, ⟨vs ++ [u], by simp [h1], by rw [List.length_append]; exact g1, fun i u' l' hu' hl' => ?_⟩, hbel⟩
  rcases Nat.lt_or_ge i vs.length with hlt | hge
  · rw [List.getElem?_append_left hlt] at hu'
    rw [List.getElem?_append_left (by omega)] at hl'; exact hkeep u' l' (h3 i u' l' hu' hl').1 (h3 i u' l' hu' hl').2
  · rw [List.getElem?_append_right hge] at hu'
    rw [List.getElem?_append_right (by omega)] at hl'; have hi0 : i - vs.length = 0 := by
      rcases Nat.eq_zero_or_pos (i - vs.length) with h0 | h0
      · exact h0
      · rw [List.getElem?_eq_none (by simp; omega)] at hu'; cases hu'
    rw [hi0] at hu'; rw [show i - L.length = 0 by omega] at hl'; simp at hu' hl'; subst hu' hl'; exact hkeep _ _ hu hap
theorem op_appB {w : World} {o : Oper} {a : Act} {K : Act → World → Prop} {Q : Exit → Act → World → Prop} {s x : Operand} {base B c : Nat} {v u : Value} {A : Option Addr} {L : List (List UInt8)} {l : List UInt8}
    (ho : o.op = .call { callee := .builtin .append, args := #[s, x], argTypes := #[66, 66] }) (hs : a.eval s = v) (hx : a.eval x = .slice A 1 c)
    (hown : OwnB w base v L) (hu : Own w base u l) (hap : ∀ g, u.ownBlock = some g → v.ownBlock ≠ some g) (hr : Has w B A [u]) (hlen : L.length ≤ 1000000000000) (hbase : base ≤ w.heap.size)
    (h : ∀ v' w', OwnB w' base v' (L ++ [l]) → Below base w w' → K (a.put o.dst v') w') : Oper.wp Try.prog o a w K Q := by
  obtain ⟨v', w', hrun, h1, h2⟩ := run_appB (ty := o.type) (c := c) hown hu hap hr hlen hbase; unfold Oper.wp execOp; simp only [ho, resolve, invoke, builtin, Sem.run_bind, Sem.run_pure, Result.andThen_ok, List.map_toArray, List.map_cons, List.map_nil, hs, hx, hrun]; exact h v' w' h1 h2
theorem wp_appB {w : World} {ops : Array Oper} {rest : List Oper} {o : Oper} {a : Act} {Q : Exit → Act → World → Prop} {s x : Operand} {base B c : Nat} {v u : Value} {A : Option Addr} {L : List (List UInt8)} {l : List UInt8} (hgd : o.guard = none)
    (ho : o.op = .call { callee := .builtin .append, args := #[s, x], argTypes := #[66, 66] }) (hs : a.eval s = v) (hx : a.eval x = .slice A 1 c)
    (hown : OwnB w base v L) (hu : Own w base u l) (hap : ∀ g, u.ownBlock = some g → v.ownBlock ≠ some g) (hr : Has w B A [u]) (hlen : L.length ≤ 1000000000000) (hbase : base ≤ w.heap.size)
    (h : ∀ v' w', OwnB w' base v' (L ++ [l]) → Below base w w' → wpList Try.prog ops Q rest (a.put o.dst v') w') : wpList Try.prog ops Q (o :: rest) a w :=
  wpList_plain hgd fun K hK => op_appB ho hs hx hown hu hap hr hlen hbase fun v' w' h1 h2 => hK _ _ (h v' w' h1 h2)

set_option maxHeartbeats 400000 in
theorem clone_any (w : World) (B : Nat) (A : Option Addr) (c : Nat) (l : List UInt8) (h : Has w B A (us l)) (hB : B ≤ w.heap.size) (hl : l.length ≤ 1000000000) :
    Calls Try.prog 44 #[.slice A l.length c] w fun e w' => ∃ v, e = .returned v ∧ Own w' w.heap.size v l ∧ Below w.heap.size w w' := by
  rcases A with _ | a
  · have hl0 : l = [] := by
      cases l with
      | nil => rfl
      | cons x l =>
        obtain ⟨b, o, h, _⟩ := h.at_ (show 0 < (us (x :: l)).length by simp [us]); cases h
    subst hl0; have hq := Lib.run_eql_slice_nil (P := Try.prog) w 47 5 none 0 c 0 0 Try.underlying47; go_enter Try.func44, Try.ntmps44; go_wp2
    go_ret
    exact ⟨_, rfl, Own.nil _ _, Below.refl _ _⟩
  · have hq := Lib.run_eql_slice_nil (P := Try.prog) w 47 5 (some a) l.length c 0 0 Try.underlying47
    go_enter Try.func44, Try.ntmps44
    go_wp2_with (at_builtin; refine wp_app (c := c) rfl rfl (by rfl) (by rfl) (own_empty w) (h.alloc hB _) (by simp; omega) (by simp) ?_; intro v' w1 hown1 hb1 _ _)
    go_ret
    exact ⟨v', rfl, hown1, ((Below.refl _ _).alloc (Nat.le_refl _) _).trans hb1⟩

/-- the lists that are copied are short -/
def Fit (L : List (List UInt8)) : Prop := L.length ≤ 1000000 ∧ ∀ l ∈ L, l.length ≤ 1000000
theorem Fit.take {L : List (List UInt8)} (h : Fit L) (k : Nat) : Fit (L.take k) := ⟨by have := h.1; simp; omega, fun l hl => h.2 l (List.mem_of_mem_take hl)⟩
theorem Fit.drop {L : List (List UInt8)} (h : Fit L) (k : Nat) : Fit (L.drop k) := ⟨by have := h.1; simp; omega, fun l hl => h.2 l (List.mem_of_mem_drop hl)⟩

set_option maxHeartbeats 800000 in
theorem copied_any (w : World) (B : Nat) (A : Option Addr) (c : Nat) (L : List (List UInt8)) (h : Bx w B A L) (hB : B ≤ w.heap.size) (hf : Fit L) :
    Calls Try.prog 58 #[.slice A L.length c] w fun e w' => ∃ v, e = .returned v ∧ OwnB w' w.heap.size v L ∧ Below w.heap.size w w' := by
  have h1 := hf.1; have HF := Lib.hid hf.2; have H := Lib.hid h; clear h hf; go_enter Try.func58, Try.ntmps58; go_wp2
  go_loopw [3, 8] (fun v i wr => ∃ k : Nat, k ≤ L.length ∧ i = .int .i64 (k : Int) ∧ OwnB wr w.heap.size v (L.take k) ∧ Below w.heap.size w wr) (fun _ i _ => L.length - (intOf i).toNat)
  case atStart => exact ⟨0, by omega, rfl, OwnB.nil _ _, Below.refl _ _⟩
  case round =>
    obtain ⟨k, hk, rfl, ho, hb⟩ := hrel; have HO := Lib.hid ho; clear ho
    by_cases hlt : k < L.length
    · obtain ⟨b, o, A1, c1, rfl, hbB, hc, q1, q2, q3, hh⟩ := (H.out.below (hb.mono hB)).at_ hlt
      have HH := Lib.hid hh; have hle := HF.out L[k] (List.getElem_mem hlt); clear hh; obtain ⟨l, Hl⟩ : ∃ l, Hid (L[k] = l) := ⟨_, Lib.hid rfl⟩; rw [Hl.out] at hc q1 q3 HH hle
      go_wp2_with fail
      refine (clone_any wr B A1 c1 l HH.out (Nat.le_trans hB hb.size) (by omega)).mono ?_; rintro e w1 ⟨v1, rfl, ho1, hb1⟩; obtain ⟨A2, c2, rfl, _, _, _⟩ := ho1.form; have HO1 := Lib.hid ho1; have HP := Lib.hid (HO.out.below hb1); have hz := hb.size; have hz1 := hb1.size; clear ho1
      go_wp2_with (at_builtin; go_must (refine wp_appB (base := w.heap.size) (u := .slice A2 l.length c2) (l := l) rfl rfl (by rfl) (by rfl) (HP.out.below ((Below.refl _ _).alloc (Nat.le_refl _) _)) (own_mono (own_below HO1.out ((Below.refl _ _).alloc (Nat.le_refl _) _) (Nat.le_refl _)) hz) (apart_new HO.out HO1.out) (has_new w1 #[.slice A2 l.length c2] 47) (by simp; omega) (le_alloc (by omega) _) ?_); intro v' w2 hown2 hb2)
      go_roundw
      case rel =>
        refine ⟨k + 1, by omega, by go_num, ?_, (hb.trans (hb1.mono hz)).trans (((Below.refl _ _).alloc (by omega) _).trans hb2)⟩; rw [List.take_succ_eq_append_getElem hlt, Hl.out]; exact hown2
      case measure => simp [intOf]; omega
    · go_wp2
      go_ret
      rw [List.take_of_length_le (by omega)] at HO; exact ⟨_, rfl, HO.out, hb⟩
end Go.Proofs.Ytngegjboenfmeaa
/- Bodies as things that lie apart: a box of bodies, and bodies that are told. No program in sight. -/
namespace Go.Proofs.Ytngegjboenfmeaa
open Go Go.RowKit
set_option linter.unusedVariables false

/-- a box of bodies, in blocks of its own -/
def BoxT (v : Value) (L : List (List UInt8)) : SP := fun w F => (∀ k, F k → k < w.heap.size) ∧
 ∃ vs, vs.length = L.length ∧ w.ownsRow 0 47 1 v L.length vs ∧ (∀ k, v.ownBlock = some k → F k) ∧ ∀ (i : Nat) (u : Value) (l : List UInt8), vs[i]? = some u → L[i]? = some l → Own w 0 u l ∧ ∀ k, u.ownBlock = some k → F k
theorem lt_keep {w w' : World} {k : Nat} (hk : k < w.heap.size) (h : w'.heap[k]? = w.heap[k]?) : k < w'.heap.size := by
 rw [Array.getElem?_eq_getElem hk] at h; exact (Array.getElem?_eq_some_iff.1 h).1
theorem BoxT.loc (v : Value) (L : List (List UInt8)) : Loc (BoxT v L) where
 keep := by
  rintro w w' F ⟨h0, vs, h1, h2, h3, h4⟩ hk; exact ⟨fun k hF => lt_keep (h0 k hF) (hk k hF), vs, h1, row_keep h2 fun k hv => hk k (h3 k hv), h3, fun i u l hu hl => ⟨row_keep (h4 i u l hu hl).1 fun k hv => hk k ((h4 i u l hu hl).2 k hv), (h4 i u l hu hl).2⟩⟩
 lt := by
  rintro w F ⟨h0, _⟩ k hk; exact h0 k hk
/-- bodies, each with its value -/
def Bods (LB : List (Value × List UInt8)) : SP := fun w F => (∀ k, F k → k < w.heap.size) ∧ ∀ x ∈ LB, Own w 0 x.1 x.2 ∧ ∀ k, x.1.ownBlock = some k → F k
theorem Bods.loc (LB : List (Value × List UInt8)) : Loc (Bods LB) where
 keep := by
  rintro w w' F ⟨h0, h1⟩ hk; exact ⟨fun k hF => lt_keep (h0 k hF) (hk k hF), fun x hx => ⟨row_keep (h1 x hx).1 fun k hv => hk k ((h1 x hx).2 k hv), (h1 x hx).2⟩⟩
 lt := by
  rintro w F ⟨h0, _⟩ k hk; exact h0 k hk
section
variable {w0 w w' : World} {Ps : List SP} {i : Nat} {v : Value} {L : List (List UInt8)}
theorem boxT_of_own (hb : Below w.heap.size w w') (ho : OwnB w' w.heap.size v L) : BoxT v L w' (fun k => w.heap.size ≤ k ∧ k < w'.heap.size) := by
 obtain ⟨vs, h1, h2, h3⟩ := ho; refine ⟨fun k h => h.2, vs, h1, ?_, fun k hk => World.ownsRow.lt h2 k hk, fun i u l hu hl => ⟨own_mono (h3 i u l hu hl).1 (Nat.zero_le _), fun k hk => own_lt (h3 i u l hu hl).1 hk⟩⟩; refine ⟨h2.1, ?_⟩
 rcases h2.2 with h0 | ⟨g, cap, cur, e1, e2, e3⟩
 ·exact .inl h0
 ·exact .inr ⟨g, cap, cur, e1, Nat.zero_le _, e3⟩
/-- a new box -/
theorem sep_boxNew (h : Sep w0 w Ps) (hb : Below w.heap.size w w') (ho : OwnB w' w.heap.size v L) : Sep w0 w' (BoxT v L :: Ps) :=
 (h.add (F := fun k => w.heap.size ≤ k ∧ k < w'.heap.size) hb (boxT_of_own hb ho) (BoxT.loc _ _) (fun k hk => hk.1)).lastFront
theorem sep_boxNil (h : Sep w0 w Ps) : Sep w0 w (BoxT (.slice none 0 0) [] :: Ps) :=
 (h.add (F := fun _ => False) (Below.refl _ _) ⟨fun k h => h.elim, [], rfl, World.ownsRow_nil w 0 _ 1, fun k h => by simp [Value.ownBlock] at h, fun i u l h => by simp at h⟩ (BoxT.loc _ _) (fun k h => h.elim)).lastFront
theorem sep_boxForm (h : Sep w0 w Ps) (hi : Ps[i]? = some (BoxT v L)) (hL : ∀ l ∈ L, l.length ≤ 140737488355328) : ∃ A c, v = .slice A L.length c ∧ L.length ≤ c ∧ c ≤ maxLen ∧ Bx w w.heap.size A L := by
 obtain ⟨F, h0, vs, h1, h2, h3, h4⟩ := h.get hi; have hp : Parts w w.heap.size vs L := ⟨h1, fun i u l hu hl => by
  obtain ⟨A, c, rfl, ha, hb, hc⟩ := (h4 i u l hu hl).1.form; exact Sl.mk' hc ha hb (hL l (List.mem_of_getElem? hl))⟩
 have h2' := h2
 rcases h2.2 with ⟨rfl, hn⟩ | ⟨g, cap, cur, rfl, _, _, hnc, hm, _⟩
 ·refine ⟨none, 0, by rw [hn], by omega, by unfold maxLen; omega, vs, ?_, hp⟩; rw [List.eq_nil_of_length_eq_zero (show vs.length = 0 by omega)]; exact Has.nil
 ·exact ⟨_, cap, rfl, hnc, hm, vs, Has.of_own h2', hp⟩
/-- a box is told as an empty one -/
theorem sep_boxGone (h : Sep w0 w Ps) (hi : Ps[i]? = some (BoxT v L)) : Sep w0 w (Ps.set i (BoxT (.slice none 0 0) [])) :=
 h.turn hi (fun F ⟨h0, _⟩ => ⟨h0, [], rfl, World.ownsRow_nil w 0 _ 1, fun k h => by simp [Value.ownBlock] at h, fun i u l h => by simp at h⟩) (BoxT.loc _ _)
theorem sep_bodsNil (h : Sep w0 w Ps) : Sep w0 w (Bods [] :: Ps) :=
 (h.add (F := fun _ => False) (Below.refl _ _) ⟨fun k h => h.elim, fun x h => by simp at h⟩ (Bods.loc _) (fun k h => h.elim)).lastFront
/-- a body that is new memory is told, too -/
theorem sep_bodsAdd {LB : List (Value × List UInt8)} {l : List UInt8} (h : Sep w0 w Ps) (hi : Ps[i]? = some (Bods LB)) (hb : Below w.heap.size w w') (ho : Own w' w.heap.size v l) : Sep w0 w' (Ps.set i (Bods (LB ++ [(v, l)]))) := by
 obtain ⟨F, ⟨h0, h1⟩, hL, hlt, hk⟩ := h.upd hi; refine hk w' _ (fun k => F k ∨ (w.heap.size ≤ k ∧ k < w'.heap.size)) ⟨hb.os, hb.tape, hb.output, hb.size, fun k hk _ => hb.block k hk, fun k hk => hk.imp id fun h => h.1⟩ ⟨?_, ?_⟩ (Bods.loc _)
 ·rintro k (h | h)
  ·have := h0 k h; have := hb.size; omega
  ·exact h.2
 ·intro x hx
  rcases List.mem_append.1 hx with hx | hx
  ·exact ⟨row_keep (h1 x hx).1 fun k hv => hb.block k (h0 k ((h1 x hx).2 k hv)), fun k hv => .inl ((h1 x hx).2 k hv)⟩
  ·rw [List.mem_singleton.1 hx]; exact ⟨own_mono ho (Nat.zero_le _), fun k hv => .inr (own_lt ho hv)⟩
/-- the empty body -/
theorem sep_bodsNone {LB : List (Value × List UInt8)} (h : Sep w0 w Ps) (hi : Ps[i]? = some (Bods LB)) : Sep w0 w (Ps.set i (Bods (LB ++ [(.slice none 0 0, [])]))) :=
 sep_bodsAdd h hi (Below.refl _ _) (Own.nil _ _)
theorem sep_bodsAt {LB : List (Value × List UInt8)} {u : Value} {l : List UInt8} (h : Sep w0 w Ps) (hi : Ps[i]? = some (Bods LB)) (hx : (u, l) ∈ LB) : ∃ A c, u = .slice A l.length c ∧ l.length ≤ c ∧ c ≤ maxLen ∧ Has w w.heap.size A (us l) := by
 obtain ⟨F, _, h1⟩ := h.get hi; exact (h1 _ hx).1.form
/-- fewer bodies are told -/
theorem sep_bodsLess {LB LC : List (Value × List UInt8)} (h : Sep w0 w Ps) (hi : Ps[i]? = some (Bods LB)) (hs : ∀ x ∈ LC, x ∈ LB) : Sep w0 w (Ps.set i (Bods LC)) :=
 h.turn hi (fun F ⟨h0, h1⟩ => ⟨h0, fun x hx => h1 x (hs x hx)⟩) (Bods.loc _)
end
/-- a thing in which a body can be read -/
def Reads (X : SP) (A : Option Addr) (l : List UInt8) : Prop := ∀ w F, X w F → Has w w.heap.size A (us l)
theorem sep_reads {w0 w : World} {Ps : List SP} {i : Nat} {X : SP} {A : Option Addr} {l : List UInt8} (h : Sep w0 w Ps) (hi : Ps[i]? = some X) (hr : Reads X A l) : Has w w.heap.size A (us l) := by
 obtain ⟨F, h⟩ := h.get hi; exact hr w F h
theorem reads_bods {LB : List (Value × List UInt8)} {A : Option Addr} {c : Nat} {l : List UInt8} (hx : (Value.slice A l.length c, l) ∈ LB) : Reads (Bods LB) A l := by
 rintro w F ⟨_, h1⟩; obtain ⟨A', c', e, _, _, hh⟩ := (h1 _ hx).1.form; simp only [Value.slice.injEq] at e; rw [e.1]; exact hh
end Go.Proofs.Ytngegjboenfmeaa
/- What a link tells behind what was told; going down; the last number that is due; data. -/
namespace Go.Proofs.Ytngegjboenfmeaa
open Go Go.RowKit
set_option linter.unusedVariables false
set_option maxRecDepth 100000
set_option linter.unusedSimpArgs false

theorem u64_wrapG {x : Int} (h0 : 0 ≤ x) (h1 : x < 18446744073709551616) : IntKind.u64.wrap x = x := by
 exact IntWalk.u64_in x ⟨h0, by omega⟩
set_option maxHeartbeats 3200000 in
theorem tellG {w0 w : World} {Qs : List SP} {o q1 q0 g base : Nat} {bx vF vE : Value} {got : Nat} {sn : Int} {si : Nat} {peer : Int} {conn inc known heard sent : Nat} {up : Bool} {m : Nat} {ys : List Value} (kind : Int) (BA : Option Addr) (bn bc : Nat) (h : Sep w0 w (Rw 49 4 vE m ys :: Ce o 43 #[vF, vE] :: Ce q1 92 #[.pointer (some ⟨o, 0, none⟩)] :: Ce q0 26 #[.pointer (some ⟨g, 0, none⟩)] :: Ce g 72 #[.int .u64 (base : Int), bx, .int .u64 (got : Int), .int .i64 sn, .int .u64 (si : Int), .int .i64 peer, .int .u64 (conn : Int), .int .u64 (inc : Int), .int .u64 (known : Int), .bool up, .int .u64 (heard : Int), .int .u64 (sent : Int)] :: Qs)) (hsn : sn ≠ 0) (hm : m ≤ 1000000) :
  Calls Try.prog 56 #[.int .i64 kind, .slice BA bn bc, .pointer (some ⟨q1, 0, none⟩), .pointer (some ⟨q0, 0, none⟩)] w fun e w' => e = .returned (.tuple #[]) ∧ ∃ vE, Sep w0 w' (Rw 49 4 vE (m + 1) (ys ++ [.int .i64 kind, .int .i64 peer, .int .u64 (inc : Int), .slice BA bn bc]) :: Ce o 43 #[vF, vE] :: Ce q1 92 #[.pointer (some ⟨o, 0, none⟩)] :: Ce q0 26 #[.pointer (some ⟨g, 0, none⟩)] :: Ce g 72 #[.int .u64 (base : Int), bx, .int .u64 (got : Int), .int .i64 sn, .int .u64 (si : Int), .int .i64 peer, .int .u64 (conn : Int), .int .u64 (inc : Int), .int .u64 (known : Int), .bool up, .int .u64 (heard : Int), .int .u64 (sent : Int)] :: Qs) := by
 have HS0 := Lib.hid h; have HPE := Lib.hid (fun (W : World) hh => peer_any W g base bx got sn si peer conn inc known up heard sent hsn hh); obtain ⟨xs, HXS⟩ : ∃ l, Hid ((#[.int .i64 kind, .int .i64 peer, .int .u64 (inc : Int), .slice BA bn bc] : Array Value).toList = l) := ⟨_, Lib.hid rfl⟩; have HX1 : Hid (∀ u ∈ xs, u.oneCell' = true) := Lib.hid (by
  rw [← HXS.out]; intro u hu; simp only [List.mem_cons, List.not_mem_nil, or_false] at hu
  rcases hu with rfl | rfl | rfl | rfl <;> rfl)
 have HKO : ∀ (dn : Nat → Bool) (xv : Nat → Value) (W : World), (if dn 14 = true then ∃ vE, Sep w0 W (Rw 49 4 vE (m + 1) (ys ++ xs) :: Ce o 43 #[vF, vE] :: Ce q1 92 #[.pointer (some ⟨o, 0, none⟩)] :: Ce q0 26 #[.pointer (some ⟨g, 0, none⟩)] :: Ce g 72 #[.int .u64 (base : Int), bx, .int .u64 (got : Int), .int .i64 sn, .int .u64 (si : Int), .int .i64 peer, .int .u64 (conn : Int), .int .u64 (inc : Int), .int .u64 (known : Int), .bool up, .int .u64 (heard : Int), .int .u64 (sent : Int)] :: Qs) else if dn 11 = true then Sep w0 W (Rw 49 4 (xv 11) (m + 1) (ys ++ xs) :: Ce o 43 #[vF, vE] :: Ce q1 92 #[.pointer (some ⟨o, 0, none⟩)] :: Ce q0 26 #[.pointer (some ⟨g, 0, none⟩)] :: Ce g 72 #[.int .u64 (base : Int), bx, .int .u64 (got : Int), .int .i64 sn, .int .u64 (si : Int), .int .i64 peer, .int .u64 (conn : Int), .int .u64 (inc : Int), .int .u64 (known : Int), .bool up, .int .u64 (heard : Int), .int .u64 (sent : Int)] :: Qs) else if dn 10 = true then Sep w0 W (Rw 49 4 vE m ys :: Ce o 43 #[vF, vE] :: Ce q1 92 #[.pointer (some ⟨o, 0, none⟩)] :: Ce q0 26 #[.pointer (some ⟨g, 0, none⟩)] :: Ce g 72 #[.int .u64 (base : Int), bx, .int .u64 (got : Int), .int .i64 sn, .int .u64 (si : Int), .int .i64 peer, .int .u64 (conn : Int), .int .u64 (inc : Int), .int .u64 (known : Int), .bool up, .int .u64 (heard : Int), .int .u64 (sent : Int)] :: Qs) ∧ OneE xs (xv 10) W else if dn 7 = true then Sep w0 W (Rw 49 4 vE m ys :: Ce o 43 #[vF, vE] :: Ce q1 92 #[.pointer (some ⟨o, 0, none⟩)] :: Ce q0 26 #[.pointer (some ⟨g, 0, none⟩)] :: Ce g 72 #[.int .u64 (base : Int), bx, .int .u64 (got : Int), .int .i64 sn, .int .u64 (si : Int), .int .i64 peer, .int .u64 (conn : Int), .int .u64 (inc : Int), .int .u64 (known : Int), .bool up, .int .u64 (heard : Int), .int .u64 (sent : Int)] :: Qs) else Sep w0 W (Rw 49 4 vE m ys :: Ce o 43 #[vF, vE] :: Ce q1 92 #[.pointer (some ⟨o, 0, none⟩)] :: Ce q0 26 #[.pointer (some ⟨g, 0, none⟩)] :: Ce g 72 #[.int .u64 (base : Int), bx, .int .u64 (got : Int), .int .i64 sn, .int .u64 (si : Int), .int .i64 peer, .int .u64 (conn : Int), .int .u64 (inc : Int), .int .u64 (known : Int), .bool up, .int .u64 (heard : Int), .int .u64 (sent : Int)] :: Qs)) → dn 14 = false → W.cell? ⟨o, 1, none⟩ = some vE := fun dn xv W h h0 => by
  rw [if_neg (by simp [h0])] at h; split at h
  ·exact cA (i := 1) h rfl 1 rfl
  split at h
  ·exact cA (i := 1) h.1 rfl 1 rfl
  split at h
  ·exact cA (i := 1) h rfl 1 rfl
  exact cA (i := 1) h rfl 1 rfl
 have HKP : ∀ (dn : Nat → Bool) (xv : Nat → Value) (W : World), (if dn 14 = true then ∃ vE, Sep w0 W (Rw 49 4 vE (m + 1) (ys ++ xs) :: Ce o 43 #[vF, vE] :: Ce q1 92 #[.pointer (some ⟨o, 0, none⟩)] :: Ce q0 26 #[.pointer (some ⟨g, 0, none⟩)] :: Ce g 72 #[.int .u64 (base : Int), bx, .int .u64 (got : Int), .int .i64 sn, .int .u64 (si : Int), .int .i64 peer, .int .u64 (conn : Int), .int .u64 (inc : Int), .int .u64 (known : Int), .bool up, .int .u64 (heard : Int), .int .u64 (sent : Int)] :: Qs) else if dn 11 = true then Sep w0 W (Rw 49 4 (xv 11) (m + 1) (ys ++ xs) :: Ce o 43 #[vF, vE] :: Ce q1 92 #[.pointer (some ⟨o, 0, none⟩)] :: Ce q0 26 #[.pointer (some ⟨g, 0, none⟩)] :: Ce g 72 #[.int .u64 (base : Int), bx, .int .u64 (got : Int), .int .i64 sn, .int .u64 (si : Int), .int .i64 peer, .int .u64 (conn : Int), .int .u64 (inc : Int), .int .u64 (known : Int), .bool up, .int .u64 (heard : Int), .int .u64 (sent : Int)] :: Qs) else if dn 10 = true then Sep w0 W (Rw 49 4 vE m ys :: Ce o 43 #[vF, vE] :: Ce q1 92 #[.pointer (some ⟨o, 0, none⟩)] :: Ce q0 26 #[.pointer (some ⟨g, 0, none⟩)] :: Ce g 72 #[.int .u64 (base : Int), bx, .int .u64 (got : Int), .int .i64 sn, .int .u64 (si : Int), .int .i64 peer, .int .u64 (conn : Int), .int .u64 (inc : Int), .int .u64 (known : Int), .bool up, .int .u64 (heard : Int), .int .u64 (sent : Int)] :: Qs) ∧ OneE xs (xv 10) W else if dn 7 = true then Sep w0 W (Rw 49 4 vE m ys :: Ce o 43 #[vF, vE] :: Ce q1 92 #[.pointer (some ⟨o, 0, none⟩)] :: Ce q0 26 #[.pointer (some ⟨g, 0, none⟩)] :: Ce g 72 #[.int .u64 (base : Int), bx, .int .u64 (got : Int), .int .i64 sn, .int .u64 (si : Int), .int .i64 peer, .int .u64 (conn : Int), .int .u64 (inc : Int), .int .u64 (known : Int), .bool up, .int .u64 (heard : Int), .int .u64 (sent : Int)] :: Qs) else Sep w0 W (Rw 49 4 vE m ys :: Ce o 43 #[vF, vE] :: Ce q1 92 #[.pointer (some ⟨o, 0, none⟩)] :: Ce q0 26 #[.pointer (some ⟨g, 0, none⟩)] :: Ce g 72 #[.int .u64 (base : Int), bx, .int .u64 (got : Int), .int .i64 sn, .int .u64 (si : Int), .int .i64 peer, .int .u64 (conn : Int), .int .u64 (inc : Int), .int .u64 (known : Int), .bool up, .int .u64 (heard : Int), .int .u64 (sent : Int)] :: Qs)) → W.cell? ⟨q1, 0, none⟩ = some (.pointer (some ⟨o, 0, none⟩)) ∧ W.cell? ⟨q0, 0, none⟩ = some (.pointer (some ⟨g, 0, none⟩)) := fun dn xv W h => by
  split at h
  ·obtain ⟨vE, h⟩ := h; exact ⟨cA (i := 2) h rfl 0 rfl, cA (i := 3) h rfl 0 rfl⟩
  split at h
  ·exact ⟨cA (i := 2) h rfl 0 rfl, cA (i := 3) h rfl 0 rfl⟩
  split at h
  ·exact ⟨cA (i := 2) h.1 rfl 0 rfl, cA (i := 3) h.1 rfl 0 rfl⟩
  split at h
  ·exact ⟨cA (i := 2) h rfl 0 rfl, cA (i := 3) h rfl 0 rfl⟩
  exact ⟨cA (i := 2) h rfl 0 rfl, cA (i := 3) h rfl 0 rfl⟩
 clear h hsn; rw [show [.int .i64 kind, .int .i64 peer, .int .u64 (inc : Int), .slice BA bn bc] = xs from HXS.out]; go_enter Try.func56, Try.ntmps56
 go_wp2_with fail
 refine wRG (fun dn xv W => if dn 14 = true then ∃ vE, Sep w0 W (Rw 49 4 vE (m + 1) (ys ++ xs) :: Ce o 43 #[vF, vE] :: Ce q1 92 #[.pointer (some ⟨o, 0, none⟩)] :: Ce q0 26 #[.pointer (some ⟨g, 0, none⟩)] :: Ce g 72 #[.int .u64 (base : Int), bx, .int .u64 (got : Int), .int .i64 sn, .int .u64 (si : Int), .int .i64 peer, .int .u64 (conn : Int), .int .u64 (inc : Int), .int .u64 (known : Int), .bool up, .int .u64 (heard : Int), .int .u64 (sent : Int)] :: Qs) else if dn 11 = true then Sep w0 W (Rw 49 4 (xv 11) (m + 1) (ys ++ xs) :: Ce o 43 #[vF, vE] :: Ce q1 92 #[.pointer (some ⟨o, 0, none⟩)] :: Ce q0 26 #[.pointer (some ⟨g, 0, none⟩)] :: Ce g 72 #[.int .u64 (base : Int), bx, .int .u64 (got : Int), .int .i64 sn, .int .u64 (si : Int), .int .i64 peer, .int .u64 (conn : Int), .int .u64 (inc : Int), .int .u64 (known : Int), .bool up, .int .u64 (heard : Int), .int .u64 (sent : Int)] :: Qs) else if dn 10 = true then Sep w0 W (Rw 49 4 vE m ys :: Ce o 43 #[vF, vE] :: Ce q1 92 #[.pointer (some ⟨o, 0, none⟩)] :: Ce q0 26 #[.pointer (some ⟨g, 0, none⟩)] :: Ce g 72 #[.int .u64 (base : Int), bx, .int .u64 (got : Int), .int .i64 sn, .int .u64 (si : Int), .int .i64 peer, .int .u64 (conn : Int), .int .u64 (inc : Int), .int .u64 (known : Int), .bool up, .int .u64 (heard : Int), .int .u64 (sent : Int)] :: Qs) ∧ OneE xs (xv 10) W else if dn 7 = true then Sep w0 W (Rw 49 4 vE m ys :: Ce o 43 #[vF, vE] :: Ce q1 92 #[.pointer (some ⟨o, 0, none⟩)] :: Ce q0 26 #[.pointer (some ⟨g, 0, none⟩)] :: Ce g 72 #[.int .u64 (base : Int), bx, .int .u64 (got : Int), .int .i64 sn, .int .u64 (si : Int), .int .i64 peer, .int .u64 (conn : Int), .int .u64 (inc : Int), .int .u64 (known : Int), .bool up, .int .u64 (heard : Int), .int .u64 (sent : Int)] :: Qs) else Sep w0 W (Rw 49 4 vE m ys :: Ce o 43 #[vF, vE] :: Ce q1 92 #[.pointer (some ⟨o, 0, none⟩)] :: Ce q0 26 #[.pointer (some ⟨g, 0, none⟩)] :: Ce g 72 #[.int .u64 (base : Int), bx, .int .u64 (got : Int), .int .i64 sn, .int .u64 (si : Int), .int .i64 peer, .int .u64 (conn : Int), .int .u64 (inc : Int), .int .u64 (known : Int), .bool up, .int .u64 (heard : Int), .int .u64 (sent : Int)] :: Qs)) (fun _ _ => True) [xP_ o 0, xP_ o 0, xP_ o 0, xP_ o 1, xV_ vE, xV_ (.int .i64 kind), xP_ g 0, xV_ (.agg #[.int .i64 peer, .int .u64 (inc : Int)]), xV_ (.slice BA bn bc), xV_ (.agg #[.int .i64 kind, .int .i64 peer, .int .u64 (inc : Int), .slice BA bn bc]), fun v _ => True, fun v _ => True, xP_ o 0, xP_ o 1, fun v _ => True] (fun xv => by simpa using HS0.out.drew) ?_ ?_
 ·refine Epk 1 2 q1 0 (fun g h W e => (HKP g h W e).1) ?_
  refine Epk 2 2 q1 0 (fun g h W e => (HKP g h W e).1) ?_
  refine Ee 3 7 1 ?_
  refine Ee 4 8 2 ?_
  refine EC 5 rfl (fun g h W F a b c d e H K f => ?_) ?_
  ·have f9 := gE (a 9) (by kernel_rfl) (H 3) (by kernel_rfl); have kk := HKO g h W e (c 14 (uM 11 uE)); clear H c b d a; refine oP rfl ?_; go_simp; exact f.out _ _ rfl trivial e
  refine Ei 6 0 (.int .i64 kind) ?_
  refine Epk 7 3 q0 0 (fun g h W e => (HKP g h W e).2) ?_
  refine EC 8 rfl (fun k l W F a b c d f H K h => ?_) ?_
  ·have f12 := gE (a 12) (by kernel_rfl) (H 6) (by kernel_rfl); have q10 := c 10 (uM 9 uE); have q11 := c 11 (uM 10 (uM 9 uE)); have q14 := c 14 (uM 11 (uM 10 (uM 9 uE))); rw [if_neg (by simp [q14]), if_neg (by simp [q11]), if_neg (by simp [q10]), if_neg (by simp [b])] at f; have hS := f; clear f c b d a H; refine oP rfl ?_; go_simp; refine (HPE.out W (cH (i := 4) hS rfl)).mono ?_; rintro e W' ⟨rfl, hb⟩; have hs : Sep w0 W' (Rw 49 4 vE m ys :: Ce o 43 #[vF, vE] :: Ce q1 92 #[.pointer (some ⟨o, 0, none⟩)] :: Ce q0 26 #[.pointer (some ⟨g, 0, none⟩)] :: Ce g 72 #[.int .u64 (base : Int), bx, .int .u64 (got : Int), .int .i64 sn, .int .u64 (si : Int), .int .i64 peer, .int .u64 (conn : Int), .int .u64 (inc : Int), .int .u64 (known : Int), .bool up, .int .u64 (heard : Int), .int .u64 (sent : Int)] :: Qs) := hS.grow hb; exact h.out _ W' rfl trivial (by simpa [upB, upd, q10, q11, q14] using hs)
  refine Ei 9 1 (.slice BA bn bc) ?_
  refine EC 10 rfl (fun g h W F a b c d e H K f => ?_) ?_
  ·have f11 := gE (a 11) (by kernel_rfl) (H 5) (by kernel_rfl); have f13 := gE (a 13) (by kernel_rfl) (H 7) (by kernel_rfl); have f14 := gE (a 14) (by kernel_rfl) (H 8) (by kernel_rfl); clear H c b d a; refine oP rfl ?_; have g11 := f11; have g13 := f13; have g14 := f14; rw [Array.getD_eq_getD_getElem?] at g11 g13 g14; go_simp; exact f.out _ _ rfl trivial e
  refine EC 11 rfl (fun h i W F a b c d e H K f => ?_) ?_
  ·have f15 := gE (a 15) (by kernel_rfl) (H 9) (by kernel_rfl); have q7 := (H 7 (uM 9 uE)).1; have q11 := c 11 uE; have q14 := c 14 (uM 11 uE); rw [if_neg (by simp [q14]), if_neg (by simp [q11]), if_neg (by simp [b]), if_pos q7] at e; have hS := e; clear e c b d a H; refine oP rfl ?_; have g15 := f15; rw [Array.getD_eq_getD_getElem?] at g15; go_simp; have hb : Below W.heap.size W (W.alloc (.cells #[.int .i64 kind, .int .i64 peer, .int .u64 (inc : Int), .slice BA bn bc] 49)) := (Below.refl _ _).alloc (Nat.le_refl _) _; have hs : Sep w0 (W.alloc (.cells #[.int .i64 kind, .int .i64 peer, .int .u64 (inc : Int), .slice BA bn bc] 49)) (Rw 49 4 vE m ys :: Ce o 43 #[vF, vE] :: Ce q1 92 #[.pointer (some ⟨o, 0, none⟩)] :: Ce q0 26 #[.pointer (some ⟨g, 0, none⟩)] :: Ce g 72 #[.int .u64 (base : Int), bx, .int .u64 (got : Int), .int .i64 sn, .int .u64 (si : Int), .int .i64 peer, .int .u64 (conn : Int), .int .u64 (inc : Int), .int .u64 (known : Int), .bool up, .int .u64 (heard : Int), .int .u64 (sent : Int)] :: Qs) ∧ OneE xs (.slice (some ⟨W.heap.size, 0, none⟩) 1 1) (W.alloc (.cells #[.int .i64 kind, .int .i64 peer, .int .u64 (inc : Int), .slice BA bn bc] 49)) := ⟨hS.grow hb, HXS.out ▸ OneE.new W _⟩; exact f.out _ _ trivial trivial (by simpa [upB, upd, q11, q14] using hs)
  refine EC 12 rfl (fun h j W F a b c d e H K f => ?_) ?_
  ·have f10 := gE (a 10) (by kernel_rfl) (H 4) (by kernel_rfl); have f16 : F.tmps.getD 16 undef = j 10 := (a 16).trans (by kernel_rfl); have q10 := (H 10 uE).1; have q14 := c 14 uE; rw [if_neg (by simp [q14]), if_neg (by simp [b]), if_pos q10] at e; have hS := e; clear e c b d a H; refine oP rfl ?_; obtain ⟨s1, A3, c3, e3, hl3, hh3⟩ := hS; have fex := f16.trans e3; refine sep_opAppW rowEvents (i := 0) (s := .tmp 10) (x := .tmp 16) (m := 1) (news := xs) (by rfl) f10 fex s1 rfl (by rw [hl3]) hh3 HX1.out (by unfold maxLen; omega) (by omega) ?_; intro v W' hs0; have hs : Sep w0 W' (Rw 49 4 v (m + 1) (ys ++ xs) :: Ce o 43 #[vF, vE] :: Ce q1 92 #[.pointer (some ⟨o, 0, none⟩)] :: Ce q0 26 #[.pointer (some ⟨g, 0, none⟩)] :: Ce g 72 #[.int .u64 (base : Int), bx, .int .u64 (got : Int), .int .i64 sn, .int .u64 (si : Int), .int .i64 peer, .int .u64 (conn : Int), .int .u64 (inc : Int), .int .u64 (known : Int), .bool up, .int .u64 (heard : Int), .int .u64 (sent : Int)] :: Qs) := hs0; exact f.out v W' trivial trivial (by simpa [upB, upd, q14] using hs)
  refine Ee 13 6 0 ?_
  refine Ee 14 18 12 ?_
  refine EC 15 rfl (fun h j W F a b c d e H K f => ?_) ?_
  ·have f17 : F.tmps.getD 17 undef = j 11 := (a 17).trans (by kernel_rfl); have f19 := gE (a 19) (by kernel_rfl) (H 13) (by kernel_rfl); have q11 := (H 11 uE).1; rw [if_neg (by simp [b]), if_pos q11] at e; have hS := e; clear e c b d a H; refine oP rfl ?_; obtain ⟨A2, c2, e2, _⟩ := sep_rwForm (i := 0) hS rfl; have hc3 := cA (i := 1) hS rfl 1 rfl; have hf3 := cFz (i := 1) hS rfl 1; rw [e2] at hS; have hs0 := cS (i := 1) hS rfl 1 (.slice A2 (m + 1) c2); have hs : ∃ vE, Sep w0 (W.setCell ⟨o, 1, none⟩ (.slice A2 (m + 1) c2)) (Rw 49 4 vE (m + 1) (ys ++ xs) :: Ce o 43 #[vF, vE] :: Ce q1 92 #[.pointer (some ⟨o, 0, none⟩)] :: Ce q0 26 #[.pointer (some ⟨g, 0, none⟩)] :: Ce g 72 #[.int .u64 (base : Int), bx, .int .u64 (got : Int), .int .i64 sn, .int .u64 (si : Int), .int .i64 peer, .int .u64 (conn : Int), .int .u64 (inc : Int), .int .u64 (known : Int), .bool up, .int .u64 (heard : Int), .int .u64 (sent : Int)] :: Qs) := ⟨_, hs0⟩; clear hs0; go_simp; exact f.out undef _ trivial trivial (by simpa [upB, upd] using hs)
  exact EN
 ·intro dn xv W hI H; have qe : dn 14 = true := (H 14 (of_decide_eq_true (by kernel_rfl))).1; rw [if_pos qe] at hI; have hS := hI; clear H hI qe; simp only [putAll, Act.put, List.setIfInBounds_toArray, List.set_cons_zero, List.set_cons_succ, Nat.reduceAdd]; obtain ⟨vE, hS⟩ := hS; have HS1 := Lib.hid hS; clear hS
  go_wp2_with fail
  go_end0
  exact ⟨rfl, _, HS1.out⟩
set_option maxHeartbeats 1600000 in
theorem downG {w0 w : World} {Qs : List SP} {o q1 q0 g base : Nat} {bx vF vE : Value} {got : Nat} {sn : Int} {si : Nat} {peer : Int} {conn inc known heard sent : Nat} {m : Nat} {ys : List Value} (h : Sep w0 w (Rw 49 4 vE m ys :: Ce o 43 #[vF, vE] :: Ce q1 92 #[.pointer (some ⟨o, 0, none⟩)] :: Ce q0 26 #[.pointer (some ⟨g, 0, none⟩)] :: Ce g 72 #[.int .u64 (base : Int), bx, .int .u64 (got : Int), .int .i64 sn, .int .u64 (si : Int), .int .i64 peer, .int .u64 (conn : Int), .int .u64 (inc : Int), .int .u64 (known : Int), .bool true, .int .u64 (heard : Int), .int .u64 (sent : Int)] :: Qs)) (hsn : sn ≠ 0) (hm : m ≤ 1000000) :
  Calls Try.prog 35 #[.pointer (some ⟨g, 0, none⟩), .func (.func 56) #[] #[.pointer (some ⟨q1, 0, none⟩), .pointer (some ⟨q0, 0, none⟩)]] w fun e w' => e = .returned (.tuple #[]) ∧ ∃ vE, Sep w0 w' (Rw 49 4 vE (m + 1) (ys ++ [.int .i64 2, .int .i64 peer, .int .u64 (inc : Int), .slice none 0 0]) :: Ce o 43 #[vF, vE] :: Ce q1 92 #[.pointer (some ⟨o, 0, none⟩)] :: Ce q0 26 #[.pointer (some ⟨g, 0, none⟩)] :: Ce g 72 #[.int .u64 0, .slice none 0 0, .int .u64 0, .int .i64 sn, .int .u64 (si : Int), .int .i64 peer, .int .u64 (conn : Int), .int .u64 (inc : Int), .int .u64 (known : Int), .bool false, .int .u64 (heard : Int), .int .u64 (sent : Int)] :: Qs) := by
 have k9 := cA (i := 4) h rfl 9 rfl; have HS := Lib.hid h; have HSN := Lib.hid hsn; clear h hsn; go_enter Try.func35, Try.ntmps35
 go_wp2_with fail
 refine (tellG 2 none 0 0 HS.out HSN.out hm).mono ?_; rintro e w1 ⟨rfl, vE1, h1⟩; have k0 := cA (i := 4) h1 rfl 0 rfl; have k1 := cA (i := 4) h1 rfl 1 rfl; have k2 := cA (i := 4) h1 rfl 2 rfl; have y9 := cFz (i := 4) h1 rfl 9; have y0 := cFz (i := 4) h1 rfl 0; have y1 := cFz (i := 4) h1 rfl 1; have y2 := cFz (i := 4) h1 rfl 2; have k9 := cA (i := 4) h1 rfl 9 rfl; have hs := cS (i := 4) h1 rfl 0 (.int .u64 0); have hs := cS (i := 4) hs rfl 1 (.slice none 0 0); have hs := cS (i := 4) hs rfl 2 (.int .u64 0); have hs := cS (i := 4) hs rfl 9 (.bool false); have HS1 := Lib.hid hs; clear hs h1 HS
 go_wp2_with fail
 go_end0
 exact ⟨rfl, _, HS1.out⟩
set_option maxHeartbeats 800000 in
theorem lastG (w : World) (g base n c : Nat) (A : Option Addr) (hb : base ≤ 1000000000000) (hn : n ≤ 1000000000000) (h0 : w.cell? ⟨g, 0, none⟩ = some (.int .u64 (base : Int))) (h1 : w.cell? ⟨g, 1, none⟩ = some (.slice A n c)) :
  Calls Try.prog 41 #[.pointer (some ⟨g, 0, none⟩)] w fun e w' => e = .returned (.int .u64 ((base : Int) + ((min n 8 : Nat) : Int))) ∧ Below w.heap.size w w' := by
 have HG := Lib.hid (World.block_lt_of_cell? w _ h0); have HC0 := Lib.hid h0; have HC1 := Lib.hid h1; obtain ⟨k, Hk⟩ : ∃ k, Hid (min n 8 = k) := ⟨_, Lib.hid rfl⟩; have hk8 : k ≤ 8 := by have := Hk.out; omega
 have ek : (if 8 < (n : Int) then 8 else (n : Int)) = (k : Int) := by have := Hk.out; split <;> omega
 have ew : IntKind.u64.wrap (k : Int) = (k : Int) := u64_wrapG (by omega) (by omega); have ev : IntKind.u64.wrap ((base : Int) + (k : Int)) = (base : Int) + (k : Int) := u64_wrapG (by omega) (by omega); clear h0 h1; rw [Hk.out]; go_enter Try.func41, Try.ntmps41
 go_wp2_with fail
 refine wRG (fun dn xv W => Sep w W []) (fun _ _ => True) [xP_ g 0, xP_ g 0, xP_ g 0, xP_ g 0, xV_ (.int .u64 (base : Int)), xP_ g 0, xP_ g 0, xP_ g 0, xP_ g 1, xV_ (.slice A n c), xV_ (.int .i64 (n : Int)), xV_ (.int .i64 (k : Int)), xV_ (.int .u64 (k : Int)), xV_ (.int .u64 ((base : Int) + (k : Int))), xV_ (.int .u64 ((base : Int) + (k : Int)))] (fun xv => by simpa using (Sep.nil w).drew) ?_ ?_
 ·refine Ep 1 0 g 0 ?_
  refine Ee 2 3 0 ?_
  refine Ee 3 4 1 ?_
  refine Ee 4 5 2 ?_
  refine Eek 5 6 3 (fun _ _ _ e => (e.bel.cell (p := ⟨g, 0, none⟩) HG.out).trans HC0.out) ?_
  refine Ep 6 0 g 0 ?_
  refine Ee 7 8 5 ?_
  refine Ee 8 9 6 ?_
  refine Ee 9 10 7 ?_
  refine Eek 10 11 8 (fun _ _ _ e => (e.bel.cell (p := ⟨g, 1, none⟩) HG.out).trans HC1.out) ?_
  refine Ee 11 12 9 ?_
  refine Ee 12 13 10 ?_
  refine Ee 13 14 11 ?_
  refine Eee 14 7 4 15 12 ?_
  refine Ee 15 16 13 ?_
  exact EN
 ·intro dn xv W hI H; have q14 : xv 14 = .int .u64 ((base : Int) + (k : Int)) := (H 14 (of_decide_eq_true (by kernel_rfl))).2; have hS : Sep w W [] := hI; clear H hI; simp only [putAll, Act.put, List.setIfInBounds_toArray, List.set_cons_zero, List.set_cons_succ, Nat.reduceAdd, q14]; clear q14; have HS := Lib.hid hS; clear hS
  go_wp2_with fail
  go_ret
  exact ⟨rfl, HS.out.bel⟩
def daCells (got : Nat) (sn : Int) (si : Nat) (peer : Int) (conn inc known : Nat) (seq : Int) (BA : Option Addr) (bn bc : Nat) : Array Value := #[.int .i64 2, .int .i64 sn, .int .i64 peer, .int .u64 (si : Int), .int .u64 (conn : Int), .int .u64 (inc : Int), .int .u64 (known : Int), .int .u64 (got : Int), .int .u64 seq, .slice BA bn bc]
set_option maxHeartbeats 1600000 in
theorem dataG (w : World) (g base : Nat) (bx : Value) (got : Nat) (sn : Int) (si : Nat) (peer : Int) (conn inc known : Nat) (up : Bool) (heard sent : Nat) (seq : Int) (BA : Option Addr) (bn bc : Nat) (h : w.heap[g]? = some (.cells (lkCells base bx got sn si peer conn inc known up heard sent) 72 (0, 0))) :
  Calls Try.prog 39 #[.pointer (some ⟨g, 0, none⟩), .int .u64 seq, .slice BA bn bc] w fun e w' => e = .returned (.agg (daCells got sn si peer conn inc known seq BA bn bc)) ∧ Below w.heap.size w w' := by
 have HS0 := Lib.hid (sep_ceF (Sep.nil w) #[.int .i64 0, .int .i64 0, .int .i64 0, .int .u64 0, .int .u64 0, .int .u64 0, .int .u64 0, .int .u64 0, .int .u64 0, .slice none 0 0] 51); have HH := Lib.hid (((Below.refl _ w).alloc (Nat.le_refl _) (.cells #[.int .i64 0, .int .i64 0, .int .i64 0, .int .u64 0, .int .u64 0, .int .u64 0, .int .u64 0, .int .u64 0, .int .u64 0, .slice none 0 0] 51)).block g (lt_of_heap h) |>.trans h)
 clear h; unfold daCells; go_enter Try.func39, Try.ntmps39
 go_wp2_with fail
 refine (hello_any _ g base bx got sn si peer conn inc known up heard sent HH.out).mono ?_; rintro e w1 ⟨rfl, hb1⟩; unfold heCells; have HS2 := Lib.hid (sep_ceF (HS0.out.grow hb1) #[.int .i64 2, .int .i64 sn, .int .i64 peer, .int .u64 (si : Int), .int .u64 (conn : Int), .int .u64 (inc : Int), .int .u64 (known : Int), .int .u64 (got : Int), .int .u64 seq, .slice BA bn bc] 51); have hs3 := sep_put10c (i := 1) HS2.out rfl (.int .i64 2) (.int .i64 sn) (.int .i64 peer) (.int .u64 (si : Int)) (.int .u64 (conn : Int)) (.int .u64 (inc : Int)) (.int .u64 (known : Int)) (.int .u64 (got : Int)) (.int .u64 seq) (.slice BA bn bc); have HS3 := Lib.hid hs3; clear hs3 HS0 hb1; have k0 := cA (i := 1) HS2.out rfl 0 rfl; have k1 := cA (i := 1) HS2.out rfl 1 rfl; have k2 := cA (i := 1) HS2.out rfl 2 rfl; have k3 := cA (i := 1) HS2.out rfl 3 rfl; have k4 := cA (i := 1) HS2.out rfl 4 rfl; have k5 := cA (i := 1) HS2.out rfl 5 rfl; have k6 := cA (i := 1) HS2.out rfl 6 rfl; have k7 := cA (i := 1) HS2.out rfl 7 rfl; have k8 := cA (i := 1) HS2.out rfl 8 rfl; have k9 := cA (i := 1) HS2.out rfl 9 rfl; have y0 := cFz (i := 1) HS2.out rfl 0; have y1 := cFz (i := 1) HS2.out rfl 1; have y2 := cFz (i := 1) HS2.out rfl 2; have y3 := cFz (i := 1) HS2.out rfl 3; have y4 := cFz (i := 1) HS2.out rfl 4; have y5 := cFz (i := 1) HS2.out rfl 5; have y6 := cFz (i := 1) HS2.out rfl 6; have y7 := cFz (i := 1) HS2.out rfl 7; have y8 := cFz (i := 1) HS2.out rfl 8; have y9 := cFz (i := 1) HS2.out rfl 9
 go_wp2_with fail
 have z0 := cA (i := 1) HS3.out rfl 0 rfl; have z1 := cA (i := 1) HS3.out rfl 1 rfl; have z2 := cA (i := 1) HS3.out rfl 2 rfl; have z3 := cA (i := 1) HS3.out rfl 3 rfl; have z4 := cA (i := 1) HS3.out rfl 4 rfl; have z5 := cA (i := 1) HS3.out rfl 5 rfl; have z6 := cA (i := 1) HS3.out rfl 6 rfl; have z7 := cA (i := 1) HS3.out rfl 7 rfl; have z8 := cA (i := 1) HS3.out rfl 8 rfl; have z9 := cA (i := 1) HS3.out rfl 9 rfl; refine bodyPost_ret (v := .agg #[.int .i64 2, .int .i64 sn, .int .i64 peer, .int .u64 (si : Int), .int .u64 (conn : Int), .int .u64 (inc : Int), .int .u64 (known : Int), .int .u64 (got : Int), .int .u64 seq, .slice BA bn bc]) (by simp [results, Try.results39, go_sem, z0, z1, z2, z3, z4, z5, z6, z7, z8, z9]) rfl ?_; exact ⟨rfl, HS3.out.bel⟩
end Go.Proofs.Ytngegjboenfmeaa
/- The walks of window.may, window.due, window.Take and of the document's Count, Body, May, Due, Take. -/
namespace Go.Proofs.Ytngegjboenfmeaa
open Go Go.RowKit
set_option linter.unusedVariables false
set_option maxRecDepth 100000

def bodyB (l : List UInt8) : Bool := decide (1 ≤ l.length) && decide (l.length ≤ 448)
def wmayB (base : Nat) (L : List (List UInt8)) : Bool := decide (L.length ≤ 48) && decide (base + L.length ≤ 34359738367) && L.all bodyB
def okTo (L : List (List UInt8)) (k : Nat) : Prop := (L.take k).all bodyB = true
theorem okTo_zero (L : List (List UInt8)) : okTo L 0 := by simp [okTo]
theorem okTo_succ {L : List (List UInt8)} {k : Nat} (h : okTo L k) (hk : k < L.length) (hb : bodyB L[k] = true) : okTo L (k + 1) := by
 unfold okTo at *; rw [List.take_succ_eq_append_getElem hk, List.all_append, h]; simp [hb]
theorem body_yes {l : List UInt8} (h1 : 1 ≤ l.length) (h2 : l.length ≤ 448) : bodyB l = true := by simp [bodyB, h1, h2]
theorem body_no1 {l : List UInt8} (h1 : l.length < 1) : bodyB l = false := by simp [bodyB]; omega
theorem body_no2 {l : List UInt8} (h1 : 448 < l.length) : bodyB l = false := by simp [bodyB]; omega
theorem all_end {L : List (List UInt8)} {k : Nat} (h : okTo L k) (hk : L.length ≤ k) : L.all bodyB = true := by
 unfold okTo at h
 rwa [List.take_of_length_le hk] at h
theorem all_no {L : List (List UInt8)} {k : Nat} (hk : k < L.length) (hb : bodyB L[k] = false) : L.all bodyB = false := by
 rw [List.all_eq_false]; exact ⟨L[k], List.getElem_mem hk, by simp [hb]⟩
theorem may_is {base : Nat} {L : List (List UInt8)} {r : Bool} (h1 : L.length ≤ 48) (h2 : base + L.length ≤ 34359738367) (h : L.all bodyB = r) : wmayB base L = r := by simp [wmayB, h1, h2, h]
theorem may_no {base : Nat} {L : List (List UInt8)} (h : 48 < L.length ∨ 34359738367 < base + L.length) : wmayB base L = false := by
 unfold wmayB
 rcases h with h | h
 ·rw [decide_eq_false (by omega)]; rfl
 ·rw [decide_eq_false (p := base + L.length ≤ 34359738367) (by omega)]; simp

theorem ret_b {a b : Bool} (h : a = b) : Ending.returned (.bool b) = .returned (.bool a) := by rw [h]

set_option maxHeartbeats 800000 in
theorem wmay_any (w : World) (B base : Nat) (A : Option Addr) (c : Nat) (L : List (List UInt8)) (h : Bx w B A L) (hB : B ≤ w.heap.size) (hb : base < 18446744073709551616) (hm : L.length ≤ maxLen) :
  Calls Try.prog 57 #[.agg #[.int .u64 (base : Int), .slice A L.length c]] w fun e w' => e = .returned (.bool (wmayB base L)) ∧ Below w.heap.size w w' := by
 unfold maxLen at hm; have H := Lib.hid h; clear h
 by_cases h1 : L.length ≤ 48
 ·by_cases h2 : base + L.length ≤ 34359738367
  ·have g1 : base ≤ 34359738367 := by omega
   go_enter Try.func57, Try.ntmps57
   go_wp2
   go_loop [22] (fun i => ∃ k : Nat, k ≤ L.length ∧ i = .int .i64 (k : Int) ∧ okTo L k) (fun i => L.length - (intOf i).toNat)
   case atStart => exact ⟨0, by omega, rfl, okTo_zero L⟩
   case round =>
    obtain ⟨k, hk, rfl, ho⟩ := hrel
    by_cases hlt : k < L.length
    ·obtain ⟨b, o, A1, c1, rfl, hbB, hc, q1, q2, q3, hh⟩ := (H.out.below ((Below.refl B w).alloc hB (.cells #[.int .u64 (base : Int), .slice A L.length c] 68))).at_ hlt; have HN := Lib.hid (@all_no L k hlt); have HS := Lib.hid (@okTo_succ L k ho hlt); clear hh ho; obtain ⟨l, Hl⟩ : ∃ l, Hid (L[k] = l) := ⟨_, Lib.hid rfl⟩; rw [Hl.out] at hc q1 q3 HN HS; unfold maxLen at q2
     by_cases g3 : l.length < 1
     ·go_wp2
      go_ret
      exact ⟨ret_b (may_is h1 h2 (HN.out (body_no1 g3))), (Below.refl _ _).alloc (Nat.le_refl _) _⟩
     ·by_cases g4 : 448 < l.length
      ·go_wp2
       go_ret
       exact ⟨ret_b (may_is h1 h2 (HN.out (body_no2 g4))), (Below.refl _ _).alloc (Nat.le_refl _) _⟩
      ·go_wp2
       go_round
       case rel => exact ⟨k + 1, by omega, by go_num, HS.out (body_yes (by omega) (by omega))⟩
       case measure => simp [intOf]; omega
    ·go_wp2
     go_ret
     exact ⟨ret_b (may_is h1 h2 (all_end ho (by omega))), (Below.refl _ _).alloc (Nat.le_refl _) _⟩
  ·have g1 : ((34359738367 : Int) - (L.length : Int)) < (base : Int) := by omega
   go_enter Try.func57, Try.ntmps57
   go_wp2
   go_ret
   exact ⟨ret_b (may_no (.inr (by omega))), (Below.refl _ _).alloc (Nat.le_refl _) _⟩
 ·have g1 : 48 < L.length := by omega
  go_enter Try.func57, Try.ntmps57
  go_wp2
  go_ret
  exact ⟨ret_b (may_no (.inl (by omega))), (Below.refl _ _).alloc (Nat.le_refl _) _⟩
end Go.Proofs.Ytngegjboenfmeaa
/- The walks of window.due, window.Take and of the document's Count, Body, May, Due, Take. -/
namespace Go.Proofs.Ytngegjboenfmeaa
open Go Go.RowKit
set_option linter.unusedVariables false
set_option maxRecDepth 100000

theorem dueP_any (w : World) (base : Int) (A : Option Addr) (n c : Nat) (hm : n ≤ maxLen) :
  Calls Try.prog 59 #[.agg #[.int .u64 base, .slice A n c]] w fun e w' => e = .returned (.int .i64 ((min n 8 : Nat) : Int)) ∧ Below w.heap.size w w' := by
 unfold maxLen at hm
 by_cases h : n ≤ 8
 ·have e : min n 8 = n := Nat.min_eq_left h; rw [e]; have e2 : min (n : Int) 8 = (n : Int) := by omega
  go_enter Try.func59, Try.ntmps59
  go_wp2
  go_ret
  exact ⟨by first | rfl | (congr 2; omega) | simp_all, (Below.refl _ _).alloc (Nat.le_refl _) _⟩
 ·have e : min n 8 = 8 := Nat.min_eq_right (by omega); rw [e]; have e2 : min (n : Int) 8 = 8 := by omega
  have g : 8 < n := by omega
  go_enter Try.func59, Try.ntmps59
  go_wp2
  go_ret
  exact ⟨by first | rfl | (congr 2; omega) | simp_all, (Below.refl _ _).alloc (Nat.le_refl _) _⟩

def takeB (got seq : Nat) : Bool := decide (1 ≤ seq) && decide (seq ≤ 34359738367) && decide (seq = got + 1)
def takeV (got seq : Nat) : Nat := if takeB got seq = true then seq else got
theorem wtake_no {got seq : Nat} (h : seq < 1 ∨ 34359738367 < seq ∨ seq ≠ got + 1) : takeB got seq = false ∧ takeV got seq = got := by
 have h0 : takeB got seq = false := by
  unfold takeB
  rcases h with h | h | h
  ·rw [decide_eq_false (by omega)]; rfl
  ·rw [decide_eq_false (p := seq ≤ 34359738367) (by omega)]; simp
  ·rw [decide_eq_false h]; simp
 exact ⟨h0, by simp [takeV, h0]⟩
theorem take_yes {got seq : Nat} (h1 : 1 ≤ seq) (h2 : seq ≤ 34359738367) (h : seq = got + 1) : takeB got seq = true ∧ takeV got seq = seq := by
 have h0 : takeB got seq = true := by
  unfold takeB; rw [decide_eq_true h1, decide_eq_true h2, decide_eq_true h]; rfl
 exact ⟨h0, by simp [takeV, h0]⟩
def TakeRes (got seq : Nat) : Value := .tuple #[.agg #[.int .u64 (takeV got seq : Int)], .bool (takeB got seq)]
theorem takeRes_no {got seq : Nat} (h : seq < 1 ∨ 34359738367 < seq ∨ seq ≠ got + 1) : TakeRes got seq = .tuple #[.agg #[.int .u64 (got : Int)], .bool false] := by
 unfold TakeRes; rw [(wtake_no h).1, (wtake_no h).2]
theorem takeRes_yes {got seq : Nat} (h1 : 1 ≤ seq) (h2 : seq ≤ 34359738367) (h : seq = got + 1) : TakeRes got seq = .tuple #[.agg #[.int .u64 (seq : Int)], .bool true] := by
 unfold TakeRes; rw [(take_yes h1 h2 h).1, (take_yes h1 h2 h).2]

set_option maxHeartbeats 800000 in
theorem take_any (w : World) (got seq : Nat) (hg : got < 18446744073709551616) (hs : seq < 18446744073709551616) :
  Calls Try.prog 43 #[.agg #[.int .u64 (got : Int)], .int .u64 (seq : Int)] w fun e w' => e = .returned (TakeRes got seq) ∧ Below w.heap.size w w' := by
 have fin : ∀ o o' : Obj, Below w.heap.size w ((w.alloc o).alloc o') := fun o o' => ((Below.refl _ _).alloc (Nat.le_refl _) _).alloc (by simp) _
 by_cases h1 : seq < 1
 ·rw [takeRes_no (.inl h1)]; have e0 : ((seq : Int) == 0) = true := by simp; omega
  go_enter Try.func43, Try.ntmps43
  go_wp2; exact bodyPost_ret (v := .tuple #[.agg #[.int .u64 (got : Int)], .bool false]) (by simp [results, Try.results43, go_sem]) rfl ⟨rfl, fin _ _⟩
 ·have e0 : ((seq : Int) == 0) = false := by simp; omega
  by_cases h2 : 34359738367 < seq
  ·rw [takeRes_no (.inr (.inl h2))]; go_enter Try.func43, Try.ntmps43; go_wp2; exact bodyPost_ret (v := .tuple #[.agg #[.int .u64 (got : Int)], .bool false]) (by simp [results, Try.results43, go_sem]) rfl ⟨rfl, fin _ _⟩
  ·have g1 : 1 ≤ seq := by omega
   have g2 : seq ≤ 34359738367 := by omega
   by_cases h3 : seq = got + 1
   ·rw [takeRes_yes g1 g2 h3]; have e1 : ((seq : Int) - 1 != (got : Int)) = false := by simp; omega
    clear h3; go_enter Try.func43, Try.ntmps43; go_wp2; exact bodyPost_ret (v := .tuple #[.agg #[.int .u64 (seq : Int)], .bool true]) (by simp [results, Try.results43, go_sem]) rfl ⟨rfl, fin _ _⟩
   ·rw [takeRes_no (.inr (.inr h3))]; have e1 : ((seq : Int) - 1 != (got : Int)) = true := by simp; omega
    go_enter Try.func43, Try.ntmps43
    go_wp2; exact bodyPost_ret (v := .tuple #[.agg #[.int .u64 (got : Int)], .bool false]) (by simp [results, Try.results43, go_sem]) rfl ⟨rfl, fin _ _⟩

theorem count_any (w : World) (x : Nat) : Calls Try.prog 47 #[.int .u64 (x : Int)] w fun e w' => e = .returned (.bool (decide (x < 34359738368))) ∧ w = w' := by
 obtain ⟨M, HM⟩ : ∃ M : Bool, Hid (decide (x < 34359738368) = M) := ⟨_, Lib.hid rfl⟩; have h1 : decide ((x : Int) < 34359738368) = M := by rw [← HM.out]; congr 1; exact propext (by omega)
 rw [HM.out]; go_enter Try.func47, Try.ntmps47; go_wp2
 go_ret
 refine ⟨?_, rfl⟩
 first | rfl | rw [h1]

theorem bodyR_any (w : World) (A : Option Addr) (c : Nat) (l : List UInt8) (hl : l.length ≤ 140737488355328) : Calls Try.prog 76 #[.slice A l.length c] w fun e w' => e = .returned (.bool (bodyB l)) ∧ w = w' := by
 by_cases h1 : 1 ≤ l.length
 ·have g0 : 0 < l.length := h1
  by_cases h2 : l.length ≤ 448
  ·rw [body_yes h1 h2]; have g2 : decide ((l.length : Int) ≤ 448) = true := decide_eq_true (by omega); go_enter Try.func76, Try.ntmps76; go_wp2
   go_ret
   refine ⟨?_, rfl⟩
   first | rfl | rw [g2]
  ·have g1 : 448 < l.length := by omega
   rw [body_no2 g1]; have g2 : decide ((l.length : Int) ≤ 448) = false := decide_eq_false (by omega); go_enter Try.func76, Try.ntmps76; go_wp2
   go_ret
   refine ⟨?_, rfl⟩
   first | rfl | rw [g2]
 ·have g1 : l.length < 1 := by omega
  have g2 : decide (0 < l.length) = false := decide_eq_false (by omega); have g3 : decide ((0 : Int) < (l.length : Int)) = false := decide_eq_false (by omega); rw [body_no1 g1]; go_enter Try.func76, Try.ntmps76; go_wp2
  go_ret
  exact ⟨by first | rfl | rw [g2], rfl⟩
end Go.Proofs.Ytngegjboenfmeaa
/- The walk of window.Push. -/
namespace Go.Proofs.Ytngegjboenfmeaa
open Go Go.RowKit
set_option linter.unusedVariables false
set_option maxRecDepth 100000

theorem bcell {W w1 : World} (hb : Below W.heap.size W w1) : (∀ b o, b < W.heap.size → w1.cell? ⟨b, o, none⟩ = W.cell? ⟨b, o, none⟩) ∧ (∀ b o, b < W.heap.size → w1.frozen? ⟨b, o, none⟩ = W.frozen? ⟨b, o, none⟩) :=
 ⟨fun b o h => hb.cell (p := ⟨b, o, none⟩) h, fun b o h => hb.frozen (p := ⟨b, o, none⟩) h⟩

/-- two rows that lie apart -/
def ApB (u v : Value) : Prop := ∀ g, u.ownBlock = some g → v.ownBlock ≠ some g
/-- a row of one -/
def OneOf (u v : Value) (w : World) : Prop := ∃ A c, v = .slice A 1 c ∧ Has w w.heap.size A [u]
theorem OneOf.new (w : World) (u : Value) (t : TypeId) : OneOf u (.slice (some ⟨w.heap.size, 0, none⟩) 1 1) (w.alloc (.cells #[u] t)) := ⟨_, 1, rfl, by have := has_new w #[u] t; simpa using this⟩
/-- a block of two cells -/
def IsCell2 (w : World) (b : Nat) (x y : Value) : Prop := w.cell? ⟨b, 0, none⟩ = some x ∧ w.cell? ⟨b, 1, none⟩ = some y

/-- two cells of one's own are written -/
theorem set2 {w w1 W : World} {v : Value} {L : List (List UInt8)} (hB1 : Below w.heap.size w w1) (s1 : Below w1.heap.size w1 W) (g : Nat) (hg : w.heap.size ≤ g) (hg2 : g < w1.heap.size) (ho : OwnB W w1.heap.size v L) {a b : Value} (h0 : W.cell? ⟨g, 0, none⟩ = some a) (h1 : W.cell? ⟨g, 1, none⟩ = some b) (x y : Value) :
  Below w.heap.size w ((W.setCell ⟨g, 0, none⟩ x).setCell ⟨g, 1, none⟩ y) ∧ OwnB ((W.setCell ⟨g, 0, none⟩ x).setCell ⟨g, 1, none⟩ y) w1.heap.size v L ∧ IsCell2 ((W.setCell ⟨g, 0, none⟩ x).setCell ⟨g, 1, none⟩ y) g x y := by
 refine ⟨((hB1.trans (s1.mono hB1.size)).setCell hg _).setCell hg _, ho.keep fun k hk _ => ?_, ?_, ?_⟩
 ·rw [Below.heap_setCell _ _ _ k (by simp only; omega), Below.heap_setCell _ _ _ k (by simp only; omega)]
 ·rw [World.cell?_setCell_other _ _ _ _ (by simp)]; exact World.cell?_setCell_same' _ _ _ (by rw [h0]; rfl)
 ·exact World.cell?_setCell_same' _ _ _ (by rw [World.cell?_setCell_other _ _ _ _ (by simp), h1]; rfl)
theorem len1 (L : List (List UInt8)) (l : List UInt8) : (L ++ [l]).length = L.length + 1 := by simp

def pushE (base : Nat) (L : List (List UInt8)) (l : List UInt8) : Nat := if wmayB base L = false then 1 else if bodyB l = false then 2 else if 48 ≤ L.length ∨ 34359738367 ≤ base + L.length then 4 else 0
/-- what Push answers: a fault and an empty sender, or the sender with one body more, in memory of its own -/
def PushPost (w : World) (base : Nat) (L : List (List UInt8)) (l : List UInt8) (e : Ending) (w' : World) : Prop :=
 Below w.heap.size w w' ∧ ((pushE base L l ≠ 0 ∧ e = .returned (.tuple #[.agg #[.int .u64 0, .slice none 0 0], .int .i64 (pushE base L l : Int)])) ∨
  (pushE base L l = 0 ∧ ∃ v, e = .returned (.tuple #[.agg #[.int .u64 (base : Int), v], .int .i64 0]) ∧ OwnB w' w.heap.size v (L ++ [l])))

set_option maxHeartbeats 1000000 in
theorem push_any (w : World) (base : Nat) (A : Option Addr) (c : Nat) (L : List (List UInt8)) (A1 : Option Addr) (c1 : Nat) (l : List UInt8) (h : Bx w w.heap.size A L) (h1 : Has w w.heap.size A1 (us l)) (hb : base < 18446744073709551616) (hf : Fit L) (hl : l.length ≤ 1000000) :
  Calls Try.prog 55 #[.agg #[.int .u64 (base : Int), .slice A L.length c], .slice A1 l.length c1] w (PushPost w base L l) := by
 have hL := hf.1; have H := Lib.hid h; have H1 := Lib.hid h1; have HF := Lib.hid hf; clear h h1 hf; obtain ⟨W0, HW0⟩ : ∃ W0, Hid (W0 = (w.alloc (.cells #[.int .u64 (base : Int), .slice A L.length c] 68)).alloc (.cells #[.int .u64 0, .slice none 0 0] 68)) := ⟨_, Lib.hid rfl⟩; have hb0 : Below w.heap.size w W0 := by rw [HW0.out]; exact ((Below.refl _ _).alloc (Nat.le_refl _) _).alloc (by simp) _
 have hz0 : W0.heap.size = w.heap.size + 2 := by rw [HW0.out]; simp
 have HZ0 := Lib.hid hz0; have k0 : W0.cell? ⟨w.heap.size, 0, none⟩ = some (.int .u64 (base : Int)) ∧ W0.cell? ⟨w.heap.size, 1, none⟩ = some (.slice A L.length c) ∧ W0.cell? ⟨w.heap.size + 1, 0, none⟩ = some (.int .u64 0) ∧ W0.cell? ⟨w.heap.size + 1, 1, none⟩ = some (.slice none 0 0) ∧ W0.frozen? ⟨w.heap.size + 1, 0, none⟩ = false ∧ W0.frozen? ⟨w.heap.size + 1, 1, none⟩ = false := by
  rw [HW0.out]; simp [go_sem]
 have HK0 := Lib.hid k0; clear k0 hz0; have hmx : L.length ≤ maxLen := by unfold maxLen; omega
 have H0 := Lib.hid (H.out.below hb0); go_enter Try.func55, Try.ntmps55
 go_wp2_with fail
 rw [← HW0.out]; refine (wmay_any W0 w.heap.size base A c L H0.out hb0.size hb hmx).mono ?_; rintro e w1 ⟨rfl, hb1⟩; obtain ⟨hc1, hf1⟩ := bcell hb1; have hz1 := hb1.size; rw [HZ0.out] at hz1 hc1 hf1; have k1 := (hc1 w.heap.size 0 (by omega)).trans HK0.out.1; have k2 := (hc1 w.heap.size 1 (by omega)).trans HK0.out.2.1; have k3 := (hc1 (w.heap.size + 1) 0 (by omega)).trans HK0.out.2.2.1; have k4 := (hc1 (w.heap.size + 1) 1 (by omega)).trans HK0.out.2.2.2.1; have k5 := (hf1 (w.heap.size + 1) 0 (by omega)).trans HK0.out.2.2.2.2.1; have k6 := (hf1 (w.heap.size + 1) 1 (by omega)).trans HK0.out.2.2.2.2.2; clear hc1 hf1; have hB1 : Below w.heap.size w w1 := hb0.trans (hb1.mono hb0.size)
 by_cases g1 : wmayB base L = true
 ·by_cases g2 : bodyB l = true
  ·have hl1 : 1 ≤ l.length ∧ l.length ≤ 448 := by simpa [bodyB] using g2
   obtain ⟨hl1, hl2⟩ := hl1; have hm1 : L.length ≤ 48 ∧ base + L.length ≤ 34359738367 := by
    have h := g1; unfold wmayB at h; simp only [Bool.and_eq_true, decide_eq_true_eq] at h; exact h.1
   obtain ⟨hm1, hm2⟩ := hm1
   by_cases g3 : 48 ≤ L.length
   ·have HE : Hid (pushE base L l = 4) := Lib.hid (by unfold pushE; rw [g1, g2, if_neg (by simp), if_neg (by simp), if_pos (.inl g3)]); rw [g1]; clear g1 g2; go_wp2; refine bodyPost_ret (v := .tuple #[.agg #[.int .u64 0, .slice none 0 0], .int .i64 4]) (by simp [results, Try.results55, go_sem, k3, k4]) rfl ?_; exact ⟨by first | exact (hB1.setCell (by simp) _).setCell (by simp) _ | exact hB1.setCell (by simp) _ | exact hB1, .inl ⟨by rw [HE.out]; omega, by rw [HE.out]; rfl⟩⟩
   ·by_cases g4 : 34359738367 ≤ base + L.length
    ·have HE : Hid (pushE base L l = 4) := Lib.hid (by unfold pushE; rw [g1, g2, if_neg (by simp), if_neg (by simp), if_pos (.inr g4)]); rw [g1]; clear g1 g2; go_wp2; refine bodyPost_ret (v := .tuple #[.agg #[.int .u64 0, .slice none 0 0], .int .i64 4]) (by simp [results, Try.results55, go_sem, k3, k4]) rfl ?_; exact ⟨by first | exact (hB1.setCell (by simp) _).setCell (by simp) _ | exact hB1.setCell (by simp) _ | exact hB1, .inl ⟨by rw [HE.out]; omega, by rw [HE.out]; rfl⟩⟩
    ·have HE : Hid (pushE base L l = 0) := Lib.hid (by unfold pushE; rw [g1, g2, if_neg (by simp), if_neg (by simp), if_neg (by omega)]); rw [g1]; clear g1 g2; have e48 : decide (48 ≤ L.length) = false := decide_eq_false g3
     go_wp2_with fail
     have HFB := Lib.hid (fun (x : List UInt8) (hx : x ∈ L) => (show x.length ≤ 140737488355328 by have := HF.out.2 x hx; omega)); have HFL : Hid (∀ x ∈ L ++ [l], x.length ≤ 140737488355328) := Lib.hid (fun x hx => by
      rcases List.mem_append.1 hx with h | h
      ·exact HFB.out x h
      ·simp at h; subst h; omega)
     -- R7
     have hbel : ∀ (dn : Nat → Bool) (xv : Nat → Value) (W : World), (if dn 10 = true then Below w.heap.size w W ∧ OwnB W w1.heap.size (xv 8) (L ++ [l]) ∧ IsCell2 W (w.heap.size + 1) (.int .u64 (base : Int)) (xv 8) else if dn 9 = true then Below w1.heap.size w1 W ∧ OwnB W w1.heap.size (xv 8) (L ++ [l]) ∧ xv 9 = .agg #[.int .u64 (base : Int), xv 8] else if dn 8 = true then Below w1.heap.size w1 W ∧ OwnB W w1.heap.size (xv 8) (L ++ [l]) else if dn 7 = true then Below w1.heap.size w1 W ∧ OwnB W w1.heap.size (xv 4) L ∧ Own W w1.heap.size (xv 6) l ∧ ApB (xv 6) (xv 4) ∧ OneOf (xv 6) (xv 7) W else if dn 6 = true then Below w1.heap.size w1 W ∧ OwnB W w1.heap.size (xv 4) L ∧ Own W w1.heap.size (xv 6) l ∧ ApB (xv 6) (xv 4) else if dn 4 = true then Below w1.heap.size w1 W ∧ OwnB W w1.heap.size (xv 4) L else Below w1.heap.size w1 W) → dn 10 = false → Below w1.heap.size w1 W := fun dn xv W h h0 => by
      rw [if_neg (by simp [h0])] at h; split at h
      ·exact h.1
      split at h
      ·exact h.1
      split at h
      ·exact h.1
      split at h
      ·exact h.1
      split at h
      ·exact h.1
      exact h
     refine wRG (fun dn xv W => if dn 10 = true then Below w.heap.size w W ∧ OwnB W w1.heap.size (xv 8) (L ++ [l]) ∧ IsCell2 W (w.heap.size + 1) (.int .u64 (base : Int)) (xv 8) else if dn 9 = true then Below w1.heap.size w1 W ∧ OwnB W w1.heap.size (xv 8) (L ++ [l]) ∧ xv 9 = .agg #[.int .u64 (base : Int), xv 8] else if dn 8 = true then Below w1.heap.size w1 W ∧ OwnB W w1.heap.size (xv 8) (L ++ [l]) else if dn 7 = true then Below w1.heap.size w1 W ∧ OwnB W w1.heap.size (xv 4) L ∧ Own W w1.heap.size (xv 6) l ∧ ApB (xv 6) (xv 4) ∧ OneOf (xv 6) (xv 7) W else if dn 6 = true then Below w1.heap.size w1 W ∧ OwnB W w1.heap.size (xv 4) L ∧ Own W w1.heap.size (xv 6) l ∧ ApB (xv 6) (xv 4) else if dn 4 = true then Below w1.heap.size w1 W ∧ OwnB W w1.heap.size (xv 4) L else Below w1.heap.size w1 W) (fun _ _ => True) [xP_ w.heap.size 0, xV_ (.int .u64 (base : Int)), xP_ w.heap.size 1, xV_ (.slice A L.length c), fun v _ => ∃ A2 c2, v = .slice A2 L.length c2, xV_ (.slice A1 l.length c1), fun v _ => ∃ A2 c2, v = .slice A2 l.length c2, fun v _ => True, fun v _ => True, fun v _ => True, fun v _ => True, xV_ (.int .i64 0)] (fun xv => by simpa using (Below.refl _ w1).drew) ?_ ?_
     ·refine Ep 1 2 w.heap.size 0 ?_
      refine EC 2 rfl (fun g h W F a b c d e H K f => ?_) ?_
      ·have f37 := gE (a 37) (by kernel_rfl) (H 0) (by kernel_rfl); have hb0 := hbel g h W e (c 10 uE); have hc0 := (hb0.cell (p := ⟨w.heap.size, 0, none⟩) (show w.heap.size < w1.heap.size by omega)).trans k1; clear hb0; clear H c b d a; refine oP rfl ?_; go_simp; exact f.out _ _ rfl trivial e
      refine Ep 3 2 w.heap.size 0 ?_
      refine EC 4 rfl (fun g h W F a b c d e H K f => ?_) ?_
      ·have f39 := gE (a 39) (by kernel_rfl) (H 2) (by kernel_rfl); have hb0 := hbel g h W e (c 10 uE); have hc0 := (hb0.cell (p := ⟨w.heap.size, 1, none⟩) (show w.heap.size < w1.heap.size by omega)).trans k2; clear hb0; clear H c b d a; refine oP rfl ?_; go_simp; exact f.out _ _ rfl trivial e
      refine EC 5 rfl (fun i k W F a b d f g H K h => ?_) ?_
      ·have f40 := gE (a 40) (by kernel_rfl) (H 3) (by kernel_rfl); have q6 := d 6 uE; have q7 := d 7 (uM 6 uE); have q8 := d 8 uE; have q9 := d 9 (uM 8 uE); have q10 := d 10 (uM 9 (uM 8 uE)); rw [if_neg (by simp [q10]), if_neg (by simp [q9]), if_neg (by simp [q8]), if_neg (by simp [q7]), if_neg (by simp [q6]), if_neg (by simp [b])] at g; have hS := g; clear g d b f a H; refine oP rfl ?_; go_simp; refine (copied_any W w.heap.size A c L (H.out.below (hB1.trans (hS.mono hB1.size))) (Nat.le_trans hB1.size hS.size) HF.out).mono ?_; rintro e W' ⟨v, rfl, ho, hb⟩; have hs : Below w1.heap.size w1 W' ∧ OwnB W' w1.heap.size v L := ⟨hS.trans (hb.mono hS.size), ho.mono hS.size⟩; obtain ⟨A2, c2, e2, _⟩ := ho.form HFB.out; exact h.out v W' ⟨A2, c2, e2⟩ trivial (by simpa [upB, upd, q6, q7, q8, q9, q10] using hs)
      refine Ei 6 1 (.slice A1 l.length c1) ?_
      refine EC 7 rfl (fun h i W F a b c d f H K g => ?_) ?_
      ·have f42 := gE (a 42) (by kernel_rfl) (H 5) (by kernel_rfl); have q4 := (H 4 uE).1; have q7 := c 7 uE; have q8 := c 8 uE; have q9 := c 9 (uM 8 uE); have q10 := c 10 (uM 9 (uM 8 uE)); rw [if_neg (by simp [q10]), if_neg (by simp [q9]), if_neg (by simp [q8]), if_neg (by simp [q7]), if_neg (by simp [b]), if_pos q4] at f; have hS := f; clear f c b d a H; refine oP rfl ?_; go_simp; refine (clone_any W w.heap.size A1 c1 l (H1.out.below (hB1.trans (hS.1.mono hB1.size))) (Nat.le_trans hB1.size hS.1.size) (by omega)).mono ?_; rintro e W' ⟨v, rfl, ho, hb⟩; have hs : Below w1.heap.size w1 W' ∧ OwnB W' w1.heap.size (i 4) L ∧ Own W' w1.heap.size v l ∧ ApB v (i 4) := ⟨hS.1.trans (hb.mono hS.1.size), hS.2.below hb, own_mono ho hS.1.size, apart_new hS.2 ho⟩; obtain ⟨A2, c2, e2, _⟩ := ho.form; exact g.out v W' ⟨A2, c2, e2⟩ trivial (by simpa [upB, upd, q7, q8, q9, q10] using hs)
      refine EC 8 rfl (fun g h W F a b c d e H K f => ?_) ?_
      ·have h6 := (H 6 uE).2; simp only [Dl] at h6; have f43 : F.tmps.getD 43 undef = h 6 := (a 43).trans (by kernel_rfl); have q6 := (H 6 uE).1; have q8 := c 8 uE; have q9 := c 9 (uM 8 uE); have q10 := c 10 (uM 9 (uM 8 uE)); rw [if_neg (by simp [q10]), if_neg (by simp [q9]), if_neg (by simp [q8]), if_neg (by simp [b]), if_pos q6] at e; have hS := e; clear e c b d a H; refine oP rfl ?_; obtain ⟨A2, c2, e2⟩ := h6; have e3 := e2; rw [e2] at f43; have g43 := f43; rw [Array.getD_eq_getD_getElem?] at g43; go_simp; rw [← e3]; have hb : Below W.heap.size W (W.alloc (.cells #[h 6] 47)) := (Below.refl _ _).alloc (Nat.le_refl _) _; have hs : Below w1.heap.size w1 (W.alloc (.cells #[h 6] 47)) ∧ OwnB (W.alloc (.cells #[h 6] 47)) w1.heap.size (h 4) L ∧ Own (W.alloc (.cells #[h 6] 47)) w1.heap.size (h 6) l ∧ ApB (h 6) (h 4) ∧ OneOf (h 6) (.slice (some ⟨W.heap.size, 0, none⟩) 1 1) (W.alloc (.cells #[h 6] 47)) := ⟨hS.1.trans (hb.mono hS.1.size), hS.2.1.below hb, own_below hS.2.2.1 hb (Nat.le_refl _), hS.2.2.2, OneOf.new W _ _⟩; exact f.out _ _ trivial trivial (by simpa [upB, upd, q8, q9, q10] using hs)
      refine EC 9 rfl (fun g h W F a b c d e H K f => ?_) ?_
      ·have f41 : F.tmps.getD 41 undef = h 4 := (a 41).trans (by kernel_rfl); have f44 : F.tmps.getD 44 undef = h 7 := (a 44).trans (by kernel_rfl); have q7 := (H 7 uE).1; have q9 := c 9 uE; have q10 := c 10 (uM 9 uE); rw [if_neg (by simp [q10]), if_neg (by simp [q9]), if_neg (by simp [b]), if_pos q7] at e; have hS := e; clear e c b d a H; refine oP rfl ?_; obtain ⟨s1, s2, s3, s4, A3, c3, e3, hh3⟩ := hS; have f44x := f44.trans e3; refine op_appB (base := w1.heap.size) (l := l) (u := h 6) (s := .tmp 41) (x := .tmp 44) (by rfl) f41 f44x s2 s3 s4 hh3 (by omega) s1.size ?_; intro v W' ho hb; have hs : Below w1.heap.size w1 W' ∧ OwnB W' w1.heap.size v (L ++ [l]) := ⟨s1.trans hb, ho⟩; exact f.out v _ trivial trivial (by simpa [upB, upd, q9, q10] using hs)
      refine EC 10 rfl (fun g h W F a b c d e H K f => ?_) ?_
      ·have f38 := gE (a 38) (by kernel_rfl) (H 1) (by kernel_rfl); have f45 : F.tmps.getD 45 undef = h 8 := (a 45).trans (by kernel_rfl); have q8 := (H 8 uE).1; have q10 := c 10 uE; rw [if_neg (by simp [q10]), if_neg (by simp [b]), if_pos q8] at e; have hS := e; clear e c b d a H; refine oP rfl ?_; obtain ⟨A2, c2, e2, _⟩ := hS.2.form HFL.out; rw [len1] at e2; have e3 := e2; have f45x := f45.trans e2; have g45 := f45x; have g38 := f38; rw [Array.getD_eq_getD_getElem?] at g45 g38; go_simp; rw [← e3]; have hs : Below w1.heap.size w1 W ∧ OwnB W w1.heap.size (h 8) (L ++ [l]) ∧ Value.agg #[.int .u64 (base : Int), h 8] = .agg #[.int .u64 (base : Int), h 8] := ⟨hS.1, hS.2, rfl⟩; exact f.out _ _ trivial trivial (by simpa [upB, upd, q10] using hs)
      refine EC 11 rfl (fun g h W F a b c d e H K f => ?_) ?_
      ·have f4 : F.tmps.getD 4 undef = .pointer (some ⟨w.heap.size + 1, 0, none⟩) := (a 4).trans (by kernel_rfl); have f46 : F.tmps.getD 46 undef = h 9 := (a 46).trans (by kernel_rfl); have q9 := (H 9 uE).1; rw [if_neg (by simp [b]), if_pos q9] at e; have hS := e; clear e c b d a H; refine oP rfl ?_; obtain ⟨s1, s2, s3⟩ := hS; obtain ⟨A2, c2, e2, _⟩ := s2.form HFL.out; rw [len1] at e2; have f46x := f46.trans s3; rw [e2] at f46x; have hc3 := (s1.cell (p := ⟨w.heap.size + 1, 0, none⟩) (show w.heap.size + 1 < w1.heap.size by omega)).trans k3; have hc4 := (s1.cell (p := ⟨w.heap.size + 1, 1, none⟩) (show w.heap.size + 1 < w1.heap.size by omega)).trans k4; have hf3 := (s1.frozen (p := ⟨w.heap.size + 1, 0, none⟩) (show w.heap.size + 1 < w1.heap.size by omega)).trans k5; have hf4 := (s1.frozen (p := ⟨w.heap.size + 1, 1, none⟩) (show w.heap.size + 1 < w1.heap.size by omega)).trans k6; have hs := set2 hB1 s1 (w.heap.size + 1) (by omega) (by omega) s2 hc3 hc4 (.int .u64 (base : Int)) (h 8); go_simp; rw [← e2]; exact f.out undef _ trivial trivial (by simpa [upB, upd] using hs)
      refine En 12 ?_
      exact EN
     ·intro dn xv W hI H; have q11 : xv 11 = .int .i64 0 := (H 11 (of_decide_eq_true (by kernel_rfl))).2; have qe : dn 10 = true := (H 10 (of_decide_eq_true (by kernel_rfl))).1; rw [if_pos qe] at hI; have hS := hI; clear H hI qe; simp only [putAll, Act.put, List.setIfInBounds_toArray, List.set_cons_zero, List.set_cons_succ, Nat.reduceAdd, q11]; clear q11; obtain ⟨s1, s2, s3, s4⟩ := hS; obtain ⟨A2, c2, e2, _⟩ := s2.form HFL.out; rw [len1] at e2; go_wp2; refine bodyPost_ret (v := .tuple #[.agg #[.int .u64 (base : Int), xv 8], .int .i64 0]) (by rw [e2] at s4 ⊢; simp [results, Try.results55, go_sem, s3, s4]) rfl ?_; exact ⟨s1, .inr ⟨HE.out, _, rfl, s2.mono hB1.size⟩⟩
     -- R7END
  ·have g2' : bodyB l = false := by simpa using g2
   have HE : Hid (pushE base L l = 2) := Lib.hid (by unfold pushE; rw [g1, g2', if_neg (by simp), if_pos rfl]); rw [g1]; clear g2 g1
   by_cases g3 : l.length < 1
   ·clear g2'; go_wp2; refine bodyPost_ret (v := .tuple #[.agg #[.int .u64 0, .slice none 0 0], .int .i64 2]) (by simp [results, Try.results55, go_sem, k3, k4]) rfl ?_; exact ⟨by first | exact (hB1.setCell (by simp) _).setCell (by simp) _ | exact hB1.setCell (by simp) _ | exact hB1, .inl ⟨by rw [HE.out]; omega, by rw [HE.out]; rfl⟩⟩
   ·have g4 : 448 < l.length := by
     have h := g2'; unfold bodyB at h; simp at h; omega
    clear g2'; go_wp2; refine bodyPost_ret (v := .tuple #[.agg #[.int .u64 0, .slice none 0 0], .int .i64 2]) (by simp [results, Try.results55, go_sem, k3, k4]) rfl ?_; exact ⟨by first | exact (hB1.setCell (by simp) _).setCell (by simp) _ | exact hB1.setCell (by simp) _ | exact hB1, .inl ⟨by rw [HE.out]; omega, by rw [HE.out]; rfl⟩⟩
 ·have g1' : wmayB base L = false := by simpa using g1
  have HE : Hid (pushE base L l = 1) := Lib.hid (by simp [pushE, g1']); rw [g1']; clear g1 g1'; go_wp2; refine bodyPost_ret (v := .tuple #[.agg #[.int .u64 0, .slice none 0 0], .int .i64 1]) (by simp [results, Try.results55, go_sem, k3, k4]) rfl ?_; exact ⟨by first | exact (hB1.setCell (by simp) _).setCell (by simp) _ | exact hB1.setCell (by simp) _ | exact hB1, .inl ⟨by rw [HE.out]; omega, by rw [HE.out]; rfl⟩⟩
end Go.Proofs.Ytngegjboenfmeaa
/- The walk of window.Acked. -/
namespace Go.Proofs.Ytngegjboenfmeaa
open Go Go.RowKit
set_option linter.unusedVariables false
set_option maxRecDepth 100000

theorem u64_wrap {x : Int} (h0 : 0 ≤ x) (h1 : x < 18446744073709551616) : IntKind.u64.wrap x = x := by
 exact IntWalk.u64_in x ⟨h0, by omega⟩
def ackB (base : Nat) (L : List (List UInt8)) (upto : Nat) : Bool := wmayB base L && decide (base < upto) && decide (upto - base ≤ min L.length 8)
def ackL (base : Nat) (L : List (List UInt8)) (upto : Nat) : List (List UInt8) := if ackB base L upto = true then L.drop (upto - base) else L
def ackV (base : Nat) (L : List (List UInt8)) (upto : Nat) : Nat := if ackB base L upto = true then upto else base
theorem ack_yes {base : Nat} {L : List (List UInt8)} {upto : Nat} (h : ackB base L upto = true) : ackL base L upto = L.drop (upto - base) ∧ ackV base L upto = upto := by simp [ackL, ackV, h]
theorem ack_no {base : Nat} {L : List (List UInt8)} {upto : Nat} (h : ackB base L upto = false) : ackL base L upto = L ∧ ackV base L upto = base := by simp [ackL, ackV, h]
def AckPost (w : World) (base : Nat) (L : List (List UInt8)) (upto : Nat) (e : Ending) (w' : World) : Prop :=
 Below w.heap.size w w' ∧ ∃ v, e = .returned (.tuple #[.agg #[.int .u64 (ackV base L upto : Int), v], .bool (ackB base L upto)]) ∧ OwnB w' w.heap.size v (ackL base L upto)
theorem run_fromB (A : Option Addr) (n c : Nat) (kd : IntKind) (k : Int) (k0 : Nat) (hk : k = (k0 : Int)) (h : k0 ≤ n) (hc : n ≤ c) (W : World) :
  (Instr.slice 66 (.slice A n c) (some (.int kd k)) none none).run Try.prog W = .ok (.slice (if c = k0 then A else A.map (·.add (k0 * 1))) (n - k0) (c - k0)) W := by
 subst hk; obtain ⟨i0, hi, hz0, hz1, hz2⟩ := info_parts info_bs; have he : Try.prog.elem 66 = 47 := by kernel_rfl
 rw [run_slice_l W 66 A n c (by kernel_rfl) kd (k0 : Int) (by omega) (by omega), he]; simp [sizeOf, typeInfo, hi, hz1, sliced]

/-- ahead of the region, and behind it -/
structure Ak (w W0 : World) (base : Nat) (A : Option Addr) (c : Nat) (L : List (List UInt8)) : Prop where
 b0 : Below w.heap.size w W0
 z0 : W0.heap.size = w.heap.size + 2
 k1 : W0.cell? ⟨w.heap.size, 0, none⟩ = some (.int .u64 (base : Int))
 k2 : W0.cell? ⟨w.heap.size, 1, none⟩ = some (.slice A L.length c)
 k3 : W0.cell? ⟨w.heap.size + 1, 0, none⟩ = some (.int .u64 0)
 k4 : W0.cell? ⟨w.heap.size + 1, 1, none⟩ = some (.slice none 0 0)
 k5 : W0.frozen? ⟨w.heap.size + 1, 0, none⟩ = false
 k6 : W0.frozen? ⟨w.heap.size + 1, 1, none⟩ = false
 h0 : Bx W0 w.heap.size A L
theorem Ak.below {w W0 W1 : World} {base : Nat} {A : Option Addr} {c : Nat} {L : List (List UInt8)} (h : Ak w W0 base A c L) (hb : Below W0.heap.size W0 W1) (hz : W1.heap.size = W0.heap.size) : Ak w W1 base A c L := by
 have hz0 := h.z0; obtain ⟨hc1, hf1⟩ := bcell hb; exact ⟨h.b0.trans (hb.mono h.b0.size), by omega, (hc1 _ 0 (by omega)).trans h.k1, (hc1 _ 1 (by omega)).trans h.k2, (hc1 _ 0 (by omega)).trans h.k3, (hc1 _ 1 (by omega)).trans h.k4, (hf1 _ 0 (by omega)).trans h.k5, (hf1 _ 1 (by omega)).trans h.k6, h.h0.below (hb.mono h.b0.size)⟩
theorem Ak.new (w : World) (base : Nat) (A : Option Addr) (c : Nat) (L : List (List UInt8)) (h : Bx w w.heap.size A L) :
  Ak w ((w.alloc (.cells #[.int .u64 (base : Int), .slice A L.length c] 68)).alloc (.cells #[.int .u64 0, .slice none 0 0] 68)) base A c L := by
 have hb0 : Below w.heap.size w ((w.alloc (.cells #[.int .u64 (base : Int), .slice A L.length c] 68)).alloc (.cells #[.int .u64 0, .slice none 0 0] 68)) := ((Below.refl _ _).alloc (Nat.le_refl _) _).alloc (by simp) _; exact ⟨hb0, by simp, by simp [go_sem], by simp [go_sem], by simp [go_sem], by simp [go_sem], by simp [go_sem], by simp [go_sem], h.below hb0⟩

set_option maxHeartbeats 1000000 in
theorem acked_a (w : World) (base upto : Nat) (A : Option Addr) (c : Nat) (L : List (List UInt8)) (h : Bx w w.heap.size A L) (hb : base < 18446744073709551616) (hu : upto < 18446744073709551616) (hf : Fit L) (hcc : L.length ≤ c) (hcm : c ≤ maxLen)
  (g1 : wmayB base L = false) :
  Calls Try.prog 42 #[.agg #[.int .u64 (base : Int), .slice A L.length c], .int .u64 (upto : Int)] w (AckPost w base L upto) := by
 have hL := hf.1; have H := Lib.hid h; have HF := Lib.hid hf; have hmx : L.length ≤ maxLen := by omega
 have HFB := Lib.hid (fun (x : List UInt8) (hx : x ∈ L) => (show x.length ≤ 140737488355328 by have := HF.out.2 x hx; omega)); clear hf; obtain ⟨W0, HW0⟩ : ∃ W0, Hid (W0 = (w.alloc (.cells #[.int .u64 (base : Int), .slice A L.length c] 68)).alloc (.cells #[.int .u64 0, .slice none 0 0] 68)) := ⟨_, Lib.hid rfl⟩; have HA : Hid (Ak w W0 base A c L) := Lib.hid (by rw [HW0.out]; exact Ak.new w base A c L h); obtain ⟨m, Hm⟩ : ∃ m, Hid (min L.length 8 = m) := ⟨_, Lib.hid rfl⟩; have hm8 : m ≤ 8 := by have := Hm.out; omega
 clear h; have HM := Lib.hid g1; have HE : Hid (ackB base L upto = false) := Lib.hid (by simp [ackB, g1]); clear g1; go_enter Try.func42, Try.ntmps42
 go_wp2_with fail
 rw [← HW0.out]; refine wRG (fun dn xv W => Below W0.heap.size W0 W) (fun W W' => Below W.heap.size W W') [xV_ (.agg #[.int .u64 (base : Int), .slice A L.length c]), xV_ (.bool false), xV_ (.bool true), xV_ (.bool true), xV_ undef, xV_ undef, xV_ undef, xV_ undef, xV_ (.bool true), xV_ (.bool true), xV_ undef, xV_ undef, xV_ undef, xV_ undef, xV_ undef, xV_ undef, xV_ undef, xV_ undef, xV_ (.bool true)] (fun xv => by simpa using (Below.refl _ W0).drew) ?_ ?_
 ·refine EC 1 rfl (fun g h W F a b c d e H K f => ?_) ?_
  ·have f2 : F.tmps.getD 2 undef = .pointer (some ⟨w.heap.size, 0, none⟩) := (a 2).trans (by kernel_rfl); have hz0 := HA.out.z0; have hc0 := (e.cell (p := ⟨w.heap.size, 0, none⟩) (show w.heap.size < W0.heap.size by omega)).trans HA.out.k1; have hc1 := (e.cell (p := ⟨w.heap.size, 1, none⟩) (show w.heap.size < W0.heap.size by omega)).trans HA.out.k2; clear hz0; clear H c b d a; refine oP rfl ?_; go_simp; exact f.out _ _ rfl (Below.refl _ _) (by simpa [upB, upd] using e)
  refine EC 2 rfl (fun i j W F a b d f g H K h => ?_) ?_
  ·have h0 : j 0 = .agg #[.int .u64 (base : Int), .slice A L.length c] := (H 0 uE).2; have f6 : F.tmps.getD 6 undef = .agg #[.int .u64 (base : Int), .slice A L.length c] := (a 6).trans (Eq.trans (by kernel_rfl) h0); clear H d b f a; refine oP rfl ?_; go_simp; refine (wmay_any W w.heap.size base A c L (HA.out.h0.below (g.mono HA.out.b0.size)) (Nat.le_trans HA.out.b0.size g.size) hb hmx).mono ?_; rintro e W' ⟨rfl, hb⟩; rw [HM.out]; exact h.out _ W' rfl hb (by simpa [upB, upd] using (g.trans (hb.mono g.size)))
  refine EC 3 rfl (fun g h W F a b c d e H K f => ?_) ?_
  ·have f7 := gE (a 7) (by kernel_rfl) (H 1) (by kernel_rfl); clear H c b d a; refine oP rfl ?_; go_simp; exact f.out _ _ rfl (Below.refl _ _) (by simpa [upB, upd] using e)
  refine EC 4 rfl (fun g h W F a b c d e H K f => ?_) ?_
  ·have f8 := gE (a 8) (by kernel_rfl) (H 2) (by kernel_rfl); clear H c b d a; refine oP rfl ?_; go_simp; exact f.out _ _ rfl (Below.refl _ _) (by simpa [upB, upd] using e)
  refine EC 5 rfl (fun g h W F a b c d e H K f => ?_) ?_
  ·have f9 := gE (a 9) (by kernel_rfl) (H 3) (by kernel_rfl); clear H c b d a; refine off_guard rfl (by kernel_rfl) f9 (by decide) ?_; exact f.out _ _ rfl (Below.refl _ _) (by simpa [upB, upd] using e)
  refine EC 6 rfl (fun g h W F a b c d e H K f => ?_) ?_
  ·have f9 := gE (a 9) (by kernel_rfl) (H 3) (by kernel_rfl); clear H c b d a; refine off_guard rfl (by kernel_rfl) f9 (by decide) ?_; exact f.out _ _ rfl (Below.refl _ _) (by simpa [upB, upd] using e)
  refine EC 7 rfl (fun g h W F a b c d e H K f => ?_) ?_
  ·have f9 := gE (a 9) (by kernel_rfl) (H 3) (by kernel_rfl); clear H c b d a; refine off_guard rfl (by kernel_rfl) f9 (by decide) ?_; exact f.out _ _ rfl (Below.refl _ _) (by simpa [upB, upd] using e)
  refine EC 8 rfl (fun g h W F a b c d e H K f => ?_) ?_
  ·have f9 := gE (a 9) (by kernel_rfl) (H 3) (by kernel_rfl); clear H c b d a; refine off_guard rfl (by kernel_rfl) f9 (by decide) ?_; exact f.out _ _ rfl (Below.refl _ _) (by simpa [upB, upd] using e)
  refine EC 9 rfl (fun g h W F a b c d e H K f => ?_) ?_
  ·have f9 := gE (a 9) (by kernel_rfl) (H 3) (by kernel_rfl); have f13 := gE (a 13) (by kernel_rfl) (H 7) (by kernel_rfl); clear H c b d a; refine oP rfl ?_; go_simp; exact f.out _ _ rfl (Below.refl _ _) (by simpa [upB, upd] using e)
  refine EC 10 rfl (fun g h W F a b c d e H K f => ?_) ?_
  ·have f14 := gE (a 14) (by kernel_rfl) (H 8) (by kernel_rfl); clear H c b d a; refine oP rfl ?_; go_simp; exact f.out _ _ rfl (Below.refl _ _) (by simpa [upB, upd] using e)
  refine EC 11 rfl (fun g h W F a b c d e H K f => ?_) ?_
  ·have f15 := gE (a 15) (by kernel_rfl) (H 9) (by kernel_rfl); clear H c b d a; refine off_guard rfl (by kernel_rfl) f15 (by decide) ?_; exact f.out _ _ rfl (Below.refl _ _) (by simpa [upB, upd] using e)
  refine EC 12 rfl (fun g h W F a b c d e H K f => ?_) ?_
  ·have f15 := gE (a 15) (by kernel_rfl) (H 9) (by kernel_rfl); clear H c b d a; refine off_guard rfl (by kernel_rfl) f15 (by decide) ?_; exact f.out _ _ rfl (Below.refl _ _) (by simpa [upB, upd] using e)
  refine EC 13 rfl (fun g h W F a b c d e H K f => ?_) ?_
  ·have f15 := gE (a 15) (by kernel_rfl) (H 9) (by kernel_rfl); clear H c b d a; refine off_guard rfl (by kernel_rfl) f15 (by decide) ?_; exact f.out _ _ rfl (Below.refl _ _) (by simpa [upB, upd] using e)
  refine EC 14 rfl (fun g h W F a b c d e H K f => ?_) ?_
  ·have f15 := gE (a 15) (by kernel_rfl) (H 9) (by kernel_rfl); clear H c b d a; refine off_guard rfl (by kernel_rfl) f15 (by decide) ?_; exact f.out _ _ rfl (Below.refl _ _) (by simpa [upB, upd] using e)
  refine EC 15 rfl (fun g h W F a b c d e H K f => ?_) ?_
  ·have f15 := gE (a 15) (by kernel_rfl) (H 9) (by kernel_rfl); clear H c b d a; refine off_guard rfl (by kernel_rfl) f15 (by decide) ?_; exact f.out _ _ rfl (Below.refl _ _) (by simpa [upB, upd] using e)
  refine EC 16 rfl (fun g h W F a b c d e H K f => ?_) ?_
  ·have f15 := gE (a 15) (by kernel_rfl) (H 9) (by kernel_rfl); clear H c b d a; refine off_guard rfl (by kernel_rfl) f15 (by decide) ?_; exact f.out _ _ rfl (Below.refl _ _) (by simpa [upB, upd] using e)
  refine EC 17 rfl (fun g h W F a b c d e H K f => ?_) ?_
  ·have f15 := gE (a 15) (by kernel_rfl) (H 9) (by kernel_rfl); clear H c b d a; refine off_guard rfl (by kernel_rfl) f15 (by decide) ?_; exact f.out _ _ rfl (Below.refl _ _) (by simpa [upB, upd] using e)
  refine EC 18 rfl (fun g h W F a b c d e H K f => ?_) ?_
  ·have f15 := gE (a 15) (by kernel_rfl) (H 9) (by kernel_rfl); clear H c b d a; refine off_guard rfl (by kernel_rfl) f15 (by decide) ?_; exact f.out _ _ rfl (Below.refl _ _) (by simpa [upB, upd] using e)
  refine EC 19 rfl (fun g h W F a b c d e H K f => ?_) ?_
  ·have f15 := gE (a 15) (by kernel_rfl) (H 9) (by kernel_rfl); have f23 := gE (a 23) (by kernel_rfl) (H 17) (by kernel_rfl); clear H c b d a; refine oP rfl ?_; go_simp; exact f.out _ _ rfl (Below.refl _ _) (by simpa [upB, upd] using e)
  exact EN
 ·intro dn xv W hI H; have q18 : xv 18 = .bool true := (H 18 (of_decide_eq_true (by kernel_rfl))).2; have hS : Below W0.heap.size W0 W := hI; clear H hI; simp only [putAll, Act.put, List.setIfInBounds_toArray, List.set_cons_zero, List.set_cons_succ, Nat.reduceAdd, q18]; clear q18; obtain ⟨w1, Hw1⟩ : ∃ w1, Hid (W = w1) := ⟨_, Lib.hid rfl⟩; have hb1 : Below W0.heap.size W0 W := hS; rw [Hw1.out] at hb1 ⊢; clear hS; obtain ⟨hc1, hf1⟩ := bcell hb1; have hz1 := hb1.size; rw [HA.out.z0] at hz1 hc1 hf1; have k1 := (hc1 w.heap.size 0 (by omega)).trans HA.out.k1; have k2 := (hc1 w.heap.size 1 (by omega)).trans HA.out.k2; have k3 := (hc1 (w.heap.size + 1) 0 (by omega)).trans HA.out.k3; have k4 := (hc1 (w.heap.size + 1) 1 (by omega)).trans HA.out.k4; have k5 := (hf1 (w.heap.size + 1) 0 (by omega)).trans HA.out.k5; have k6 := (hf1 (w.heap.size + 1) 1 (by omega)).trans HA.out.k6; have hB1 : Below w.heap.size w w1 := HA.out.b0.trans (hb1.mono HA.out.b0.size); clear hc1 hf1
  go_wp2_with fail
  have hbel : ∀ (dn : Nat → Bool) (xv : Nat → Value) (W : World), (if dn 6 = true then Below w.heap.size w W ∧ OwnB W w1.heap.size (xv 4) L ∧ IsCell2 W (w.heap.size + 1) (.int .u64 (base : Int)) (xv 4) else if dn 5 = true then Below w1.heap.size w1 W ∧ OwnB W w1.heap.size (xv 4) L ∧ xv 5 = .agg #[.int .u64 (base : Int), xv 4] else if dn 4 = true then Below w1.heap.size w1 W ∧ OwnB W w1.heap.size (xv 4) L else Below w1.heap.size w1 W) → dn 6 = false → Below w1.heap.size w1 W := fun dn xv W h h0 => by
   rw [if_neg (by simp [h0])] at h; split at h
   ·exact h.1
   split at h
   ·exact h.1
   exact h
  refine wRG (fun dn xv W => if dn 6 = true then Below w.heap.size w W ∧ OwnB W w1.heap.size (xv 4) L ∧ IsCell2 W (w.heap.size + 1) (.int .u64 (base : Int)) (xv 4) else if dn 5 = true then Below w1.heap.size w1 W ∧ OwnB W w1.heap.size (xv 4) L ∧ xv 5 = .agg #[.int .u64 (base : Int), xv 4] else if dn 4 = true then Below w1.heap.size w1 W ∧ OwnB W w1.heap.size (xv 4) L else Below w1.heap.size w1 W) (fun _ _ => True) [xP_ w.heap.size 0, xV_ (.int .u64 (base : Int)), xP_ w.heap.size 1, xV_ (.slice A L.length c), fun v _ => ∃ A2 c2, v = .slice A2 L.length c2, fun v _ => True, fun v _ => True, xV_ (.bool false)] (fun xv => by simpa using (Below.refl _ w1).drew) ?_ ?_
  ·refine Ep 1 2 w.heap.size 0 ?_
   refine EC 2 rfl (fun g h W F a b c d e H K f => ?_) ?_
   ·have f25 := gE (a 25) (by kernel_rfl) (H 0) (by kernel_rfl); have hb0 := hbel g h W e (c 6 uE); have hc0 := (hb0.cell (p := ⟨w.heap.size, 0, none⟩) (show w.heap.size < w1.heap.size by omega)).trans k1; clear hb0; clear H c b d a; refine oP rfl ?_; go_simp; exact f.out _ _ rfl trivial e
   refine Ep 3 2 w.heap.size 0 ?_
   refine EC 4 rfl (fun g h W F a b c d e H K f => ?_) ?_
   ·have f27 := gE (a 27) (by kernel_rfl) (H 2) (by kernel_rfl); have hb0 := hbel g h W e (c 6 uE); have hc0 := (hb0.cell (p := ⟨w.heap.size, 1, none⟩) (show w.heap.size < w1.heap.size by omega)).trans k2; clear hb0; clear H c b d a; refine oP rfl ?_; go_simp; exact f.out _ _ rfl trivial e
   refine EC 5 rfl (fun i k W F a b d f g H K h => ?_) ?_
   ·have f28 := gE (a 28) (by kernel_rfl) (H 3) (by kernel_rfl); have q5 := d 5 uE; have q6 := d 6 (uM 5 uE); rw [if_neg (by simp [q6]), if_neg (by simp [q5]), if_neg (by simp [b])] at g; have hS := g; clear g d b f a H; refine oP rfl ?_; go_simp; refine (copied_any W w.heap.size A c L (H.out.below (hB1.trans (hS.mono hB1.size))) (Nat.le_trans hB1.size hS.size) HF.out).mono ?_; rintro e W' ⟨v, rfl, ho, hb⟩; have hs : Below w1.heap.size w1 W' ∧ OwnB W' w1.heap.size v L := ⟨hS.trans (hb.mono hS.size), ho.mono hS.size⟩; obtain ⟨A2, c2, e2, _⟩ := ho.form HFB.out; exact h.out v W' ⟨A2, c2, e2⟩ trivial (by simpa [upB, upd, q5, q6] using hs)
   refine EC 6 rfl (fun g h W F a b c d e H K f => ?_) ?_
   ·have f26 := gE (a 26) (by kernel_rfl) (H 1) (by kernel_rfl); have f29 : F.tmps.getD 29 undef = h 4 := (a 29).trans (by kernel_rfl); have q4 := (H 4 uE).1; have q6 := c 6 uE; rw [if_neg (by simp [q6]), if_neg (by simp [b]), if_pos q4] at e; have hS := e; clear e c b d a H; refine oP rfl ?_; obtain ⟨A2, c2, e2, _⟩ := hS.2.form HFB.out; have e3 := e2; have f29x := f29.trans e2; have g29 := f29x; have g26 := f26; rw [Array.getD_eq_getD_getElem?] at g29 g26; go_simp; rw [← e3]; have hs : Below w1.heap.size w1 W ∧ OwnB W w1.heap.size (h 4) L ∧ Value.agg #[.int .u64 (base : Int), h 4] = .agg #[.int .u64 (base : Int), h 4] := ⟨hS.1, hS.2, rfl⟩; exact f.out _ _ trivial trivial (by simpa [upB, upd, q6] using hs)
   refine EC 7 rfl (fun g h W F a b c d e H K f => ?_) ?_
   ·have f4 : F.tmps.getD 4 undef = .pointer (some ⟨w.heap.size + 1, 0, none⟩) := (a 4).trans (by kernel_rfl); have f30 : F.tmps.getD 30 undef = h 5 := (a 30).trans (by kernel_rfl); have q5 := (H 5 uE).1; rw [if_neg (by simp [b]), if_pos q5] at e; have hS := e; clear e c b d a H; refine oP rfl ?_; obtain ⟨s1, s2, s3⟩ := hS; obtain ⟨A2, c2, e2, _⟩ := s2.form HFB.out; have f30x := f30.trans s3; rw [e2] at f30x; have hc3 := (s1.cell (p := ⟨w.heap.size + 1, 0, none⟩) (show w.heap.size + 1 < w1.heap.size by omega)).trans k3; have hc4 := (s1.cell (p := ⟨w.heap.size + 1, 1, none⟩) (show w.heap.size + 1 < w1.heap.size by omega)).trans k4; have hf3 := (s1.frozen (p := ⟨w.heap.size + 1, 0, none⟩) (show w.heap.size + 1 < w1.heap.size by omega)).trans k5; have hf4 := (s1.frozen (p := ⟨w.heap.size + 1, 1, none⟩) (show w.heap.size + 1 < w1.heap.size by omega)).trans k6; have hs := set2 hB1 s1 (w.heap.size + 1) (by omega) (by omega) s2 hc3 hc4 (.int .u64 (base : Int)) (h 4); go_simp; rw [← e2]; exact f.out undef _ trivial trivial (by simpa [upB, upd] using hs)
   refine En 8 ?_
   exact EN
  ·intro dn xv W hI H; have q7 : xv 7 = .bool false := (H 7 (of_decide_eq_true (by kernel_rfl))).2; have qe : dn 6 = true := (H 6 (of_decide_eq_true (by kernel_rfl))).1; rw [if_pos qe] at hI; have hS := hI; clear H hI qe; simp only [putAll, Act.put, List.setIfInBounds_toArray, List.set_cons_zero, List.set_cons_succ, Nat.reduceAdd, q7]; clear q7; obtain ⟨s1, s2, s3, s4⟩ := hS; obtain ⟨A2, c2, e2, _⟩ := s2.form HFB.out; go_wp2; refine bodyPost_ret (v := .tuple #[.agg #[.int .u64 (base : Int), xv 4], .bool false]) (by rw [e2] at s4 ⊢; simp [results, Try.results42, go_sem, s3, s4]) rfl ?_; exact ⟨s1, xv 4, by rw [HE.out, (ack_no HE.out).2], by rw [(ack_no HE.out).1]; exact s2.mono hB1.size⟩

set_option maxHeartbeats 1000000 in
theorem acked_b (w : World) (base upto : Nat) (A : Option Addr) (c : Nat) (L : List (List UInt8)) (h : Bx w w.heap.size A L) (hb : base < 18446744073709551616) (hu : upto < 18446744073709551616) (hf : Fit L) (hcc : L.length ≤ c) (hcm : c ≤ maxLen)
  (g1 : wmayB base L = true) (g2 : upto ≤ base) :
  Calls Try.prog 42 #[.agg #[.int .u64 (base : Int), .slice A L.length c], .int .u64 (upto : Int)] w (AckPost w base L upto) := by
 have hL := hf.1; have H := Lib.hid h; have HF := Lib.hid hf; have hmx : L.length ≤ maxLen := by omega
 have HFB := Lib.hid (fun (x : List UInt8) (hx : x ∈ L) => (show x.length ≤ 140737488355328 by have := HF.out.2 x hx; omega)); clear hf; obtain ⟨W0, HW0⟩ : ∃ W0, Hid (W0 = (w.alloc (.cells #[.int .u64 (base : Int), .slice A L.length c] 68)).alloc (.cells #[.int .u64 0, .slice none 0 0] 68)) := ⟨_, Lib.hid rfl⟩; have HA : Hid (Ak w W0 base A c L) := Lib.hid (by rw [HW0.out]; exact Ak.new w base A c L h); obtain ⟨m, Hm⟩ : ∃ m, Hid (min L.length 8 = m) := ⟨_, Lib.hid rfl⟩; have hm8 : m ≤ 8 := by have := Hm.out; omega
 clear h; have HM := Lib.hid g1; have HE : Hid (ackB base L upto = false) := Lib.hid (by unfold ackB; rw [decide_eq_false (p := base < upto) (by omega)]; simp); clear g1; have HD1 : Hid (decide ((upto : Int) ≤ (base : Int)) = true) := Lib.hid (by simp; omega); have HD2 : Hid (decide (upto ≤ base) = true) := Lib.hid (by simp; omega); go_enter Try.func42, Try.ntmps42
 go_wp2_with fail
 rw [← HW0.out]; refine wRG (fun dn xv W => Below W0.heap.size W0 W) (fun W W' => Below W.heap.size W W') [xV_ (.agg #[.int .u64 (base : Int), .slice A L.length c]), xV_ (.bool true), xV_ (.bool false), xV_ (.bool false), xV_ (.int .u64 (upto : Int)), xP_ w.heap.size 0, xV_ (.int .u64 (base : Int)), xV_ (.bool true), xV_ (.bool true), xV_ (.bool true), xV_ undef, xV_ undef, xV_ undef, xV_ undef, xV_ undef, xV_ undef, xV_ undef, xV_ undef, xV_ (.bool true)] (fun xv => by simpa using (Below.refl _ W0).drew) ?_ ?_
 ·refine EC 1 rfl (fun g h W F a b c d e H K f => ?_) ?_
  ·have f2 : F.tmps.getD 2 undef = .pointer (some ⟨w.heap.size, 0, none⟩) := (a 2).trans (by kernel_rfl); have hz0 := HA.out.z0; have hc0 := (e.cell (p := ⟨w.heap.size, 0, none⟩) (show w.heap.size < W0.heap.size by omega)).trans HA.out.k1; have hc1 := (e.cell (p := ⟨w.heap.size, 1, none⟩) (show w.heap.size < W0.heap.size by omega)).trans HA.out.k2; clear hz0; clear H c b d a; refine oP rfl ?_; go_simp; exact f.out _ _ rfl (Below.refl _ _) (by simpa [upB, upd] using e)
  refine EC 2 rfl (fun i j W F a b d f g H K h => ?_) ?_
  ·have h0 : j 0 = .agg #[.int .u64 (base : Int), .slice A L.length c] := (H 0 uE).2; have f6 : F.tmps.getD 6 undef = .agg #[.int .u64 (base : Int), .slice A L.length c] := (a 6).trans (Eq.trans (by kernel_rfl) h0); clear H d b f a; refine oP rfl ?_; go_simp; refine (wmay_any W w.heap.size base A c L (HA.out.h0.below (g.mono HA.out.b0.size)) (Nat.le_trans HA.out.b0.size g.size) hb hmx).mono ?_; rintro e W' ⟨rfl, hb⟩; rw [HM.out]; exact h.out _ W' rfl hb (by simpa [upB, upd] using (g.trans (hb.mono g.size)))
  refine EC 3 rfl (fun g h W F a b c d e H K f => ?_) ?_
  ·have f7 := gE (a 7) (by kernel_rfl) (H 1) (by kernel_rfl); clear H c b d a; refine oP rfl ?_; go_simp; exact f.out _ _ rfl (Below.refl _ _) (by simpa [upB, upd] using e)
  refine EC 4 rfl (fun g h W F a b c d e H K f => ?_) ?_
  ·have f8 := gE (a 8) (by kernel_rfl) (H 2) (by kernel_rfl); clear H c b d a; refine oP rfl ?_; go_simp; exact f.out _ _ rfl (Below.refl _ _) (by simpa [upB, upd] using e)
  refine EC 5 rfl (fun g h W F a b c d e H K f => ?_) ?_
  ·have f1 : F.tmps.getD 1 undef = .int .u64 (upto : Int) := (a 1).trans (by kernel_rfl); have f9 := gE (a 9) (by kernel_rfl) (H 3) (by kernel_rfl); clear H c b d a; refine oG rfl (by kernel_rfl) f9 ?_; go_simp; exact f.out _ _ rfl (Below.refl _ _) (by simpa [upB, upd] using e)
  refine EC 6 rfl (fun g h W F a b c d e H K f => ?_) ?_
  ·have f2 : F.tmps.getD 2 undef = .pointer (some ⟨w.heap.size, 0, none⟩) := (a 2).trans (by kernel_rfl); have f9 := gE (a 9) (by kernel_rfl) (H 3) (by kernel_rfl); clear H c b d a; refine oG rfl (by kernel_rfl) f9 ?_; go_simp; exact f.out _ _ rfl (Below.refl _ _) (by simpa [upB, upd] using e)
  refine EC 7 rfl (fun g h W F a b c d e H K f => ?_) ?_
  ·have f11 := gE (a 11) (by kernel_rfl) (H 5) (by kernel_rfl); have f9 := gE (a 9) (by kernel_rfl) (H 3) (by kernel_rfl); have hz0 := HA.out.z0; have hc0 := (e.cell (p := ⟨w.heap.size, 0, none⟩) (show w.heap.size < W0.heap.size by omega)).trans HA.out.k1; have hc1 := (e.cell (p := ⟨w.heap.size, 1, none⟩) (show w.heap.size < W0.heap.size by omega)).trans HA.out.k2; clear hz0; clear H c b d a; refine oG rfl (by kernel_rfl) f9 ?_; go_simp; exact f.out _ _ rfl (Below.refl _ _) (by simpa [upB, upd] using e)
  refine EC 8 rfl (fun g h W F a b c d e H K f => ?_) ?_
  ·have f10 := gE (a 10) (by kernel_rfl) (H 4) (by kernel_rfl); have f12 := gE (a 12) (by kernel_rfl) (H 6) (by kernel_rfl); have f9 := gE (a 9) (by kernel_rfl) (H 3) (by kernel_rfl); clear H c b d a; refine oG rfl (by kernel_rfl) f9 ?_; have d1 := HD1.out; have d2 := HD2.out; go_simp; exact f.out _ _ rfl (Below.refl _ _) (by simpa [upB, upd] using e)
  refine EC 9 rfl (fun g h W F a b c d e H K f => ?_) ?_
  ·have f9 := gE (a 9) (by kernel_rfl) (H 3) (by kernel_rfl); have f13 := gE (a 13) (by kernel_rfl) (H 7) (by kernel_rfl); clear H c b d a; refine oP rfl ?_; go_simp; exact f.out _ _ rfl (Below.refl _ _) (by simpa [upB, upd] using e)
  refine EC 10 rfl (fun g h W F a b c d e H K f => ?_) ?_
  ·have f14 := gE (a 14) (by kernel_rfl) (H 8) (by kernel_rfl); clear H c b d a; refine oP rfl ?_; go_simp; exact f.out _ _ rfl (Below.refl _ _) (by simpa [upB, upd] using e)
  refine EC 11 rfl (fun g h W F a b c d e H K f => ?_) ?_
  ·have f15 := gE (a 15) (by kernel_rfl) (H 9) (by kernel_rfl); clear H c b d a; refine off_guard rfl (by kernel_rfl) f15 (by decide) ?_; exact f.out _ _ rfl (Below.refl _ _) (by simpa [upB, upd] using e)
  refine EC 12 rfl (fun g h W F a b c d e H K f => ?_) ?_
  ·have f15 := gE (a 15) (by kernel_rfl) (H 9) (by kernel_rfl); clear H c b d a; refine off_guard rfl (by kernel_rfl) f15 (by decide) ?_; exact f.out _ _ rfl (Below.refl _ _) (by simpa [upB, upd] using e)
  refine EC 13 rfl (fun g h W F a b c d e H K f => ?_) ?_
  ·have f15 := gE (a 15) (by kernel_rfl) (H 9) (by kernel_rfl); clear H c b d a; refine off_guard rfl (by kernel_rfl) f15 (by decide) ?_; exact f.out _ _ rfl (Below.refl _ _) (by simpa [upB, upd] using e)
  refine EC 14 rfl (fun g h W F a b c d e H K f => ?_) ?_
  ·have f15 := gE (a 15) (by kernel_rfl) (H 9) (by kernel_rfl); clear H c b d a; refine off_guard rfl (by kernel_rfl) f15 (by decide) ?_; exact f.out _ _ rfl (Below.refl _ _) (by simpa [upB, upd] using e)
  refine EC 15 rfl (fun g h W F a b c d e H K f => ?_) ?_
  ·have f15 := gE (a 15) (by kernel_rfl) (H 9) (by kernel_rfl); clear H c b d a; refine off_guard rfl (by kernel_rfl) f15 (by decide) ?_; exact f.out _ _ rfl (Below.refl _ _) (by simpa [upB, upd] using e)
  refine EC 16 rfl (fun g h W F a b c d e H K f => ?_) ?_
  ·have f15 := gE (a 15) (by kernel_rfl) (H 9) (by kernel_rfl); clear H c b d a; refine off_guard rfl (by kernel_rfl) f15 (by decide) ?_; exact f.out _ _ rfl (Below.refl _ _) (by simpa [upB, upd] using e)
  refine EC 17 rfl (fun g h W F a b c d e H K f => ?_) ?_
  ·have f15 := gE (a 15) (by kernel_rfl) (H 9) (by kernel_rfl); clear H c b d a; refine off_guard rfl (by kernel_rfl) f15 (by decide) ?_; exact f.out _ _ rfl (Below.refl _ _) (by simpa [upB, upd] using e)
  refine EC 18 rfl (fun g h W F a b c d e H K f => ?_) ?_
  ·have f15 := gE (a 15) (by kernel_rfl) (H 9) (by kernel_rfl); clear H c b d a; refine off_guard rfl (by kernel_rfl) f15 (by decide) ?_; exact f.out _ _ rfl (Below.refl _ _) (by simpa [upB, upd] using e)
  refine EC 19 rfl (fun g h W F a b c d e H K f => ?_) ?_
  ·have f15 := gE (a 15) (by kernel_rfl) (H 9) (by kernel_rfl); have f23 := gE (a 23) (by kernel_rfl) (H 17) (by kernel_rfl); clear H c b d a; refine oP rfl ?_; go_simp; exact f.out _ _ rfl (Below.refl _ _) (by simpa [upB, upd] using e)
  exact EN
 ·intro dn xv W hI H; have q18 : xv 18 = .bool true := (H 18 (of_decide_eq_true (by kernel_rfl))).2; have hS : Below W0.heap.size W0 W := hI; clear H hI; simp only [putAll, Act.put, List.setIfInBounds_toArray, List.set_cons_zero, List.set_cons_succ, Nat.reduceAdd, q18]; clear q18; obtain ⟨w1, Hw1⟩ : ∃ w1, Hid (W = w1) := ⟨_, Lib.hid rfl⟩; have hb1 : Below W0.heap.size W0 W := hS; rw [Hw1.out] at hb1 ⊢; clear hS; obtain ⟨hc1, hf1⟩ := bcell hb1; have hz1 := hb1.size; rw [HA.out.z0] at hz1 hc1 hf1; have k1 := (hc1 w.heap.size 0 (by omega)).trans HA.out.k1; have k2 := (hc1 w.heap.size 1 (by omega)).trans HA.out.k2; have k3 := (hc1 (w.heap.size + 1) 0 (by omega)).trans HA.out.k3; have k4 := (hc1 (w.heap.size + 1) 1 (by omega)).trans HA.out.k4; have k5 := (hf1 (w.heap.size + 1) 0 (by omega)).trans HA.out.k5; have k6 := (hf1 (w.heap.size + 1) 1 (by omega)).trans HA.out.k6; have hB1 : Below w.heap.size w w1 := HA.out.b0.trans (hb1.mono HA.out.b0.size); clear hc1 hf1
  go_wp2_with fail
  have hbel : ∀ (dn : Nat → Bool) (xv : Nat → Value) (W : World), (if dn 6 = true then Below w.heap.size w W ∧ OwnB W w1.heap.size (xv 4) L ∧ IsCell2 W (w.heap.size + 1) (.int .u64 (base : Int)) (xv 4) else if dn 5 = true then Below w1.heap.size w1 W ∧ OwnB W w1.heap.size (xv 4) L ∧ xv 5 = .agg #[.int .u64 (base : Int), xv 4] else if dn 4 = true then Below w1.heap.size w1 W ∧ OwnB W w1.heap.size (xv 4) L else Below w1.heap.size w1 W) → dn 6 = false → Below w1.heap.size w1 W := fun dn xv W h h0 => by
   rw [if_neg (by simp [h0])] at h; split at h
   ·exact h.1
   split at h
   ·exact h.1
   exact h
  refine wRG (fun dn xv W => if dn 6 = true then Below w.heap.size w W ∧ OwnB W w1.heap.size (xv 4) L ∧ IsCell2 W (w.heap.size + 1) (.int .u64 (base : Int)) (xv 4) else if dn 5 = true then Below w1.heap.size w1 W ∧ OwnB W w1.heap.size (xv 4) L ∧ xv 5 = .agg #[.int .u64 (base : Int), xv 4] else if dn 4 = true then Below w1.heap.size w1 W ∧ OwnB W w1.heap.size (xv 4) L else Below w1.heap.size w1 W) (fun _ _ => True) [xP_ w.heap.size 0, xV_ (.int .u64 (base : Int)), xP_ w.heap.size 1, xV_ (.slice A L.length c), fun v _ => ∃ A2 c2, v = .slice A2 L.length c2, fun v _ => True, fun v _ => True, xV_ (.bool false)] (fun xv => by simpa using (Below.refl _ w1).drew) ?_ ?_
  ·refine Ep 1 2 w.heap.size 0 ?_
   refine EC 2 rfl (fun g h W F a b c d e H K f => ?_) ?_
   ·have f25 := gE (a 25) (by kernel_rfl) (H 0) (by kernel_rfl); have hb0 := hbel g h W e (c 6 uE); have hc0 := (hb0.cell (p := ⟨w.heap.size, 0, none⟩) (show w.heap.size < w1.heap.size by omega)).trans k1; clear hb0; clear H c b d a; refine oP rfl ?_; go_simp; exact f.out _ _ rfl trivial e
   refine Ep 3 2 w.heap.size 0 ?_
   refine EC 4 rfl (fun g h W F a b c d e H K f => ?_) ?_
   ·have f27 := gE (a 27) (by kernel_rfl) (H 2) (by kernel_rfl); have hb0 := hbel g h W e (c 6 uE); have hc0 := (hb0.cell (p := ⟨w.heap.size, 1, none⟩) (show w.heap.size < w1.heap.size by omega)).trans k2; clear hb0; clear H c b d a; refine oP rfl ?_; go_simp; exact f.out _ _ rfl trivial e
   refine EC 5 rfl (fun i k W F a b d f g H K h => ?_) ?_
   ·have f28 := gE (a 28) (by kernel_rfl) (H 3) (by kernel_rfl); have q5 := d 5 uE; have q6 := d 6 (uM 5 uE); rw [if_neg (by simp [q6]), if_neg (by simp [q5]), if_neg (by simp [b])] at g; have hS := g; clear g d b f a H; refine oP rfl ?_; go_simp; refine (copied_any W w.heap.size A c L (H.out.below (hB1.trans (hS.mono hB1.size))) (Nat.le_trans hB1.size hS.size) HF.out).mono ?_; rintro e W' ⟨v, rfl, ho, hb⟩; have hs : Below w1.heap.size w1 W' ∧ OwnB W' w1.heap.size v L := ⟨hS.trans (hb.mono hS.size), ho.mono hS.size⟩; obtain ⟨A2, c2, e2, _⟩ := ho.form HFB.out; exact h.out v W' ⟨A2, c2, e2⟩ trivial (by simpa [upB, upd, q5, q6] using hs)
   refine EC 6 rfl (fun g h W F a b c d e H K f => ?_) ?_
   ·have f26 := gE (a 26) (by kernel_rfl) (H 1) (by kernel_rfl); have f29 : F.tmps.getD 29 undef = h 4 := (a 29).trans (by kernel_rfl); have q4 := (H 4 uE).1; have q6 := c 6 uE; rw [if_neg (by simp [q6]), if_neg (by simp [b]), if_pos q4] at e; have hS := e; clear e c b d a H; refine oP rfl ?_; obtain ⟨A2, c2, e2, _⟩ := hS.2.form HFB.out; have e3 := e2; have f29x := f29.trans e2; have g29 := f29x; have g26 := f26; rw [Array.getD_eq_getD_getElem?] at g29 g26; go_simp; rw [← e3]; have hs : Below w1.heap.size w1 W ∧ OwnB W w1.heap.size (h 4) L ∧ Value.agg #[.int .u64 (base : Int), h 4] = .agg #[.int .u64 (base : Int), h 4] := ⟨hS.1, hS.2, rfl⟩; exact f.out _ _ trivial trivial (by simpa [upB, upd, q6] using hs)
   refine EC 7 rfl (fun g h W F a b c d e H K f => ?_) ?_
   ·have f4 : F.tmps.getD 4 undef = .pointer (some ⟨w.heap.size + 1, 0, none⟩) := (a 4).trans (by kernel_rfl); have f30 : F.tmps.getD 30 undef = h 5 := (a 30).trans (by kernel_rfl); have q5 := (H 5 uE).1; rw [if_neg (by simp [b]), if_pos q5] at e; have hS := e; clear e c b d a H; refine oP rfl ?_; obtain ⟨s1, s2, s3⟩ := hS; obtain ⟨A2, c2, e2, _⟩ := s2.form HFB.out; have f30x := f30.trans s3; rw [e2] at f30x; have hc3 := (s1.cell (p := ⟨w.heap.size + 1, 0, none⟩) (show w.heap.size + 1 < w1.heap.size by omega)).trans k3; have hc4 := (s1.cell (p := ⟨w.heap.size + 1, 1, none⟩) (show w.heap.size + 1 < w1.heap.size by omega)).trans k4; have hf3 := (s1.frozen (p := ⟨w.heap.size + 1, 0, none⟩) (show w.heap.size + 1 < w1.heap.size by omega)).trans k5; have hf4 := (s1.frozen (p := ⟨w.heap.size + 1, 1, none⟩) (show w.heap.size + 1 < w1.heap.size by omega)).trans k6; have hs := set2 hB1 s1 (w.heap.size + 1) (by omega) (by omega) s2 hc3 hc4 (.int .u64 (base : Int)) (h 4); go_simp; rw [← e2]; exact f.out undef _ trivial trivial (by simpa [upB, upd] using hs)
   refine En 8 ?_
   exact EN
  ·intro dn xv W hI H; have q7 : xv 7 = .bool false := (H 7 (of_decide_eq_true (by kernel_rfl))).2; have qe : dn 6 = true := (H 6 (of_decide_eq_true (by kernel_rfl))).1; rw [if_pos qe] at hI; have hS := hI; clear H hI qe; simp only [putAll, Act.put, List.setIfInBounds_toArray, List.set_cons_zero, List.set_cons_succ, Nat.reduceAdd, q7]; clear q7; obtain ⟨s1, s2, s3, s4⟩ := hS; obtain ⟨A2, c2, e2, _⟩ := s2.form HFB.out; go_wp2; refine bodyPost_ret (v := .tuple #[.agg #[.int .u64 (base : Int), xv 4], .bool false]) (by rw [e2] at s4 ⊢; simp [results, Try.results42, go_sem, s3, s4]) rfl ?_; exact ⟨s1, xv 4, by rw [HE.out, (ack_no HE.out).2], by rw [(ack_no HE.out).1]; exact s2.mono hB1.size⟩

set_option maxHeartbeats 1000000 in
theorem acked_c (w : World) (base upto : Nat) (A : Option Addr) (c : Nat) (L : List (List UInt8)) (h : Bx w w.heap.size A L) (hb : base < 18446744073709551616) (hu : upto < 18446744073709551616) (hf : Fit L) (hcc : L.length ≤ c) (hcm : c ≤ maxLen)
  (g1 : wmayB base L = true) (g2 : base < upto) (g3 : min L.length 8 < upto - base) :
  Calls Try.prog 42 #[.agg #[.int .u64 (base : Int), .slice A L.length c], .int .u64 (upto : Int)] w (AckPost w base L upto) := by
 have hL := hf.1; have H := Lib.hid h; have HF := Lib.hid hf; have hmx : L.length ≤ maxLen := by omega
 have HFB := Lib.hid (fun (x : List UInt8) (hx : x ∈ L) => (show x.length ≤ 140737488355328 by have := HF.out.2 x hx; omega)); clear hf; obtain ⟨W0, HW0⟩ : ∃ W0, Hid (W0 = (w.alloc (.cells #[.int .u64 (base : Int), .slice A L.length c] 68)).alloc (.cells #[.int .u64 0, .slice none 0 0] 68)) := ⟨_, Lib.hid rfl⟩; have HA : Hid (Ak w W0 base A c L) := Lib.hid (by rw [HW0.out]; exact Ak.new w base A c L h); obtain ⟨m, Hm⟩ : ∃ m, Hid (min L.length 8 = m) := ⟨_, Lib.hid rfl⟩; have hm8 : m ≤ 8 := by have := Hm.out; omega
 clear h; have HM := Lib.hid g1; rw [Hm.out] at g3; have HE : Hid (ackB base L upto = false) := Lib.hid (by unfold ackB; rw [Hm.out, decide_eq_false (p := upto - base ≤ m) (by omega)]; simp); clear g1; have HD1 : Hid (decide ((upto : Int) ≤ (base : Int)) = false) := Lib.hid (by simp; omega); have HD2 : Hid (decide (upto ≤ base) = false) := Lib.hid (by simp; omega); have i1 : (base : Int) ≤ (upto : Int) := by omega
 have HW5 : Hid (IntKind.u64.wrap ((upto : Int) - (base : Int)) = (upto : Int) - (base : Int)) := Lib.hid (u64_wrap (by omega) (by omega)); have HW6 : Hid (IntKind.u64.wrap (m : Int) = (m : Int)) := Lib.hid (u64_wrap (by omega) (by omega)); have HD3 : Hid (decide ((m : Int) < (upto : Int) - (base : Int)) = true) := Lib.hid (by simp; omega); have HD4 : Hid (decide ((upto : Int) - (base : Int) > (m : Int)) = true) := Lib.hid (by simp; omega); go_enter Try.func42, Try.ntmps42
 go_wp2_with fail
 rw [← HW0.out]; refine wRG (fun dn xv W => Below W0.heap.size W0 W) (fun W W' => Below W.heap.size W W') [xV_ (.agg #[.int .u64 (base : Int), .slice A L.length c]), xV_ (.bool true), xV_ (.bool false), xV_ (.bool false), xV_ (.int .u64 (upto : Int)), xP_ w.heap.size 0, xV_ (.int .u64 (base : Int)), xV_ (.bool false), xV_ (.bool false), xV_ (.bool false), xV_ (.int .u64 (upto : Int)), xP_ w.heap.size 0, xV_ (.int .u64 (base : Int)), xV_ (.int .u64 ((upto : Int) - (base : Int))), xV_ (.agg #[.int .u64 (base : Int), .slice A L.length c]), xV_ (.int .i64 (m : Int)), xV_ (.int .u64 (m : Int)), xV_ (.bool true), xV_ (.bool true)] (fun xv => by simpa using (Below.refl _ W0).drew) ?_ ?_
 ·refine EC 1 rfl (fun g h W F a b c d e H K f => ?_) ?_
  ·have f2 : F.tmps.getD 2 undef = .pointer (some ⟨w.heap.size, 0, none⟩) := (a 2).trans (by kernel_rfl); have hz0 := HA.out.z0; have hc0 := (e.cell (p := ⟨w.heap.size, 0, none⟩) (show w.heap.size < W0.heap.size by omega)).trans HA.out.k1; have hc1 := (e.cell (p := ⟨w.heap.size, 1, none⟩) (show w.heap.size < W0.heap.size by omega)).trans HA.out.k2; clear hz0; clear H c b d a; refine oP rfl ?_; go_simp; exact f.out _ _ rfl (Below.refl _ _) (by simpa [upB, upd] using e)
  refine EC 2 rfl (fun i j W F a b d f g H K h => ?_) ?_
  ·have h0 : j 0 = .agg #[.int .u64 (base : Int), .slice A L.length c] := (H 0 uE).2; have f6 : F.tmps.getD 6 undef = .agg #[.int .u64 (base : Int), .slice A L.length c] := (a 6).trans (Eq.trans (by kernel_rfl) h0); clear H d b f a; refine oP rfl ?_; go_simp; refine (wmay_any W w.heap.size base A c L (HA.out.h0.below (g.mono HA.out.b0.size)) (Nat.le_trans HA.out.b0.size g.size) hb hmx).mono ?_; rintro e W' ⟨rfl, hb⟩; rw [HM.out]; exact h.out _ W' rfl hb (by simpa [upB, upd] using (g.trans (hb.mono g.size)))
  refine EC 3 rfl (fun g h W F a b c d e H K f => ?_) ?_
  ·have f7 := gE (a 7) (by kernel_rfl) (H 1) (by kernel_rfl); clear H c b d a; refine oP rfl ?_; go_simp; exact f.out _ _ rfl (Below.refl _ _) (by simpa [upB, upd] using e)
  refine EC 4 rfl (fun g h W F a b c d e H K f => ?_) ?_
  ·have f8 := gE (a 8) (by kernel_rfl) (H 2) (by kernel_rfl); clear H c b d a; refine oP rfl ?_; go_simp; exact f.out _ _ rfl (Below.refl _ _) (by simpa [upB, upd] using e)
  refine EC 5 rfl (fun g h W F a b c d e H K f => ?_) ?_
  ·have f1 : F.tmps.getD 1 undef = .int .u64 (upto : Int) := (a 1).trans (by kernel_rfl); have f9 := gE (a 9) (by kernel_rfl) (H 3) (by kernel_rfl); clear H c b d a; refine oG rfl (by kernel_rfl) f9 ?_; go_simp; exact f.out _ _ rfl (Below.refl _ _) (by simpa [upB, upd] using e)
  refine EC 6 rfl (fun g h W F a b c d e H K f => ?_) ?_
  ·have f2 : F.tmps.getD 2 undef = .pointer (some ⟨w.heap.size, 0, none⟩) := (a 2).trans (by kernel_rfl); have f9 := gE (a 9) (by kernel_rfl) (H 3) (by kernel_rfl); clear H c b d a; refine oG rfl (by kernel_rfl) f9 ?_; go_simp; exact f.out _ _ rfl (Below.refl _ _) (by simpa [upB, upd] using e)
  refine EC 7 rfl (fun g h W F a b c d e H K f => ?_) ?_
  ·have f11 := gE (a 11) (by kernel_rfl) (H 5) (by kernel_rfl); have f9 := gE (a 9) (by kernel_rfl) (H 3) (by kernel_rfl); have hz0 := HA.out.z0; have hc0 := (e.cell (p := ⟨w.heap.size, 0, none⟩) (show w.heap.size < W0.heap.size by omega)).trans HA.out.k1; have hc1 := (e.cell (p := ⟨w.heap.size, 1, none⟩) (show w.heap.size < W0.heap.size by omega)).trans HA.out.k2; clear hz0; clear H c b d a; refine oG rfl (by kernel_rfl) f9 ?_; go_simp; exact f.out _ _ rfl (Below.refl _ _) (by simpa [upB, upd] using e)
  refine EC 8 rfl (fun g h W F a b c d e H K f => ?_) ?_
  ·have f10 := gE (a 10) (by kernel_rfl) (H 4) (by kernel_rfl); have f12 := gE (a 12) (by kernel_rfl) (H 6) (by kernel_rfl); have f9 := gE (a 9) (by kernel_rfl) (H 3) (by kernel_rfl); clear H c b d a; refine oG rfl (by kernel_rfl) f9 ?_; have d1 := HD1.out; have d2 := HD2.out; go_simp; exact f.out _ _ rfl (Below.refl _ _) (by simpa [upB, upd] using e)
  refine EC 9 rfl (fun g h W F a b c d e H K f => ?_) ?_
  ·have f9 := gE (a 9) (by kernel_rfl) (H 3) (by kernel_rfl); have f13 := gE (a 13) (by kernel_rfl) (H 7) (by kernel_rfl); clear H c b d a; refine oP rfl ?_; go_simp; exact f.out _ _ rfl (Below.refl _ _) (by simpa [upB, upd] using e)
  refine EC 10 rfl (fun g h W F a b c d e H K f => ?_) ?_
  ·have f14 := gE (a 14) (by kernel_rfl) (H 8) (by kernel_rfl); clear H c b d a; refine oP rfl ?_; go_simp; exact f.out _ _ rfl (Below.refl _ _) (by simpa [upB, upd] using e)
  refine EC 11 rfl (fun g h W F a b c d e H K f => ?_) ?_
  ·have f1 : F.tmps.getD 1 undef = .int .u64 (upto : Int) := (a 1).trans (by kernel_rfl); have f15 := gE (a 15) (by kernel_rfl) (H 9) (by kernel_rfl); clear H c b d a; refine oG rfl (by kernel_rfl) f15 ?_; go_simp; exact f.out _ _ rfl (Below.refl _ _) (by simpa [upB, upd] using e)
  refine EC 12 rfl (fun g h W F a b c d e H K f => ?_) ?_
  ·have f2 : F.tmps.getD 2 undef = .pointer (some ⟨w.heap.size, 0, none⟩) := (a 2).trans (by kernel_rfl); have f15 := gE (a 15) (by kernel_rfl) (H 9) (by kernel_rfl); clear H c b d a; refine oG rfl (by kernel_rfl) f15 ?_; go_simp; exact f.out _ _ rfl (Below.refl _ _) (by simpa [upB, upd] using e)
  refine EC 13 rfl (fun g h W F a b c d e H K f => ?_) ?_
  ·have f17 := gE (a 17) (by kernel_rfl) (H 11) (by kernel_rfl); have f15 := gE (a 15) (by kernel_rfl) (H 9) (by kernel_rfl); have hz0 := HA.out.z0; have hc0 := (e.cell (p := ⟨w.heap.size, 0, none⟩) (show w.heap.size < W0.heap.size by omega)).trans HA.out.k1; have hc1 := (e.cell (p := ⟨w.heap.size, 1, none⟩) (show w.heap.size < W0.heap.size by omega)).trans HA.out.k2; clear hz0; clear H c b d a; refine oG rfl (by kernel_rfl) f15 ?_; go_simp; exact f.out _ _ rfl (Below.refl _ _) (by simpa [upB, upd] using e)
  refine EC 14 rfl (fun g h W F a b c d e H K f => ?_) ?_
  ·have f16 := gE (a 16) (by kernel_rfl) (H 10) (by kernel_rfl); have f18 := gE (a 18) (by kernel_rfl) (H 12) (by kernel_rfl); have f15 := gE (a 15) (by kernel_rfl) (H 9) (by kernel_rfl); clear H c b d a; refine oG rfl (by kernel_rfl) f15 ?_; have d5 := HW5.out; go_simp; exact f.out _ _ rfl (Below.refl _ _) (by simpa [upB, upd] using e)
  refine EC 15 rfl (fun g h W F a b c d e H K f => ?_) ?_
  ·have f2 : F.tmps.getD 2 undef = .pointer (some ⟨w.heap.size, 0, none⟩) := (a 2).trans (by kernel_rfl); have f15 := gE (a 15) (by kernel_rfl) (H 9) (by kernel_rfl); have hz0 := HA.out.z0; have hc0 := (e.cell (p := ⟨w.heap.size, 0, none⟩) (show w.heap.size < W0.heap.size by omega)).trans HA.out.k1; have hc1 := (e.cell (p := ⟨w.heap.size, 1, none⟩) (show w.heap.size < W0.heap.size by omega)).trans HA.out.k2; clear hz0; clear H c b d a; refine oG rfl (by kernel_rfl) f15 ?_; go_simp; exact f.out _ _ rfl (Below.refl _ _) (by simpa [upB, upd] using e)
  refine EC 16 rfl (fun i j W F a b d f g H K h => ?_) ?_
  ·have f20 := gE (a 20) (by kernel_rfl) (H 14) (by kernel_rfl); have f15 := gE (a 15) (by kernel_rfl) (H 9) (by kernel_rfl); clear H d b f a; refine oG rfl (by kernel_rfl) f15 ?_; go_simp; refine (dueP_any W (base : Int) A L.length c hmx).mono ?_; rintro e W' ⟨rfl, hb⟩; rw [Hm.out]; exact h.out _ W' rfl hb (by simpa [upB, upd] using (g.trans (hb.mono g.size)))
  refine EC 17 rfl (fun g h W F a b c d e H K f => ?_) ?_
  ·have f21 := gE (a 21) (by kernel_rfl) (H 15) (by kernel_rfl); have f15 := gE (a 15) (by kernel_rfl) (H 9) (by kernel_rfl); clear H c b d a; refine oG rfl (by kernel_rfl) f15 ?_; have d6 := HW6.out; go_simp; exact f.out _ _ rfl (Below.refl _ _) (by simpa [upB, upd] using e)
  refine EC 18 rfl (fun g h W F a b c d e H K f => ?_) ?_
  ·have f19 := gE (a 19) (by kernel_rfl) (H 13) (by kernel_rfl); have f22 := gE (a 22) (by kernel_rfl) (H 16) (by kernel_rfl); have f15 := gE (a 15) (by kernel_rfl) (H 9) (by kernel_rfl); clear H c b d a; refine oG rfl (by kernel_rfl) f15 ?_; have d3 := HD3.out; have d4 := HD4.out; go_simp; exact f.out _ _ rfl (Below.refl _ _) (by simpa [upB, upd] using e)
  refine EC 19 rfl (fun g h W F a b c d e H K f => ?_) ?_
  ·have f15 := gE (a 15) (by kernel_rfl) (H 9) (by kernel_rfl); have f23 := gE (a 23) (by kernel_rfl) (H 17) (by kernel_rfl); clear H c b d a; refine oP rfl ?_; go_simp; exact f.out _ _ rfl (Below.refl _ _) (by simpa [upB, upd] using e)
  exact EN
 ·intro dn xv W hI H; have q18 : xv 18 = .bool true := (H 18 (of_decide_eq_true (by kernel_rfl))).2; have hS : Below W0.heap.size W0 W := hI; clear H hI; simp only [putAll, Act.put, List.setIfInBounds_toArray, List.set_cons_zero, List.set_cons_succ, Nat.reduceAdd, q18]; clear q18; obtain ⟨w1, Hw1⟩ : ∃ w1, Hid (W = w1) := ⟨_, Lib.hid rfl⟩; have hb1 : Below W0.heap.size W0 W := hS; rw [Hw1.out] at hb1 ⊢; clear hS; obtain ⟨hc1, hf1⟩ := bcell hb1; have hz1 := hb1.size; rw [HA.out.z0] at hz1 hc1 hf1; have k1 := (hc1 w.heap.size 0 (by omega)).trans HA.out.k1; have k2 := (hc1 w.heap.size 1 (by omega)).trans HA.out.k2; have k3 := (hc1 (w.heap.size + 1) 0 (by omega)).trans HA.out.k3; have k4 := (hc1 (w.heap.size + 1) 1 (by omega)).trans HA.out.k4; have k5 := (hf1 (w.heap.size + 1) 0 (by omega)).trans HA.out.k5; have k6 := (hf1 (w.heap.size + 1) 1 (by omega)).trans HA.out.k6; have hB1 : Below w.heap.size w w1 := HA.out.b0.trans (hb1.mono HA.out.b0.size); clear hc1 hf1
  go_wp2_with fail
  have hbel : ∀ (dn : Nat → Bool) (xv : Nat → Value) (W : World), (if dn 6 = true then Below w.heap.size w W ∧ OwnB W w1.heap.size (xv 4) L ∧ IsCell2 W (w.heap.size + 1) (.int .u64 (base : Int)) (xv 4) else if dn 5 = true then Below w1.heap.size w1 W ∧ OwnB W w1.heap.size (xv 4) L ∧ xv 5 = .agg #[.int .u64 (base : Int), xv 4] else if dn 4 = true then Below w1.heap.size w1 W ∧ OwnB W w1.heap.size (xv 4) L else Below w1.heap.size w1 W) → dn 6 = false → Below w1.heap.size w1 W := fun dn xv W h h0 => by
   rw [if_neg (by simp [h0])] at h; split at h
   ·exact h.1
   split at h
   ·exact h.1
   exact h
  refine wRG (fun dn xv W => if dn 6 = true then Below w.heap.size w W ∧ OwnB W w1.heap.size (xv 4) L ∧ IsCell2 W (w.heap.size + 1) (.int .u64 (base : Int)) (xv 4) else if dn 5 = true then Below w1.heap.size w1 W ∧ OwnB W w1.heap.size (xv 4) L ∧ xv 5 = .agg #[.int .u64 (base : Int), xv 4] else if dn 4 = true then Below w1.heap.size w1 W ∧ OwnB W w1.heap.size (xv 4) L else Below w1.heap.size w1 W) (fun _ _ => True) [xP_ w.heap.size 0, xV_ (.int .u64 (base : Int)), xP_ w.heap.size 1, xV_ (.slice A L.length c), fun v _ => ∃ A2 c2, v = .slice A2 L.length c2, fun v _ => True, fun v _ => True, xV_ (.bool false)] (fun xv => by simpa using (Below.refl _ w1).drew) ?_ ?_
  ·refine Ep 1 2 w.heap.size 0 ?_
   refine EC 2 rfl (fun g h W F a b c d e H K f => ?_) ?_
   ·have f25 := gE (a 25) (by kernel_rfl) (H 0) (by kernel_rfl); have hb0 := hbel g h W e (c 6 uE); have hc0 := (hb0.cell (p := ⟨w.heap.size, 0, none⟩) (show w.heap.size < w1.heap.size by omega)).trans k1; clear hb0; clear H c b d a; refine oP rfl ?_; go_simp; exact f.out _ _ rfl trivial e
   refine Ep 3 2 w.heap.size 0 ?_
   refine EC 4 rfl (fun g h W F a b c d e H K f => ?_) ?_
   ·have f27 := gE (a 27) (by kernel_rfl) (H 2) (by kernel_rfl); have hb0 := hbel g h W e (c 6 uE); have hc0 := (hb0.cell (p := ⟨w.heap.size, 1, none⟩) (show w.heap.size < w1.heap.size by omega)).trans k2; clear hb0; clear H c b d a; refine oP rfl ?_; go_simp; exact f.out _ _ rfl trivial e
   refine EC 5 rfl (fun i k W F a b d f g H K h => ?_) ?_
   ·have f28 := gE (a 28) (by kernel_rfl) (H 3) (by kernel_rfl); have q5 := d 5 uE; have q6 := d 6 (uM 5 uE); rw [if_neg (by simp [q6]), if_neg (by simp [q5]), if_neg (by simp [b])] at g; have hS := g; clear g d b f a H; refine oP rfl ?_; go_simp; refine (copied_any W w.heap.size A c L (H.out.below (hB1.trans (hS.mono hB1.size))) (Nat.le_trans hB1.size hS.size) HF.out).mono ?_; rintro e W' ⟨v, rfl, ho, hb⟩; have hs : Below w1.heap.size w1 W' ∧ OwnB W' w1.heap.size v L := ⟨hS.trans (hb.mono hS.size), ho.mono hS.size⟩; obtain ⟨A2, c2, e2, _⟩ := ho.form HFB.out; exact h.out v W' ⟨A2, c2, e2⟩ trivial (by simpa [upB, upd, q5, q6] using hs)
   refine EC 6 rfl (fun g h W F a b c d e H K f => ?_) ?_
   ·have f26 := gE (a 26) (by kernel_rfl) (H 1) (by kernel_rfl); have f29 : F.tmps.getD 29 undef = h 4 := (a 29).trans (by kernel_rfl); have q4 := (H 4 uE).1; have q6 := c 6 uE; rw [if_neg (by simp [q6]), if_neg (by simp [b]), if_pos q4] at e; have hS := e; clear e c b d a H; refine oP rfl ?_; obtain ⟨A2, c2, e2, _⟩ := hS.2.form HFB.out; have e3 := e2; have f29x := f29.trans e2; have g29 := f29x; have g26 := f26; rw [Array.getD_eq_getD_getElem?] at g29 g26; go_simp; rw [← e3]; have hs : Below w1.heap.size w1 W ∧ OwnB W w1.heap.size (h 4) L ∧ Value.agg #[.int .u64 (base : Int), h 4] = .agg #[.int .u64 (base : Int), h 4] := ⟨hS.1, hS.2, rfl⟩; exact f.out _ _ trivial trivial (by simpa [upB, upd, q6] using hs)
   refine EC 7 rfl (fun g h W F a b c d e H K f => ?_) ?_
   ·have f4 : F.tmps.getD 4 undef = .pointer (some ⟨w.heap.size + 1, 0, none⟩) := (a 4).trans (by kernel_rfl); have f30 : F.tmps.getD 30 undef = h 5 := (a 30).trans (by kernel_rfl); have q5 := (H 5 uE).1; rw [if_neg (by simp [b]), if_pos q5] at e; have hS := e; clear e c b d a H; refine oP rfl ?_; obtain ⟨s1, s2, s3⟩ := hS; obtain ⟨A2, c2, e2, _⟩ := s2.form HFB.out; have f30x := f30.trans s3; rw [e2] at f30x; have hc3 := (s1.cell (p := ⟨w.heap.size + 1, 0, none⟩) (show w.heap.size + 1 < w1.heap.size by omega)).trans k3; have hc4 := (s1.cell (p := ⟨w.heap.size + 1, 1, none⟩) (show w.heap.size + 1 < w1.heap.size by omega)).trans k4; have hf3 := (s1.frozen (p := ⟨w.heap.size + 1, 0, none⟩) (show w.heap.size + 1 < w1.heap.size by omega)).trans k5; have hf4 := (s1.frozen (p := ⟨w.heap.size + 1, 1, none⟩) (show w.heap.size + 1 < w1.heap.size by omega)).trans k6; have hs := set2 hB1 s1 (w.heap.size + 1) (by omega) (by omega) s2 hc3 hc4 (.int .u64 (base : Int)) (h 4); go_simp; rw [← e2]; exact f.out undef _ trivial trivial (by simpa [upB, upd] using hs)
   refine En 8 ?_
   exact EN
  ·intro dn xv W hI H; have q7 : xv 7 = .bool false := (H 7 (of_decide_eq_true (by kernel_rfl))).2; have qe : dn 6 = true := (H 6 (of_decide_eq_true (by kernel_rfl))).1; rw [if_pos qe] at hI; have hS := hI; clear H hI qe; simp only [putAll, Act.put, List.setIfInBounds_toArray, List.set_cons_zero, List.set_cons_succ, Nat.reduceAdd, q7]; clear q7; obtain ⟨s1, s2, s3, s4⟩ := hS; obtain ⟨A2, c2, e2, _⟩ := s2.form HFB.out; go_wp2; refine bodyPost_ret (v := .tuple #[.agg #[.int .u64 (base : Int), xv 4], .bool false]) (by rw [e2] at s4 ⊢; simp [results, Try.results42, go_sem, s3, s4]) rfl ?_; exact ⟨s1, xv 4, by rw [HE.out, (ack_no HE.out).2], by rw [(ack_no HE.out).1]; exact s2.mono hB1.size⟩

set_option maxHeartbeats 1000000 in
theorem acked_d (w : World) (base upto : Nat) (A : Option Addr) (c : Nat) (L : List (List UInt8)) (h : Bx w w.heap.size A L) (hb : base < 18446744073709551616) (hu : upto < 18446744073709551616) (hf : Fit L) (hcc : L.length ≤ c) (hcm : c ≤ maxLen)
  (g1 : wmayB base L = true) (g2 : base < upto) (g3 : upto - base ≤ min L.length 8) :
  Calls Try.prog 42 #[.agg #[.int .u64 (base : Int), .slice A L.length c], .int .u64 (upto : Int)] w (AckPost w base L upto) := by
 have hL := hf.1; have H := Lib.hid h; have HF := Lib.hid hf; have hmx : L.length ≤ maxLen := by omega
 have HFB := Lib.hid (fun (x : List UInt8) (hx : x ∈ L) => (show x.length ≤ 140737488355328 by have := HF.out.2 x hx; omega)); clear hf; obtain ⟨W0, HW0⟩ : ∃ W0, Hid (W0 = (w.alloc (.cells #[.int .u64 (base : Int), .slice A L.length c] 68)).alloc (.cells #[.int .u64 0, .slice none 0 0] 68)) := ⟨_, Lib.hid rfl⟩; have HA : Hid (Ak w W0 base A c L) := Lib.hid (by rw [HW0.out]; exact Ak.new w base A c L h); obtain ⟨m, Hm⟩ : ∃ m, Hid (min L.length 8 = m) := ⟨_, Lib.hid rfl⟩; have hm8 : m ≤ 8 := by have := Hm.out; omega
 clear h; have HM := Lib.hid g1; have g4 : upto - base ≤ L.length := by omega
 have HE : Hid (ackB base L upto = true) := Lib.hid (by unfold ackB; rw [g1, decide_eq_true g2, decide_eq_true g3]; rfl); rw [Hm.out] at g3; clear g1; have HD1 : Hid (decide ((upto : Int) ≤ (base : Int)) = false) := Lib.hid (by simp; omega); have HD2 : Hid (decide (upto ≤ base) = false) := Lib.hid (by simp; omega); have i1 : (base : Int) ≤ (upto : Int) := by omega
 have HW5 : Hid (IntKind.u64.wrap ((upto : Int) - (base : Int)) = (upto : Int) - (base : Int)) := Lib.hid (u64_wrap (by omega) (by omega)); have HW6 : Hid (IntKind.u64.wrap (m : Int) = (m : Int)) := Lib.hid (u64_wrap (by omega) (by omega)); have HD3 : Hid (decide ((m : Int) < (upto : Int) - (base : Int)) = false) := Lib.hid (by simp; omega); have HD4 : Hid (decide ((upto : Int) - (base : Int) > (m : Int)) = false) := Lib.hid (by simp; omega); go_enter Try.func42, Try.ntmps42
 go_wp2_with fail
 rw [← HW0.out]; refine wRG (fun dn xv W => Below W0.heap.size W0 W) (fun W W' => Below W.heap.size W W') [xV_ (.agg #[.int .u64 (base : Int), .slice A L.length c]), xV_ (.bool true), xV_ (.bool false), xV_ (.bool false), xV_ (.int .u64 (upto : Int)), xP_ w.heap.size 0, xV_ (.int .u64 (base : Int)), xV_ (.bool false), xV_ (.bool false), xV_ (.bool false), xV_ (.int .u64 (upto : Int)), xP_ w.heap.size 0, xV_ (.int .u64 (base : Int)), xV_ (.int .u64 ((upto : Int) - (base : Int))), xV_ (.agg #[.int .u64 (base : Int), .slice A L.length c]), xV_ (.int .i64 (m : Int)), xV_ (.int .u64 (m : Int)), xV_ (.bool false), xV_ (.bool false)] (fun xv => by simpa using (Below.refl _ W0).drew) ?_ ?_
 ·refine EC 1 rfl (fun g h W F a b c d e H K f => ?_) ?_
  ·have f2 : F.tmps.getD 2 undef = .pointer (some ⟨w.heap.size, 0, none⟩) := (a 2).trans (by kernel_rfl); have hz0 := HA.out.z0; have hc0 := (e.cell (p := ⟨w.heap.size, 0, none⟩) (show w.heap.size < W0.heap.size by omega)).trans HA.out.k1; have hc1 := (e.cell (p := ⟨w.heap.size, 1, none⟩) (show w.heap.size < W0.heap.size by omega)).trans HA.out.k2; clear hz0; clear H c b d a; refine oP rfl ?_; go_simp; exact f.out _ _ rfl (Below.refl _ _) (by simpa [upB, upd] using e)
  refine EC 2 rfl (fun i j W F a b d f g H K h => ?_) ?_
  ·have h0 : j 0 = .agg #[.int .u64 (base : Int), .slice A L.length c] := (H 0 uE).2; have f6 : F.tmps.getD 6 undef = .agg #[.int .u64 (base : Int), .slice A L.length c] := (a 6).trans (Eq.trans (by kernel_rfl) h0); clear H d b f a; refine oP rfl ?_; go_simp; refine (wmay_any W w.heap.size base A c L (HA.out.h0.below (g.mono HA.out.b0.size)) (Nat.le_trans HA.out.b0.size g.size) hb hmx).mono ?_; rintro e W' ⟨rfl, hb⟩; rw [HM.out]; exact h.out _ W' rfl hb (by simpa [upB, upd] using (g.trans (hb.mono g.size)))
  refine EC 3 rfl (fun g h W F a b c d e H K f => ?_) ?_
  ·have f7 := gE (a 7) (by kernel_rfl) (H 1) (by kernel_rfl); clear H c b d a; refine oP rfl ?_; go_simp; exact f.out _ _ rfl (Below.refl _ _) (by simpa [upB, upd] using e)
  refine EC 4 rfl (fun g h W F a b c d e H K f => ?_) ?_
  ·have f8 := gE (a 8) (by kernel_rfl) (H 2) (by kernel_rfl); clear H c b d a; refine oP rfl ?_; go_simp; exact f.out _ _ rfl (Below.refl _ _) (by simpa [upB, upd] using e)
  refine EC 5 rfl (fun g h W F a b c d e H K f => ?_) ?_
  ·have f1 : F.tmps.getD 1 undef = .int .u64 (upto : Int) := (a 1).trans (by kernel_rfl); have f9 := gE (a 9) (by kernel_rfl) (H 3) (by kernel_rfl); clear H c b d a; refine oG rfl (by kernel_rfl) f9 ?_; go_simp; exact f.out _ _ rfl (Below.refl _ _) (by simpa [upB, upd] using e)
  refine EC 6 rfl (fun g h W F a b c d e H K f => ?_) ?_
  ·have f2 : F.tmps.getD 2 undef = .pointer (some ⟨w.heap.size, 0, none⟩) := (a 2).trans (by kernel_rfl); have f9 := gE (a 9) (by kernel_rfl) (H 3) (by kernel_rfl); clear H c b d a; refine oG rfl (by kernel_rfl) f9 ?_; go_simp; exact f.out _ _ rfl (Below.refl _ _) (by simpa [upB, upd] using e)
  refine EC 7 rfl (fun g h W F a b c d e H K f => ?_) ?_
  ·have f11 := gE (a 11) (by kernel_rfl) (H 5) (by kernel_rfl); have f9 := gE (a 9) (by kernel_rfl) (H 3) (by kernel_rfl); have hz0 := HA.out.z0; have hc0 := (e.cell (p := ⟨w.heap.size, 0, none⟩) (show w.heap.size < W0.heap.size by omega)).trans HA.out.k1; have hc1 := (e.cell (p := ⟨w.heap.size, 1, none⟩) (show w.heap.size < W0.heap.size by omega)).trans HA.out.k2; clear hz0; clear H c b d a; refine oG rfl (by kernel_rfl) f9 ?_; go_simp; exact f.out _ _ rfl (Below.refl _ _) (by simpa [upB, upd] using e)
  refine EC 8 rfl (fun g h W F a b c d e H K f => ?_) ?_
  ·have f10 := gE (a 10) (by kernel_rfl) (H 4) (by kernel_rfl); have f12 := gE (a 12) (by kernel_rfl) (H 6) (by kernel_rfl); have f9 := gE (a 9) (by kernel_rfl) (H 3) (by kernel_rfl); clear H c b d a; refine oG rfl (by kernel_rfl) f9 ?_; have d1 := HD1.out; have d2 := HD2.out; go_simp; exact f.out _ _ rfl (Below.refl _ _) (by simpa [upB, upd] using e)
  refine EC 9 rfl (fun g h W F a b c d e H K f => ?_) ?_
  ·have f9 := gE (a 9) (by kernel_rfl) (H 3) (by kernel_rfl); have f13 := gE (a 13) (by kernel_rfl) (H 7) (by kernel_rfl); clear H c b d a; refine oP rfl ?_; go_simp; exact f.out _ _ rfl (Below.refl _ _) (by simpa [upB, upd] using e)
  refine EC 10 rfl (fun g h W F a b c d e H K f => ?_) ?_
  ·have f14 := gE (a 14) (by kernel_rfl) (H 8) (by kernel_rfl); clear H c b d a; refine oP rfl ?_; go_simp; exact f.out _ _ rfl (Below.refl _ _) (by simpa [upB, upd] using e)
  refine EC 11 rfl (fun g h W F a b c d e H K f => ?_) ?_
  ·have f1 : F.tmps.getD 1 undef = .int .u64 (upto : Int) := (a 1).trans (by kernel_rfl); have f15 := gE (a 15) (by kernel_rfl) (H 9) (by kernel_rfl); clear H c b d a; refine oG rfl (by kernel_rfl) f15 ?_; go_simp; exact f.out _ _ rfl (Below.refl _ _) (by simpa [upB, upd] using e)
  refine EC 12 rfl (fun g h W F a b c d e H K f => ?_) ?_
  ·have f2 : F.tmps.getD 2 undef = .pointer (some ⟨w.heap.size, 0, none⟩) := (a 2).trans (by kernel_rfl); have f15 := gE (a 15) (by kernel_rfl) (H 9) (by kernel_rfl); clear H c b d a; refine oG rfl (by kernel_rfl) f15 ?_; go_simp; exact f.out _ _ rfl (Below.refl _ _) (by simpa [upB, upd] using e)
  refine EC 13 rfl (fun g h W F a b c d e H K f => ?_) ?_
  ·have f17 := gE (a 17) (by kernel_rfl) (H 11) (by kernel_rfl); have f15 := gE (a 15) (by kernel_rfl) (H 9) (by kernel_rfl); have hz0 := HA.out.z0; have hc0 := (e.cell (p := ⟨w.heap.size, 0, none⟩) (show w.heap.size < W0.heap.size by omega)).trans HA.out.k1; have hc1 := (e.cell (p := ⟨w.heap.size, 1, none⟩) (show w.heap.size < W0.heap.size by omega)).trans HA.out.k2; clear hz0; clear H c b d a; refine oG rfl (by kernel_rfl) f15 ?_; go_simp; exact f.out _ _ rfl (Below.refl _ _) (by simpa [upB, upd] using e)
  refine EC 14 rfl (fun g h W F a b c d e H K f => ?_) ?_
  ·have f16 := gE (a 16) (by kernel_rfl) (H 10) (by kernel_rfl); have f18 := gE (a 18) (by kernel_rfl) (H 12) (by kernel_rfl); have f15 := gE (a 15) (by kernel_rfl) (H 9) (by kernel_rfl); clear H c b d a; refine oG rfl (by kernel_rfl) f15 ?_; have d5 := HW5.out; go_simp; exact f.out _ _ rfl (Below.refl _ _) (by simpa [upB, upd] using e)
  refine EC 15 rfl (fun g h W F a b c d e H K f => ?_) ?_
  ·have f2 : F.tmps.getD 2 undef = .pointer (some ⟨w.heap.size, 0, none⟩) := (a 2).trans (by kernel_rfl); have f15 := gE (a 15) (by kernel_rfl) (H 9) (by kernel_rfl); have hz0 := HA.out.z0; have hc0 := (e.cell (p := ⟨w.heap.size, 0, none⟩) (show w.heap.size < W0.heap.size by omega)).trans HA.out.k1; have hc1 := (e.cell (p := ⟨w.heap.size, 1, none⟩) (show w.heap.size < W0.heap.size by omega)).trans HA.out.k2; clear hz0; clear H c b d a; refine oG rfl (by kernel_rfl) f15 ?_; go_simp; exact f.out _ _ rfl (Below.refl _ _) (by simpa [upB, upd] using e)
  refine EC 16 rfl (fun i j W F a b d f g H K h => ?_) ?_
  ·have f20 := gE (a 20) (by kernel_rfl) (H 14) (by kernel_rfl); have f15 := gE (a 15) (by kernel_rfl) (H 9) (by kernel_rfl); clear H d b f a; refine oG rfl (by kernel_rfl) f15 ?_; go_simp; refine (dueP_any W (base : Int) A L.length c hmx).mono ?_; rintro e W' ⟨rfl, hb⟩; rw [Hm.out]; exact h.out _ W' rfl hb (by simpa [upB, upd] using (g.trans (hb.mono g.size)))
  refine EC 17 rfl (fun g h W F a b c d e H K f => ?_) ?_
  ·have f21 := gE (a 21) (by kernel_rfl) (H 15) (by kernel_rfl); have f15 := gE (a 15) (by kernel_rfl) (H 9) (by kernel_rfl); clear H c b d a; refine oG rfl (by kernel_rfl) f15 ?_; have d6 := HW6.out; go_simp; exact f.out _ _ rfl (Below.refl _ _) (by simpa [upB, upd] using e)
  refine EC 18 rfl (fun g h W F a b c d e H K f => ?_) ?_
  ·have f19 := gE (a 19) (by kernel_rfl) (H 13) (by kernel_rfl); have f22 := gE (a 22) (by kernel_rfl) (H 16) (by kernel_rfl); have f15 := gE (a 15) (by kernel_rfl) (H 9) (by kernel_rfl); clear H c b d a; refine oG rfl (by kernel_rfl) f15 ?_; have d3 := HD3.out; have d4 := HD4.out; go_simp; exact f.out _ _ rfl (Below.refl _ _) (by simpa [upB, upd] using e)
  refine EC 19 rfl (fun g h W F a b c d e H K f => ?_) ?_
  ·have f15 := gE (a 15) (by kernel_rfl) (H 9) (by kernel_rfl); have f23 := gE (a 23) (by kernel_rfl) (H 17) (by kernel_rfl); clear H c b d a; refine oP rfl ?_; go_simp; exact f.out _ _ rfl (Below.refl _ _) (by simpa [upB, upd] using e)
  exact EN
 ·intro dn xv W hI H; have q18 : xv 18 = .bool false := (H 18 (of_decide_eq_true (by kernel_rfl))).2; have hS : Below W0.heap.size W0 W := hI; clear H hI; simp only [putAll, Act.put, List.setIfInBounds_toArray, List.set_cons_zero, List.set_cons_succ, Nat.reduceAdd, q18]; clear q18; obtain ⟨w1, Hw1⟩ : ∃ w1, Hid (W = w1) := ⟨_, Lib.hid rfl⟩; have hb1 : Below W0.heap.size W0 W := hS; rw [Hw1.out] at hb1 ⊢; clear hS; obtain ⟨hc1, hf1⟩ := bcell hb1; have hz1 := hb1.size; rw [HA.out.z0] at hz1 hc1 hf1; have k1 := (hc1 w.heap.size 0 (by omega)).trans HA.out.k1; have k2 := (hc1 w.heap.size 1 (by omega)).trans HA.out.k2; have k3 := (hc1 (w.heap.size + 1) 0 (by omega)).trans HA.out.k3; have k4 := (hc1 (w.heap.size + 1) 1 (by omega)).trans HA.out.k4; have k5 := (hf1 (w.heap.size + 1) 0 (by omega)).trans HA.out.k5; have k6 := (hf1 (w.heap.size + 1) 1 (by omega)).trans HA.out.k6; have hB1 : Below w.heap.size w w1 := HA.out.b0.trans (hb1.mono HA.out.b0.size); clear hc1 hf1; obtain ⟨A', HA'⟩ : ∃ A', Hid ((if c = upto - base then A else A.map (·.add ((upto - base) * 1))) = A') := ⟨_, Lib.hid rfl⟩; have hsl := run_fromB A L.length c .u64 ((upto : Int) - (base : Int)) (upto - base) (by omega) (by omega) hcc; rw [HA'.out] at hsl; have HX := Lib.hid (H.out.drop (upto - base) c hcc); rw [HA'.out] at HX; obtain ⟨L2, HL2⟩ : ∃ L2, Hid (L.drop (upto - base) = L2) := ⟨_, Lib.hid rfl⟩; have hL2 : L2.length = L.length - (upto - base) := by rw [← HL2.out]; simp
  rw [← hL2] at hsl; have HF2 : Hid (Fit L2) := Lib.hid (by rw [← HL2.out]; exact HF.out.drop _); have HFB2 := Lib.hid (fun (x : List UInt8) (hx : x ∈ L2) => (show x.length ≤ 140737488355328 by have := HF2.out.2 x hx; omega)); rw [HL2.out] at HX; have HLL := Lib.hid hL2; clear hL2
  go_wp2_with fail
  refine (copied_any w1 w.heap.size A' _ L2 (HX.out.below hB1) hB1.size HF2.out).mono ?_; rintro e w2 ⟨v, rfl, ho, hb2⟩; obtain ⟨A2, c2, rfl, _⟩ := ho.form HFB2.out; have hc3 := (hb2.cell (p := ⟨w.heap.size + 1, 0, none⟩) (show w.heap.size + 1 < w1.heap.size by omega)).trans k3; have hc4 := (hb2.cell (p := ⟨w.heap.size + 1, 1, none⟩) (show w.heap.size + 1 < w1.heap.size by omega)).trans k4; have hf3 := (hb2.frozen (p := ⟨w.heap.size + 1, 0, none⟩) (show w.heap.size + 1 < w1.heap.size by omega)).trans k5; have hf4 := (hb2.frozen (p := ⟨w.heap.size + 1, 1, none⟩) (show w.heap.size + 1 < w1.heap.size by omega)).trans k6; obtain ⟨s1, s2, s3, s4⟩ := set2 hB1 hb2 (w.heap.size + 1) (by omega) (by omega) ho hc3 hc4 (.int .u64 (upto : Int)) (.slice A2 L2.length c2); have HS1 := Lib.hid s1; have HS2 := Lib.hid s2; have HS3 := Lib.hid s3; have HS4 := Lib.hid s4; clear s1 s2 s3 s4 ho; go_wp2; refine bodyPost_ret (v := .tuple #[.agg #[.int .u64 (upto : Int), .slice A2 L2.length c2], .bool true]) (by have s3 := HS3.out; have s4 := HS4.out; simp [results, Try.results42, go_sem, s3, s4]) rfl ?_; exact ⟨HS1.out, _, by rw [HE.out, (ack_yes HE.out).2], by rw [(ack_yes HE.out).1, HL2.out]; exact HS2.out.mono hB1.size⟩

theorem acked_any (w : World) (base upto : Nat) (A : Option Addr) (c : Nat) (L : List (List UInt8)) (h : Bx w w.heap.size A L) (hb : base < 18446744073709551616) (hu : upto < 18446744073709551616) (hf : Fit L) (hcc : L.length ≤ c) (hcm : c ≤ maxLen) :
  Calls Try.prog 42 #[.agg #[.int .u64 (base : Int), .slice A L.length c], .int .u64 (upto : Int)] w (AckPost w base L upto) := by
 by_cases g1 : wmayB base L = true
 ·by_cases g2 : upto ≤ base
  ·exact acked_b w base upto A c L h hb hu hf hcc hcm g1 g2
  ·by_cases g3 : upto - base ≤ min L.length 8
   ·exact acked_d w base upto A c L h hb hu hf hcc hcm g1 (by omega) g3
   ·exact acked_c w base upto A c L h hb hu hf hcc hcm g1 (by omega) (by omega)
 ·exact acked_a w base upto A c L h hb hu hf hcc hcm (by simpa using g1)

end Go.Proofs.Ytngegjboenfmeaa
/- The walk of window.Due. -/
namespace Go.Proofs.Ytngegjboenfmeaa
open Go Go.RowKit
set_option linter.unusedVariables false
set_option maxRecDepth 100000

def dueL (base : Nat) (L : List (List UInt8)) : List (List UInt8) := if wmayB base L = true then L.take (min L.length 8) else []
def DuePost (w : World) (base : Nat) (L : List (List UInt8)) (e : Ending) (w' : World) : Prop :=
 Below w.heap.size w w' ∧ w.heap.size + 2 ≤ w'.heap.size ∧ e = .returned (.func (.func 60) #[] #[.pointer (some ⟨w.heap.size + 1, 0, none⟩), .pointer (some ⟨w.heap.size, 0, none⟩)]) ∧
  w'.cell? ⟨w.heap.size, 0, none⟩ = some (.int .u64 (base : Int)) ∧ ∃ v, w'.cell? ⟨w.heap.size + 1, 0, none⟩ = some v ∧ OwnB w' w.heap.size v (dueL base L)
theorem run_toB (A : Option Addr) (n c k : Nat) (h : k ≤ n) (hc : n ≤ c) (W : World) :
  (Instr.slice 66 (.slice A n c) none (some (.int .i64 (k : Int))) none).run Try.prog W = .ok (.slice A k c) W := by
 obtain ⟨i0, hi, hz0, hz1, hz2⟩ := info_parts info_bs; have he : Try.prog.elem 66 = 47 := by kernel_rfl
 rw [run_slice_h W 66 A n c (by kernel_rfl) .i64 (k : Int) (by omega) (by omega), he]; have ha : A.map (fun x => x.add 0) = A := by cases A <;> simp [Addr.add]
 simp [sizeOf, typeInfo, hi, hz1, sliced, ha]
theorem set1 {w w1 W : World} {v : Value} {L : List (List UInt8)} (hB1 : Below w.heap.size w w1) (s1 : Below w1.heap.size w1 W) (g g' : Nat) (hg : w.heap.size ≤ g) (hg2 : g < w1.heap.size) (hne : g' ≠ g) (ho : OwnB W w1.heap.size v L) {a b : Value} (h0 : W.cell? ⟨g, 0, none⟩ = some a) (h1 : W.cell? ⟨g', 0, none⟩ = some b) (x : Value) {n : Nat} (hn : n ≤ W.heap.size) :
  Below w.heap.size w (W.setCell ⟨g, 0, none⟩ x) ∧ OwnB (W.setCell ⟨g, 0, none⟩ x) w1.heap.size v L ∧ (W.setCell ⟨g, 0, none⟩ x).cell? ⟨g, 0, none⟩ = some x ∧ (W.setCell ⟨g, 0, none⟩ x).cell? ⟨g', 0, none⟩ = some b ∧ n ≤ (W.setCell ⟨g, 0, none⟩ x).heap.size := by
 refine ⟨(hB1.trans (s1.mono hB1.size)).setCell hg _, ho.keep fun k hk _ => ?_, ?_, ?_, ?_⟩
 ·rw [Below.heap_setCell _ _ _ k (by simp only; omega)]
 ·exact World.cell?_setCell_same' _ _ _ (by rw [h0]; rfl)
 ·rw [World.cell?_setCell_other _ _ _ _ (fun e => hne (by cases e; rfl))]; exact h1
 ·simp [World.setCell]; exact hn

set_option maxHeartbeats 1000000 in
theorem due_any (w : World) (base : Nat) (A : Option Addr) (c : Nat) (L : List (List UInt8)) (h : Bx w w.heap.size A L) (hb : base < 18446744073709551616) (hf : Fit L) (hcc : L.length ≤ c) (hcm : c ≤ maxLen) :
  Calls Try.prog 38 #[.agg #[.int .u64 (base : Int), .slice A L.length c]] w (DuePost w base L) := by
 have hmx : L.length ≤ maxLen := by omega
 obtain ⟨LT, HLT⟩ : ∃ LT, Hid (L.take (min L.length 8) = LT) := ⟨_, Lib.hid rfl⟩; have HF2 : Hid (Fit LT) := Lib.hid (by rw [← HLT.out]; exact hf.take _); have HFB := Lib.hid (fun (x : List UInt8) (hx : x ∈ LT) => (show x.length ≤ 140737488355328 by have := HF2.out.2 x hx; omega)); have HT : Hid (Bx w w.heap.size A LT) := Lib.hid (by rw [← HLT.out]; exact h.take _); have HM : Hid (min L.length 8 = LT.length) := Lib.hid (by rw [← HLT.out]; simp); have hlt : LT.length ≤ L.length := by have := HM.out; omega
 have hl8 : LT.length ≤ 8 := by have := HM.out; omega
 have HSL := Lib.hid (run_toB A L.length c LT.length hlt hcc); have H := Lib.hid h; obtain ⟨W0, HW0⟩ : ∃ W0, Hid (W0 = (w.alloc (.cells #[.int .u64 (base : Int), .slice A L.length c] 68)).alloc (.cells #[.slice none 0 0] 66)) := ⟨_, Lib.hid rfl⟩; have hb0 : Below w.heap.size w W0 := by rw [HW0.out]; exact ((Below.refl _ _).alloc (Nat.le_refl _) _).alloc (by simp) _
 have hz0 : W0.heap.size = w.heap.size + 2 := by rw [HW0.out]; simp
 have HZ0 := Lib.hid hz0; have k0 : W0.cell? ⟨w.heap.size, 0, none⟩ = some (.int .u64 (base : Int)) ∧ W0.cell? ⟨w.heap.size, 1, none⟩ = some (.slice A L.length c) ∧ W0.cell? ⟨w.heap.size + 1, 0, none⟩ = some (.slice none 0 0) ∧ W0.frozen? ⟨w.heap.size + 1, 0, none⟩ = false := by
  rw [HW0.out]; simp [go_sem]
 have HK0 := Lib.hid k0; have H0 := Lib.hid (h.below hb0); clear k0 hz0 h hf; go_enter Try.func38, Try.ntmps38
 go_wp2_with fail
 rw [← HW0.out]; refine (wmay_any W0 w.heap.size base A c L H0.out hb0.size hb hmx).mono ?_; rintro e w1 ⟨rfl, hb1⟩; obtain ⟨hc1, hf1⟩ := bcell hb1; have hz1 := hb1.size; rw [HZ0.out] at hz1 hc1 hf1; have k1 := (hc1 w.heap.size 0 (by omega)).trans HK0.out.1; have k2 := (hc1 w.heap.size 1 (by omega)).trans HK0.out.2.1; have k3 := (hc1 (w.heap.size + 1) 0 (by omega)).trans HK0.out.2.2.1; have k5 := (hf1 (w.heap.size + 1) 0 (by omega)).trans HK0.out.2.2.2; clear hc1 hf1; have hB1 : Below w.heap.size w w1 := hb0.trans (hb1.mono hb0.size)
 by_cases g1 : wmayB base L = true
 ·have HE : Hid (dueL base L = LT) := Lib.hid (by rw [← HLT.out]; simp [dueL, g1]); rw [g1]; clear g1
  go_wp2_with fail
  have hbel : ∀ (dn : Nat → Bool) (xv : Nat → Value) (W : World), (if dn 6 = true then Below w.heap.size w W ∧ OwnB W w1.heap.size (xv 5) LT ∧ W.cell? ⟨w.heap.size + 1, 0, none⟩ = some (xv 5) ∧ W.cell? ⟨w.heap.size, 0, none⟩ = some (.int .u64 (base : Int)) ∧ w.heap.size + 2 ≤ W.heap.size else if dn 5 = true then Below w1.heap.size w1 W ∧ OwnB W w1.heap.size (xv 5) LT else if dn 3 = true then Below w1.heap.size w1 W else Below w1.heap.size w1 W) → dn 6 = false → Below w1.heap.size w1 W := fun dn xv W h h0 => by
   rw [if_neg (by simp [h0])] at h; split at h
   ·exact h.1
   split at h
   ·exact h
   exact h

  refine wRG (fun dn xv W => if dn 6 = true then Below w.heap.size w W ∧ OwnB W w1.heap.size (xv 5) LT ∧ W.cell? ⟨w.heap.size + 1, 0, none⟩ = some (xv 5) ∧ W.cell? ⟨w.heap.size, 0, none⟩ = some (.int .u64 (base : Int)) ∧ w.heap.size + 2 ≤ W.heap.size else if dn 5 = true then Below w1.heap.size w1 W ∧ OwnB W w1.heap.size (xv 5) LT else if dn 3 = true then Below w1.heap.size w1 W else Below w1.heap.size w1 W) (fun _ _ => True) [xP_ w.heap.size 1, xV_ (.slice A L.length c), xV_ (.agg #[.int .u64 (base : Int), .slice A L.length c]), xV_ (.int .i64 (LT.length : Int)), xV_ (.slice A LT.length c), fun v _ => ∃ A2 c2, v = .slice A2 LT.length c2, fun v _ => True] (fun xv => by simpa using (Below.refl _ w1).drew) ?_ ?_
  ·refine Ep 1 1 w.heap.size 0 ?_
   refine EC 2 rfl (fun g h W F a b c d e H K f => ?_) ?_
   ·have f6 := gE (a 6) (by kernel_rfl) (H 0) (by kernel_rfl); have hb0 := hbel g h W e (c 6 uE); have hc0 := (hb0.cell (p := ⟨w.heap.size, 0, none⟩) (show w.heap.size < w1.heap.size by omega)).trans k1; have hc1 := (hb0.cell (p := ⟨w.heap.size, 1, none⟩) (show w.heap.size < w1.heap.size by omega)).trans k2; clear hb0; clear H c b d a; refine oP rfl ?_; go_simp; exact f.out _ _ rfl trivial e
   refine EC 3 rfl (fun g h W F a b c d e H K f => ?_) ?_
   ·have f1 : F.tmps.getD 1 undef = .pointer (some ⟨w.heap.size, 0, none⟩) := (a 1).trans (by kernel_rfl); have hb0 := hbel g h W e (c 6 uE); have hc0 := (hb0.cell (p := ⟨w.heap.size, 0, none⟩) (show w.heap.size < w1.heap.size by omega)).trans k1; have hc1 := (hb0.cell (p := ⟨w.heap.size, 1, none⟩) (show w.heap.size < w1.heap.size by omega)).trans k2; clear hb0; clear H c b d a; refine oP rfl ?_; go_simp; exact f.out _ _ rfl trivial e
   refine EC 4 rfl (fun i k W F a b d f g H K h => ?_) ?_
   ·have f8 := gE (a 8) (by kernel_rfl) (H 2) (by kernel_rfl); have q5 := d 5 uE; have q6 := d 6 (uM 5 uE); rw [if_neg (by simp [q6]), if_neg (by simp [q5]), if_neg (by simp [b])] at g; have hS := g; clear g d b f a H; refine oP rfl ?_; go_simp; refine (dueP_any W (base : Int) A L.length c hmx).mono ?_; rintro e W' ⟨rfl, hb⟩; rw [HM.out]; have hs : Below w1.heap.size w1 W' := hS.trans (hb.mono hS.size); exact h.out _ W' rfl trivial (by simpa [upB, upd, q5, q6] using hs)
   refine EC 5 rfl (fun g h W F a b c d e H K f => ?_) ?_
   ·have f7 := gE (a 7) (by kernel_rfl) (H 1) (by kernel_rfl); have f9 := gE (a 9) (by kernel_rfl) (H 3) (by kernel_rfl); clear H c b d a; refine oP rfl ?_; have d1 := HSL.out; go_simp; exact f.out _ _ rfl trivial e
   refine EC 6 rfl (fun i j W F a b d f g H K h => ?_) ?_
   ·have f10 := gE (a 10) (by kernel_rfl) (H 4) (by kernel_rfl); have q3 := (H 3 uE).1; have q6 := d 6 uE; rw [if_neg (by simp [q6]), if_neg (by simp [b]), if_pos q3] at g; have hS := g; clear g d b f a H; refine oP rfl ?_; go_simp; refine (copied_any W w.heap.size A c LT (HT.out.below (hB1.trans (hS.mono hB1.size))) (Nat.le_trans hB1.size hS.size) HF2.out).mono ?_; rintro e W' ⟨v, rfl, ho, hb⟩; have hs : Below w1.heap.size w1 W' ∧ OwnB W' w1.heap.size v LT := ⟨hS.trans (hb.mono hS.size), ho.mono hS.size⟩; obtain ⟨A2, c2, e2, _⟩ := ho.form HFB.out; exact h.out v W' ⟨A2, c2, e2⟩ trivial (by simpa [upB, upd, q6] using hs)
   refine EC 7 rfl (fun g h W F a b c d e H K f => ?_) ?_
   ·have f3 : F.tmps.getD 3 undef = .pointer (some ⟨w.heap.size + 1, 0, none⟩) := (a 3).trans (by kernel_rfl); have f11 : F.tmps.getD 11 undef = h 5 := (a 11).trans (by kernel_rfl); have q5 := (H 5 uE).1; rw [if_neg (by simp [b]), if_pos q5] at e; have hS := e; clear e c b d a H; refine oP rfl ?_; obtain ⟨s1, s2⟩ := hS; obtain ⟨A2, c2, e2, _⟩ := s2.form HFB.out; have f11x := f11.trans e2; have hc3 := (s1.cell (p := ⟨w.heap.size + 1, 0, none⟩) (show w.heap.size + 1 < w1.heap.size by omega)).trans k3; have hf3 := (s1.frozen (p := ⟨w.heap.size + 1, 0, none⟩) (show w.heap.size + 1 < w1.heap.size by omega)).trans k5; have hc0 := (s1.cell (p := ⟨w.heap.size, 0, none⟩) (show w.heap.size < w1.heap.size by omega)).trans k1; have hs := set1 hB1 s1 (w.heap.size + 1) w.heap.size (by omega) (by omega) (by omega) s2 hc3 hc0 (h 5) (show w.heap.size + 2 ≤ W.heap.size by have := s1.size; omega); go_simp; rw [← e2]; exact f.out undef _ trivial trivial (by simpa [upB, upd] using hs)
   exact EN
  ·intro dn xv W hI H; have qe : dn 6 = true := (H 6 (of_decide_eq_true (by kernel_rfl))).1; rw [if_pos qe] at hI; have hS := hI; clear H hI qe; simp only [putAll, Act.put, List.setIfInBounds_toArray, List.set_cons_zero, List.set_cons_succ, Nat.reduceAdd]

   obtain ⟨s1, s2, s3, s4, s5⟩ := hS; have HS := Lib.hid s2; have HS1 := Lib.hid s3; clear s2 s3; go_wp2
   go_ret
   exact ⟨s1, s5, rfl, s4, _, HS1.out, by rw [HE.out]; exact HS.out.mono hB1.size⟩
 ·have g1' : wmayB base L = false := by simpa using g1
  have HE : Hid (dueL base L = []) := Lib.hid (by simp [dueL, g1']); rw [g1']; clear g1 g1'; go_wp2
  go_ret
  exact ⟨hB1, hz1, rfl, k1, _, k3, by rw [HE.out]; exact OwnB.nil _ _⟩
end Go.Proofs.Ytngegjboenfmeaa
/- The iterator that window.Due answers: its contract. -/
namespace Go.Proofs.Ytngegjboenfmeaa
open Go Go.RowKit Go.Shelf
set_option linter.unusedVariables false
set_option maxRecDepth 100000
attribute [local go_sem] Oper.semAt_some

/-- what a round is handed: a number, what the body holds, the slice -/
abbrev It := Nat × List UInt8 × Value
def encI (x : It) : Array Value := #[.int .u64 (x.1 : Int), x.2.2]
def prI (x : It) : Nat × List UInt8 := (x.1, x.2.1)
def items (base : Nat) (LT : List (List UInt8)) : List (Nat × List UInt8) := LT.mapIdx fun k l => (base + 1 + k, l)
def AtI (base : Nat) (LT : List (List UInt8)) (k : Nat) (pre : List It) : Prop := pre.map prI = (items base LT).take k
theorem encI_eq (base k : Nat) (l : List UInt8) (v : Value) : encI (base + 1 + k, l, v) = #[.int .u64 ((base : Int) + 1 + (k : Int)), v] := by simp [encI]
theorem items_len (base : Nat) (LT : List (List UInt8)) : (items base LT).length = LT.length := by simp [items]
theorem AtI.zero (base : Nat) (LT : List (List UInt8)) : AtI base LT 0 [] := by simp [AtI]
theorem AtI.len {base : Nat} {LT : List (List UInt8)} {k : Nat} {pre : List It} (h : AtI base LT k pre) (hk : k ≤ LT.length) : pre.length = k := by
 have := congrArg List.length h
 simp [items_len] at this; omega
theorem AtI.succ {base : Nat} {LT : List (List UInt8)} {k : Nat} {pre : List It} (h : AtI base LT k pre) (hk : k < LT.length) (v : Value) : AtI base LT (k + 1) (pre ++ [(base + 1 + k, LT[k], v)]) := by
 unfold AtI at *; rw [List.map_append, h, List.take_succ_eq_append_getElem (by rw [items_len]; exact hk)]; simp [items, prI]
theorem run_equalIn_func_nil (W : World) (d : Nat) (f : Fn) (a b : Array Value) : (Op.equalIn (d + 1) 119 (.func f a b) .nilFunc).run Try.prog W = .ok false W := by
 have h := Try.underlying119; rw [Op.equalIn]; simp [run_underlying h]
theorem run_eql_func_nil (W : World) (f : Fn) (a b : Array Value) : (binOp .eql 119 (.func f a b) .nilFunc).run Try.prog W = .ok (.bool false) W := by
 simp only [binOp]; simp [Op.equal, Op.maxDepth, run_equalIn_func_nil W 9999 f a b]

/-- what lies from lo on and below hi stays; the rest is free -/
structure Mid (lo hi : Nat) (w w' : World) : Prop where
 size : w.heap.size ≤ w'.heap.size
 block : ∀ k, lo ≤ k → k < hi → w'.heap[k]? = w.heap[k]?
theorem Mid.refl (lo hi : Nat) (w : World) : Mid lo hi w w := ⟨Nat.le_refl _, fun _ _ _ => rfl⟩
theorem Mid.trans {lo hi : Nat} {A B C : World} (h : Mid lo hi A B) (k : Mid lo hi B C) : Mid lo hi A C := ⟨Nat.le_trans h.size k.size, fun i h1 h2 => (k.block i h1 h2).trans (h.block i h1 h2)⟩
theorem Mid.of_below {lo hi : Nat} {A B : World} (h : Below hi A B) : Mid lo hi A B := ⟨h.size, fun k _ h2 => h.block k h2⟩
theorem Mid.putObj {lo hi : Nat} (W : World) {l : Nat} (o : Obj) (h : hi ≤ l) : Mid lo hi W (W.putObj l o) :=
 ⟨by simp, fun k _ h2 => World.putObj_heap_other (by omega)⟩
theorem Mid.cell {lo hi : Nat} {A B : World} (h : Mid lo hi A B) {b o : Nat} (h1 : lo ≤ b) (h2 : b < hi) : B.cell? ⟨b, o, none⟩ = A.cell? ⟨b, o, none⟩ := by
 have e := h.block b h1 h2; simp only [World.cell?, e]
end Go.Proofs.Ytngegjboenfmeaa
/- The iterator that window.Due answers: its contract, what it hands to a round being new memory (SeqS). -/
namespace Go.Proofs.Ytngegjboenfmeaa
open Go Go.RowKit Go.Shelf
set_option linter.unusedVariables false
set_option maxRecDepth 100000
attribute [local go_sem] Oper.semAt_some

/-- these blocks stay -/
structure MidB (lo hi : Nat) (w w' : World) : Prop where
 block : ∀ k, lo ≤ k → k < hi → w'.heap[k]? = w.heap[k]?
theorem MidB.trans {lo hi : Nat} {A B C : World} (h : MidB lo hi A B) (k : MidB lo hi B C) : MidB lo hi A C := ⟨fun i h1 h2 => (k.block i h1 h2).trans (h.block i h1 h2)⟩
theorem MidB.of_below {lo hi : Nat} {A B : World} (h : Below hi A B) : MidB lo hi A B := ⟨fun k _ h2 => h.block k h2⟩
theorem MidB.putObj {lo hi : Nat} (W : World) {l : Nat} (o : Obj) (h : hi ≤ l) : MidB lo hi W (W.putObj l o) :=
 ⟨fun k h1 h2 => World.putObj_heap_other (by omega)⟩
theorem MidB.cell {lo hi : Nat} {A B : World} (h : MidB lo hi A B) {b o : Nat} (h1 : lo ≤ b) (h2 : b < hi) : B.cell? ⟨b, o, none⟩ = A.cell? ⟨b, o, none⟩ := by
 unfold World.cell?; rw [h.block b h1 h2]
theorem MidB.after {lo : Nat} {w wr W : World} (h : MidB lo w.heap.size w wr) (hb : Below wr.heap.size wr W) : MidB lo w.heap.size w W := ⟨fun k h1 h2 => by
 have e := h.block k h1 h2; rw [Array.getElem?_eq_getElem h2] at e; have hlt := (Array.getElem?_eq_some_iff.1 e).1; rw [hb.block k hlt, e, Array.getElem?_eq_getElem h2]⟩
theorem OwnB.midB {w w' : World} {base : Nat} {v : Value} {L : List (List UInt8)} (h : OwnB w base v L) (hm : MidB base w.heap.size w w') : OwnB w' base v L := h.keep fun k h1 h2 => hm.block k h1 h2
set_option maxHeartbeats 2000000 in
theorem due1_s (n : Nat) (hn : 1 ≤ n) (w : World) (g base : Nat) (LT : List (List UInt8)) (v : Value) (hg : g + 2 ≤ w.heap.size) (k1 : w.cell? ⟨g, 0, none⟩ = some (.int .u64 (base : Int))) (k2 : w.cell? ⟨g + 1, 0, none⟩ = some v)
  (hX : OwnB w g v LT) (hf : Fit LT) (hbl : LT.length = 0 ∨ base + LT.length ≤ 34359738367) :
  SeqS Fence.wide n Try.prog 60 #[.pointer (some ⟨g + 1, 0, none⟩), .pointer (some ⟨g, 0, none⟩)] encI (fun pre x => AtI base LT (pre.length + 1) (pre ++ [x])) (fun x B W => Own W B x.2.2 x.2.1) (MidB g w.heap.size) (AtI base LT LT.length) LT.length w := fun l J J1 W hW hJ hJ1 hY h0 => by
 have HFB := Lib.hid (fun (x : List UInt8) (hx : x ∈ LT) => (show x.length ≤ 140737488355328 by have := hf.2 x hx; omega)); obtain ⟨A, c, rfl, _⟩ := hX.form HFB.out; have HX := Lib.hid hX; have HF := Lib.hid hf; have hL := hf.1; have q1 := (hW.cell (p := ⟨g, 0, none⟩) (show g < w.heap.size by omega)).trans k1; have q2 := (hW.cell (p := ⟨g + 1, 0, none⟩) (show g + 1 < w.heap.size by omega)).trans k2; have HY := Lib.hid hY; have HJ := Lib.hid hJ; have H1 := Lib.hid hJ1; have K1 := Lib.hid k1; clear hX hf k1 k2 hY hJ hJ1; refine callsIn_of_wp Try.func60 rfl trivial ?_ rfl; simp only [Try.ntmps60, List.size_toArray, List.length_cons, List.length_nil, Nat.reduceAdd, Nat.reduceSub, Array.replicate_succ, Array.replicate_zero, List.push_toArray, List.append_toArray, List.nil_append, List.cons_append]; have hnil := fun W => run_eql_func_nil W (.yield l) #[] #[]
 gi_wp2
 gi_loopw [10] (fun i wr => ∃ (k : Nat) (pre : List It), k ≤ LT.length ∧ i = .int .i64 (k : Int) ∧ AtI base LT k pre ∧ J pre wr ∧ MidB g w.heap.size w wr) (fun i _ => LT.length - (intOf i).toNat)
 case atStart => exact ⟨0, [], by omega, rfl, AtI.zero _ _, h0, MidB.of_below hW⟩
 case round =>
  obtain ⟨k, pre, hk, rfl, hat, hJs, hB⟩ := hrel
  by_cases hlt : k < LT.length
  ·obtain ⟨A', c', e0, _, _, hx0⟩ := (HX.out.midB hB).form HFB.out; obtain ⟨rfl, rfl⟩ : A = A' ∧ c = c' := by simp at e0; exact e0
   obtain ⟨b, o, A1, c1, rfl, hbB, hc, r1, r2, r3, hh⟩ := hx0.at_ hlt; clear e0 hx0; have HH := Lib.hid hh; have hle := HF.out.2 LT[k] (List.getElem_mem hlt); have p1 := (hB.cell (o := 0) (Nat.le_refl g) (show g < w.heap.size by omega)).trans K1.out; have hb2 : base + LT.length ≤ 34359738367 := by omega
   have HAT := Lib.hid hat; have HJS := Lib.hid hJs; clear hh hbl hat hJs; obtain ⟨l0, Hl⟩ : ∃ l0, Hid (LT[k] = l0) := ⟨_, Lib.hid rfl⟩; rw [Hl.out] at hc r1 r3 HH hle
   gi_wp2
   have hgw : g < wr.heap.size := World.block_lt_of_cell? wr _ p1; have hpl : pre.length < LT.length := by rw [HAT.out.len hk]; exact hlt
   have x1 : IntKind.u64.wrap ((base : Int) + 1) = (base : Int) + 1 := u64_wrap (by omega) (by omega); have x2 : IntKind.u64.wrap (k : Int) = (k : Int) := u64_wrap (by omega) (by omega); have x3 : IntKind.u64.wrap ((base : Int) + 1 + (k : Int)) = (base : Int) + 1 + (k : Int) := u64_wrap (by omega) (by omega); have HA1 : Hid (∀ v, AtI base LT (pre.length + 1) (pre ++ [(base + 1 + k, l0, v)])) := Lib.hid (fun v => by have h := HAT.out.succ hlt v; rw [Hl.out] at h; rw [HAT.out.len hk]; exact h)
   gi_region_with (first | (refine ⟨trivial, ?_⟩; gi_at_call 44; go_loud (refine (callsIn_wide.2 (clone_any _ wr.heap.size A1 c1 l0 (HH.out.drew) (by simp) (by omega))).mono ?_; rintro e w1 ⟨v1, rfl, ho1, hb1⟩; have p2 := (hb1.cell (p := ⟨g, 0, none⟩) hgw).trans p1; obtain ⟨fn, tm, asg, bdy, hy, hR⟩ := HY.out pre (base + 1 + k, l0, v1) w1 (H1.out pre _ _ w1 (HJ.out pre _ _ HJS.out ((Below.refl _ wr).drew)) hb1 (HA1.out v1) ho1 hpl); rw [encI_eq] at hy; clear HJS)) | (refine hR.mono ?_; clear hR hy; rintro e W3 ⟨rfl, hJ3, hk3⟩))
   all_goals
    have hE := encI_eq base k l0 v1; have HJ3 := Lib.hid hJ3; have HK3 := Lib.hid hk3; clear hJ3 hk3
    gi_wp2
    go_roundw
    case rel =>
     refine ⟨k + 1, pre ++ [(base + 1 + k, l0, v1)], by omega, by simp, ?_, HJ3.out, (hB.after (((Below.refl _ wr).drew).trans hb1)).trans HK3.out⟩; have := HAT.out.succ hlt v1
     rwa [Hl.out] at this
    case measure => simp [intOf]; omega
  ·obtain rfl : k = LT.length := by omega
   gi_wp2
   go_end0
   exact ⟨⟨_, rfl⟩, _, hat, hJs⟩
end Go.Proofs.Ytngegjboenfmeaa
/- A sender of nothing; last of a link of nothing. -/
namespace Go.Proofs.Ytngegjboenfmeaa
open Go Go.RowKit
set_option linter.unusedVariables false
set_option maxRecDepth 100000
set_option linter.unusedSimpArgs false

end Go.Proofs.Ytngegjboenfmeaa
/- Last of a link of nothing; Take of a hello by which a link comes up. -/
namespace Go.Proofs.Ytngegjboenfmeaa
open Go Go.RowKit
set_option linter.unusedVariables false
set_option maxRecDepth 100000
set_option linter.unusedSimpArgs false

/-- a number of nought, somewhere -/
def ZAt (v : Value) (W : World) : Prop := ∃ a, v = .pointer (some ⟨a, 0, none⟩) ∧ a < W.heap.size ∧ W.heap[a]? = some (.cells #[.int .u64 0] 28 (0, 0))
theorem ZAt.below {v : Value} {W W' : World} (h : ZAt v W) (hb : Below W.heap.size W W') : ZAt v W' := by
 obtain ⟨a, e, h1, h2⟩ := h; exact ⟨a, e, Nat.lt_of_lt_of_le h1 hb.size, (hb.block a h1).trans h2⟩
theorem ZAt.new (W : World) : ZAt (.pointer (some ⟨W.heap.size, 0, none⟩)) (W.alloc (.cells #[.int .u64 0] 28)) := ⟨_, rfl, by simp, heap_alloc_new W _⟩
theorem ZAt.set {W : World} {a : Nat} (h : W.heap[a]? = some (.cells #[.int .u64 0] 28 (0, 0))) : Below W.heap.size W (W.setCell ⟨a, 0, none⟩ (.int .u64 0)) := by
 refine ⟨rfl, rfl, rfl, by simp [World.setCell], fun k hk => ?_⟩
 by_cases e : k = a
 ·subst e; simp [World.setCell, Array.getElem?_modify, h]
 ·simp [World.setCell, Array.getElem?_modify, e, Ne.symm e]
end Go.Proofs.Ytngegjboenfmeaa
/- The walk of the laws' own helper 'awake' of layer 12. -/
namespace Go.Proofs.Ytngegjboenfmeaa
open Go Go.RowKit
set_option linter.unusedVariables false
set_option maxRecDepth 100000
set_option linter.unusedSimpArgs false

end Go.Proofs.Ytngegjboenfmeaa
/- Conns and Waits of a link; stands. -/
namespace Go.Proofs.Ytngegjboenfmeaa
open Go Go.RowKit
set_option linter.unusedVariables false
set_option maxRecDepth 100000
set_option linter.unusedSimpArgs false

set_option maxHeartbeats 3200000 in
theorem stands_yes (w : World) (g q base base2 : Nat) (A A2 : Option Addr) (nb cb cb2 : Nat) (got got2 : Nat) (sn : Int) (si : Nat) (peer : Int) (conn inc known : Nat) (up : Bool) (heard sent heard2 sent2 : Nat) (fs es : Value) (hsn : sn ≠ 0) (h : w.heap[g]? = some (.cells (lkCells base (.slice A nb cb) got sn si peer conn inc known up heard sent) 72 (0, 0)))
  (hq : w.heap[q]? = some (.cells (rkCells sn si peer conn inc known up base2 (.slice A2 nb cb2) got2 heard2 sent2 fs es) 109 (0, 0))) :
  Calls Try.prog 19 #[.pointer (some ⟨g, 0, none⟩), .pointer (some ⟨q, 0, none⟩)] w fun e w' => e = .returned (.bool true) ∧ Below w.heap.size w w' := by
 have hlt := lt_of_heap h; have HH := Lib.hid h; have HSN := Lib.hid hsn; have HGW : ∀ {W : World}, Below w.heap.size w W → W.heap[g]? = some (.cells (lkCells base (.slice A nb cb) got sn si peer conn inc known up heard sent) 72 (0, 0)) := fun hb => (hb.block g hlt).trans HH.out
 have HQ := Lib.hid (lt_of_heap hq); have HM0 : Hid (w.cell? ⟨q, 0, none⟩ = some (.int .i64 sn)) := Lib.hid (by rw [cell_of_row w q 0 _ _ _ hq]; rfl); have HM1 : Hid (w.cell? ⟨q, 1, none⟩ = some (.int .u64 (si : Int))) := Lib.hid (by rw [cell_of_row w q 1 _ _ _ hq]; rfl); have HM2 : Hid (w.cell? ⟨q, 2, none⟩ = some (.int .i64 peer)) := Lib.hid (by rw [cell_of_row w q 2 _ _ _ hq]; rfl); have HM3 : Hid (w.cell? ⟨q, 3, none⟩ = some (.int .u64 (conn : Int))) := Lib.hid (by rw [cell_of_row w q 3 _ _ _ hq]; rfl); have HM4 : Hid (w.cell? ⟨q, 4, none⟩ = some (.int .u64 (inc : Int))) := Lib.hid (by rw [cell_of_row w q 4 _ _ _ hq]; rfl); have HM5 : Hid (w.cell? ⟨q, 5, none⟩ = some (.int .u64 (known : Int))) := Lib.hid (by rw [cell_of_row w q 5 _ _ _ hq]; rfl); have HM6 : Hid (w.cell? ⟨q, 6, none⟩ = some (.bool up)) := Lib.hid (by rw [cell_of_row w q 6 _ _ _ hq]; rfl); have HM7 : Hid (w.cell? ⟨q, 7, none⟩ = some (.int .u64 (base2 : Int))) := Lib.hid (by rw [cell_of_row w q 7 _ _ _ hq]; rfl); have HM8 : Hid (w.cell? ⟨q, 8, none⟩ = some (.slice A2 nb cb2)) := Lib.hid (by rw [cell_of_row w q 8 _ _ _ hq]; rfl); have HM9 : Hid (w.cell? ⟨q, 9, none⟩ = some (.int .u64 (got2 : Int))) := Lib.hid (by rw [cell_of_row w q 9 _ _ _ hq]; rfl); have HM10 : Hid (w.cell? ⟨q, 10, none⟩ = some (.int .u64 (heard2 : Int))) := Lib.hid (by rw [cell_of_row w q 10 _ _ _ hq]; rfl); have HM11 : Hid (w.cell? ⟨q, 11, none⟩ = some (.int .u64 (sent2 : Int))) := Lib.hid (by rw [cell_of_row w q 11 _ _ _ hq]; rfl); have HM12 : Hid (w.cell? ⟨q, 12, none⟩ = some (fs)) := Lib.hid (by rw [cell_of_row w q 12 _ _ _ hq]; rfl); have HM13 : Hid (w.cell? ⟨q, 13, none⟩ = some (es)) := Lib.hid (by rw [cell_of_row w q 13 _ _ _ hq]; rfl); clear h hq hsn; go_enter Try.func19, Try.ntmps19
 go_wp2_with fail
 refine (conns_any w g base (.slice A nb cb) got sn si peer conn inc known up heard sent HSN.out HH.out).mono ?_; rintro e w1 ⟨rfl, hb1⟩; have HS1 := Lib.hid (Sep.start hb1); clear hb1
 go_wp2_with fail
 refine wRG (fun dn xv W => Sep w W []) (fun _ _ => True) [xP_ g 0, xV_ (.bool up), xP_ q 0, xP_ q 0, xP_ q 6, xV_ (.bool up), xV_ (.bool true), xV_ (.bool true), xP_ g 0, xV_ (.agg #[.int .i64 peer, .int .u64 (inc : Int)]), xP_ q 0, xP_ q 0, xP_ q 2, xV_ (.int .i64 peer), xP_ q 0, xP_ q 0, xP_ q 4, xV_ (.int .u64 (inc : Int)), xV_ (.agg #[.int .i64 peer, .int .u64 (inc : Int)]), xV_ (.bool true), xV_ (.bool true), xV_ (.bool true), xV_ (.int .u64 (conn : Int)), xP_ q 0, xP_ q 0, xP_ q 3, xV_ (.int .u64 (conn : Int)), xV_ (.bool true), xV_ (.bool true), xV_ (.bool true), xV_ (.int .u64 (known : Int)), xP_ q 0, xP_ q 0, xP_ q 5, xV_ (.int .u64 (known : Int)), xV_ (.bool true), xV_ (.bool true), xV_ (.bool true), xP_ g 0, xV_ (.int .i64 (nb : Int)), xP_ q 0, xP_ q 0, xP_ q 7, xP_ q 8, xV_ (.slice A2 nb cb2), xV_ (.int .i64 (nb : Int)), xV_ (.bool true), xV_ (.bool true), xV_ (.bool true)] (fun xv => by simpa using HS1.out.drew) ?_ ?_
 ·refine Ep 1 0 g 0 ?_
  refine EC 2 rfl (fun i j W F a b c d f H K h => ?_) ?_
  ·have f12 := gE (a 12) (by kernel_rfl) (H 0) (by kernel_rfl); clear H c b d a; refine oP rfl ?_; go_simp; refine (up_any W g sn up HSN.out (by rw [cell_of_row W g 3 _ _ _ (HGW f.bel)]; rfl) (by rw [cell_of_row W g 9 _ _ _ (HGW f.bel)]; rfl)).mono ?_; rintro e W' ⟨rfl, hb⟩; exact h.out _ W' rfl trivial (by simpa [upB, upd] using f.grow hb)
  refine Ep 3 1 q 0 ?_
  refine Ee 4 14 2 ?_
  refine Ee 5 15 3 ?_
  refine Eek 6 16 4 (fun _ _ _ e => (e.bel.cell (p := ⟨q, 6, none⟩) HQ.out).trans HM6.out) ?_
  refine Eee 7 13 1 17 5 ?_
  refine Ee 8 18 6 ?_
  refine Epeg 9 0 g 0 19 7 ?_
  refine EC 10 rfl (fun i j W F a b c d f H K h => ?_) ?_
  ·have f20 := gE (a 20) (by kernel_rfl) (H 8) (by kernel_rfl); have f19 := gE (a 19) (by kernel_rfl) (H 7) (by kernel_rfl); clear H c b d a; refine oG rfl (by kernel_rfl) f19 ?_; go_simp; refine (peer_any W g base (.slice A nb cb) got sn si peer conn inc known up heard sent HSN.out (HGW f.bel)).mono ?_; rintro e W' ⟨rfl, hb⟩; exact h.out _ W' rfl trivial (by simpa [upB, upd] using f.grow hb)
  refine Epeg 11 1 q 0 19 7 ?_
  refine Eeeg 12 22 10 19 7 ?_
  refine Eeeg 13 23 11 19 7 ?_
  refine Eeegk 14 24 12 19 7 (fun _ _ _ e => (e.bel.cell (p := ⟨q, 2, none⟩) HQ.out).trans HM2.out) ?_
  refine Epeg 15 1 q 0 19 7 ?_
  refine Eeeg 16 26 14 19 7 ?_
  refine Eeeg 17 27 15 19 7 ?_
  refine Eeegk 18 28 16 19 7 (fun _ _ _ e => (e.bel.cell (p := ⟨q, 4, none⟩) HQ.out).trans HM4.out) ?_
  refine EC 19 rfl (fun g h W F a b c d e H K f => ?_) ?_
  ·have f25 := gE (a 25) (by kernel_rfl) (H 13) (by kernel_rfl); have f29 := gE (a 29) (by kernel_rfl) (H 17) (by kernel_rfl); have f19 := gE (a 19) (by kernel_rfl) (H 7) (by kernel_rfl); clear H c b d a; refine oG rfl (by kernel_rfl) f19 ?_; have g25 := f25; have g29 := f29; rw [Array.getD_eq_getD_getElem?] at g25 g29; go_simp; exact f.out _ _ rfl trivial e
  refine Eeeeg 20 21 9 30 18 19 7 ?_
  refine Eee 21 19 7 31 19 ?_
  refine Ee 22 32 20 ?_
  refine Eieg 23 5 (.int .u64 (conn : Int)) 33 21 ?_
  refine Epeg 24 1 q 0 33 21 ?_
  refine Eeeg 25 35 23 33 21 ?_
  refine Eeeg 26 36 24 33 21 ?_
  refine Eeegk 27 37 25 33 21 (fun _ _ _ e => (e.bel.cell (p := ⟨q, 3, none⟩) HQ.out).trans HM3.out) ?_
  refine Eeeeg 28 34 22 38 26 33 21 ?_
  refine Eee 29 33 21 39 27 ?_
  refine Ee 30 40 28 ?_
  refine Eieg 31 6 (.int .u64 (known : Int)) 41 29 ?_
  refine Epeg 32 1 q 0 41 29 ?_
  refine Eeeg 33 43 31 41 29 ?_
  refine Eeeg 34 44 32 41 29 ?_
  refine Eeegk 35 45 33 41 29 (fun _ _ _ e => (e.bel.cell (p := ⟨q, 5, none⟩) HQ.out).trans HM5.out) ?_
  refine Eeeeg 36 42 30 46 34 41 29 ?_
  refine Eee 37 41 29 47 35 ?_
  refine Ee 38 48 36 ?_
  refine Epeg 39 0 g 0 49 37 ?_
  refine EC 40 rfl (fun i j W F a b c d f H K h => ?_) ?_
  ·have f50 := gE (a 50) (by kernel_rfl) (H 38) (by kernel_rfl); have f49 := gE (a 49) (by kernel_rfl) (H 37) (by kernel_rfl); clear H c b d a; refine oG rfl (by kernel_rfl) f49 ?_; go_simp; refine (waits_any W g base A nb cb got sn si peer conn inc known up heard sent HSN.out (HGW f.bel)).mono ?_; rintro e W' ⟨rfl, hb⟩; exact h.out _ W' rfl trivial (by simpa [upB, upd] using f.grow hb)
  refine Epeg 41 1 q 0 49 37 ?_
  refine Eeeg 42 52 40 49 37 ?_
  refine Eeeg 43 53 41 49 37 ?_
  refine Eeeg 44 54 42 49 37 ?_
  refine Eeegk 45 55 43 49 37 (fun _ _ _ e => (e.bel.cell (p := ⟨q, 8, none⟩) HQ.out).trans HM8.out) ?_
  refine Eeeg 46 56 44 49 37 ?_
  refine Eeeeg 47 51 39 57 45 49 37 ?_
  refine Eee 48 49 37 58 46 ?_
  refine Ee 49 59 47 ?_
  exact EN
 ·intro dn xv W hI H; have q48 : xv 48 = .bool true := (H 48 (of_decide_eq_true (by kernel_rfl))).2; have hS : Sep w W [] := hI; clear H hI; simp only [putAll, Act.put, List.setIfInBounds_toArray, List.set_cons_zero, List.set_cons_succ, Nat.reduceAdd, q48]; clear q48; have HS2 := Lib.hid hS; clear hS
  go_wp2_with fail
  go_ret
  exact ⟨rfl, HS2.out.bel⟩
end Go.Proofs.Ytngegjboenfmeaa
/- The document's hello. -/
namespace Go.Proofs.Ytngegjboenfmeaa
open Go Go.RowKit
set_option linter.unusedVariables false
set_option maxRecDepth 100000
set_option linter.unusedSimpArgs false

set_option maxHeartbeats 1600000 in
theorem refHello_any (w : World) (q : Nat) (sn : Int) (si : Nat) (peer : Int) (conn inc known : Nat) (up : Bool) (base : Nat) (bx : Value) (got heard sent : Nat) (fs es : Value) (hq : w.heap[q]? = some (.cells (rkCells sn si peer conn inc known up base bx got heard sent fs es) 109 (0, 0))) :
  Calls Try.prog 65 #[.pointer (some ⟨q, 0, none⟩), .int .u64 0, .slice none 0 0] w fun e w' => e = .returned (.agg (heCells got sn si peer conn inc known)) ∧ Below w.heap.size w w' := by
 have HQ := Lib.hid (lt_of_heap hq); have HM0 : Hid (w.cell? ⟨q, 0, none⟩ = some (.int .i64 sn)) := Lib.hid (by rw [cell_of_row w q 0 _ _ _ hq]; rfl); have HM1 : Hid (w.cell? ⟨q, 1, none⟩ = some (.int .u64 (si : Int))) := Lib.hid (by rw [cell_of_row w q 1 _ _ _ hq]; rfl); have HM2 : Hid (w.cell? ⟨q, 2, none⟩ = some (.int .i64 peer)) := Lib.hid (by rw [cell_of_row w q 2 _ _ _ hq]; rfl); have HM3 : Hid (w.cell? ⟨q, 3, none⟩ = some (.int .u64 (conn : Int))) := Lib.hid (by rw [cell_of_row w q 3 _ _ _ hq]; rfl); have HM4 : Hid (w.cell? ⟨q, 4, none⟩ = some (.int .u64 (inc : Int))) := Lib.hid (by rw [cell_of_row w q 4 _ _ _ hq]; rfl); have HM5 : Hid (w.cell? ⟨q, 5, none⟩ = some (.int .u64 (known : Int))) := Lib.hid (by rw [cell_of_row w q 5 _ _ _ hq]; rfl); have HM6 : Hid (w.cell? ⟨q, 6, none⟩ = some (.bool up)) := Lib.hid (by rw [cell_of_row w q 6 _ _ _ hq]; rfl); have HM7 : Hid (w.cell? ⟨q, 7, none⟩ = some (.int .u64 (base : Int))) := Lib.hid (by rw [cell_of_row w q 7 _ _ _ hq]; rfl); have HM8 : Hid (w.cell? ⟨q, 8, none⟩ = some (bx)) := Lib.hid (by rw [cell_of_row w q 8 _ _ _ hq]; rfl); have HM9 : Hid (w.cell? ⟨q, 9, none⟩ = some (.int .u64 (got : Int))) := Lib.hid (by rw [cell_of_row w q 9 _ _ _ hq]; rfl); have HM10 : Hid (w.cell? ⟨q, 10, none⟩ = some (.int .u64 (heard : Int))) := Lib.hid (by rw [cell_of_row w q 10 _ _ _ hq]; rfl); have HM11 : Hid (w.cell? ⟨q, 11, none⟩ = some (.int .u64 (sent : Int))) := Lib.hid (by rw [cell_of_row w q 11 _ _ _ hq]; rfl); have HM12 : Hid (w.cell? ⟨q, 12, none⟩ = some (fs)) := Lib.hid (by rw [cell_of_row w q 12 _ _ _ hq]; rfl); have HM13 : Hid (w.cell? ⟨q, 13, none⟩ = some (es)) := Lib.hid (by rw [cell_of_row w q 13 _ _ _ hq]; rfl); have HS0 := Lib.hid (show Sep w (w.alloc (.cells #[.int .i64 0, .int .i64 0, .int .i64 0, .int .u64 0, .int .u64 0, .int .u64 0, .int .u64 0, .int .u64 0, .int .u64 0, .slice none 0 0] 51)) [Ce w.heap.size 51 #[.int .i64 0, .int .i64 0, .int .i64 0, .int .u64 0, .int .u64 0, .int .u64 0, .int .u64 0, .int .u64 0, .int .u64 0, .slice none 0 0]] from sep_ce (Sep.nil w) _ _); have HBL : ∀ (dn : Nat → Bool) (xv : Nat → Value) (W : World), (if dn 33 = true then ∃ a, xv 32 = .pointer (some ⟨a, 0, none⟩) ∧ Sep w W [Ce w.heap.size 51 #[.int .i64 0, .int .i64 0, .int .i64 0, .int .u64 0, .int .u64 0, .int .u64 0, .int .u64 0, .int .u64 0, .int .u64 0, .slice none 0 0], Ce a 51 #[.int .i64 1, .int .i64 sn, .int .i64 peer, .int .u64 (si : Int), .int .u64 (conn : Int), .int .u64 (inc : Int), .int .u64 (known : Int), .int .u64 (got : Int), .int .u64 0, .slice none 0 0]] else if dn 32 = true then ∃ a, xv 32 = .pointer (some ⟨a, 0, none⟩) ∧ Sep w W [Ce w.heap.size 51 #[.int .i64 0, .int .i64 0, .int .i64 0, .int .u64 0, .int .u64 0, .int .u64 0, .int .u64 0, .int .u64 0, .int .u64 0, .slice none 0 0], Ce a 51 #[.int .i64 0, .int .i64 0, .int .i64 0, .int .u64 0, .int .u64 0, .int .u64 0, .int .u64 0, .int .u64 0, .int .u64 0, .slice none 0 0]] else Sep w W [Ce w.heap.size 51 #[.int .i64 0, .int .i64 0, .int .i64 0, .int .u64 0, .int .u64 0, .int .u64 0, .int .u64 0, .int .u64 0, .int .u64 0, .slice none 0 0]]) → Below w.heap.size w W := fun dn xv W h => by
  split at h
  ·obtain ⟨_, _, h⟩ := h; exact h.bel
  split at h
  ·obtain ⟨_, _, h⟩ := h; exact h.bel
  exact h.bel
 clear hq; unfold heCells; go_enter Try.func65, Try.ntmps65
 go_wp2_with fail
 refine wRG (fun dn xv W => if dn 33 = true then ∃ a, xv 32 = .pointer (some ⟨a, 0, none⟩) ∧ Sep w W [Ce w.heap.size 51 #[.int .i64 0, .int .i64 0, .int .i64 0, .int .u64 0, .int .u64 0, .int .u64 0, .int .u64 0, .int .u64 0, .int .u64 0, .slice none 0 0], Ce a 51 #[.int .i64 1, .int .i64 sn, .int .i64 peer, .int .u64 (si : Int), .int .u64 (conn : Int), .int .u64 (inc : Int), .int .u64 (known : Int), .int .u64 (got : Int), .int .u64 0, .slice none 0 0]] else if dn 32 = true then ∃ a, xv 32 = .pointer (some ⟨a, 0, none⟩) ∧ Sep w W [Ce w.heap.size 51 #[.int .i64 0, .int .i64 0, .int .i64 0, .int .u64 0, .int .u64 0, .int .u64 0, .int .u64 0, .int .u64 0, .int .u64 0, .slice none 0 0], Ce a 51 #[.int .i64 0, .int .i64 0, .int .i64 0, .int .u64 0, .int .u64 0, .int .u64 0, .int .u64 0, .int .u64 0, .int .u64 0, .slice none 0 0]] else Sep w W [Ce w.heap.size 51 #[.int .i64 0, .int .i64 0, .int .i64 0, .int .u64 0, .int .u64 0, .int .u64 0, .int .u64 0, .int .u64 0, .int .u64 0, .slice none 0 0]]) (fun _ _ => True) [xP_ q 0, xP_ q 0, xP_ q 0, xP_ q 0, xV_ (.int .i64 sn), xP_ q 0, xP_ q 0, xP_ q 2, xV_ (.int .i64 peer), xP_ q 0, xP_ q 0, xP_ q 0, xP_ q 1, xV_ (.int .u64 (si : Int)), xP_ q 0, xP_ q 0, xP_ q 3, xV_ (.int .u64 (conn : Int)), xP_ q 0, xP_ q 0, xP_ q 4, xV_ (.int .u64 (inc : Int)), xP_ q 0, xP_ q 0, xP_ q 5, xV_ (.int .u64 (known : Int)), xP_ q 0, xP_ q 0, xP_ q 9, xP_ q 9, xV_ (.int .u64 (got : Int)), xV_ (.agg #[.int .i64 1, .int .i64 sn, .int .i64 peer, .int .u64 (si : Int), .int .u64 (conn : Int), .int .u64 (inc : Int), .int .u64 (known : Int), .int .u64 (got : Int), .int .u64 0, .slice none 0 0]), fun v _ => True, fun v _ => True] (fun xv => by simpa using HS0.out.drew) ?_ ?_
 ·refine Ep 1 0 q 0 ?_
  refine Ee 2 8 0 ?_
  refine Ee 3 9 1 ?_
  refine Ee 4 10 2 ?_
  refine Eek 5 11 3 (fun g h W e => ((HBL g h W e).cell (p := ⟨q, 0, none⟩) HQ.out).trans HM0.out) ?_
  refine Ep 6 0 q 0 ?_
  refine Ee 7 13 5 ?_
  refine Ee 8 14 6 ?_
  refine Eek 9 15 7 (fun g h W e => ((HBL g h W e).cell (p := ⟨q, 2, none⟩) HQ.out).trans HM2.out) ?_
  refine Ep 10 0 q 0 ?_
  refine Ee 11 17 9 ?_
  refine Ee 12 18 10 ?_
  refine Ee 13 19 11 ?_
  refine Eek 14 20 12 (fun g h W e => ((HBL g h W e).cell (p := ⟨q, 1, none⟩) HQ.out).trans HM1.out) ?_
  refine Ep 15 0 q 0 ?_
  refine Ee 16 22 14 ?_
  refine Ee 17 23 15 ?_
  refine Eek 18 24 16 (fun g h W e => ((HBL g h W e).cell (p := ⟨q, 3, none⟩) HQ.out).trans HM3.out) ?_
  refine Ep 19 0 q 0 ?_
  refine Ee 20 26 18 ?_
  refine Ee 21 27 19 ?_
  refine Eek 22 28 20 (fun g h W e => ((HBL g h W e).cell (p := ⟨q, 4, none⟩) HQ.out).trans HM4.out) ?_
  refine Ep 23 0 q 0 ?_
  refine Ee 24 30 22 ?_
  refine Ee 25 31 23 ?_
  refine Eek 26 32 24 (fun g h W e => ((HBL g h W e).cell (p := ⟨q, 5, none⟩) HQ.out).trans HM5.out) ?_
  refine Ep 27 0 q 0 ?_
  refine Ee 28 34 26 ?_
  refine Ee 29 35 27 ?_
  refine Ee 30 36 28 ?_
  refine Eek 31 37 29 (fun g h W e => ((HBL g h W e).cell (p := ⟨q, 9, none⟩) HQ.out).trans HM9.out) ?_
  refine EC 32 rfl (fun g h W F a b c d e H K f => ?_) ?_
  ·have f12 := gE (a 12) (by kernel_rfl) (H 4) (by kernel_rfl); have f16 := gE (a 16) (by kernel_rfl) (H 8) (by kernel_rfl); have f21 := gE (a 21) (by kernel_rfl) (H 13) (by kernel_rfl); have f25 := gE (a 25) (by kernel_rfl) (H 17) (by kernel_rfl); have f29 := gE (a 29) (by kernel_rfl) (H 21) (by kernel_rfl); have f33 := gE (a 33) (by kernel_rfl) (H 25) (by kernel_rfl); have f38 := gE (a 38) (by kernel_rfl) (H 30) (by kernel_rfl); clear H c b d a; refine oP rfl ?_; have g12 := f12; have g16 := f16; have g21 := f21; have g25 := f25; have g29 := f29; have g33 := f33; have g38 := f38; rw [Array.getD_eq_getD_getElem?] at g12 g16 g21 g25 g29 g33 g38; go_simp; exact f.out _ _ rfl trivial e
  refine EC 33 rfl (fun h i W F b c d e f H K g => ?_) ?_
  ·have q33 := d 33 uE; rw [if_neg (by simp [q33]), if_neg (by simp [c])] at f; have hS := f; clear f d c e b H; refine oP rfl ?_; go_simp; have hs : ∃ a, (Value.pointer (some ⟨W.heap.size, 0, none⟩)) = .pointer (some ⟨a, 0, none⟩) ∧ Sep w (W.alloc (.cells #[.int .i64 0, .int .i64 0, .int .i64 0, .int .u64 0, .int .u64 0, .int .u64 0, .int .u64 0, .int .u64 0, .int .u64 0, .slice none 0 0] 51)) [Ce w.heap.size 51 #[.int .i64 0, .int .i64 0, .int .i64 0, .int .u64 0, .int .u64 0, .int .u64 0, .int .u64 0, .int .u64 0, .int .u64 0, .slice none 0 0], Ce a 51 #[.int .i64 0, .int .i64 0, .int .i64 0, .int .u64 0, .int .u64 0, .int .u64 0, .int .u64 0, .int .u64 0, .int .u64 0, .slice none 0 0]] := ⟨_, rfl, sep_ce hS _ _⟩; exact g.out _ _ trivial trivial (by simpa [upB, upd, q33] using hs)
  refine EC 34 rfl (fun j k W F c d e f g H K h => ?_) ?_
  ·have f7 : F.tmps.getD 7 undef = k 32 := (c 7).trans (by kernel_rfl); have f39 := gE (c 39) (by kernel_rfl) (H 31) (by kernel_rfl); have q32 := (H 32 uE).1; rw [if_neg (by simp [d]), if_pos q32] at g; have hS := g; clear g e d f c H; refine oP rfl ?_; obtain ⟨a, ea, hS⟩ := hS; rw [ea] at f7; have c0 := cA (i := 1) hS rfl 0 rfl; have y0 := cFz (i := 1) hS rfl 0; have c1 := cA (i := 1) hS rfl 1 rfl; have y1 := cFz (i := 1) hS rfl 1; have c2 := cA (i := 1) hS rfl 2 rfl; have y2 := cFz (i := 1) hS rfl 2; have c3 := cA (i := 1) hS rfl 3 rfl; have y3 := cFz (i := 1) hS rfl 3; have c4 := cA (i := 1) hS rfl 4 rfl; have y4 := cFz (i := 1) hS rfl 4; have c5 := cA (i := 1) hS rfl 5 rfl; have y5 := cFz (i := 1) hS rfl 5; have c6 := cA (i := 1) hS rfl 6 rfl; have y6 := cFz (i := 1) hS rfl 6; have c7 := cA (i := 1) hS rfl 7 rfl; have y7 := cFz (i := 1) hS rfl 7; have c8 := cA (i := 1) hS rfl 8 rfl; have y8 := cFz (i := 1) hS rfl 8; have c9 := cA (i := 1) hS rfl 9 rfl; have y9 := cFz (i := 1) hS rfl 9; have hs : ∃ b, k 32 = .pointer (some ⟨b, 0, none⟩) ∧ Sep w _ [Ce w.heap.size 51 #[.int .i64 0, .int .i64 0, .int .i64 0, .int .u64 0, .int .u64 0, .int .u64 0, .int .u64 0, .int .u64 0, .int .u64 0, .slice none 0 0], Ce b 51 #[.int .i64 1, .int .i64 sn, .int .i64 peer, .int .u64 (si : Int), .int .u64 (conn : Int), .int .u64 (inc : Int), .int .u64 (known : Int), .int .u64 (got : Int), .int .u64 0, .slice none 0 0]] := ⟨a, ea, sep_put10c (i := 1) hS rfl (.int .i64 1) (.int .i64 sn) (.int .i64 peer) (.int .u64 (si : Int)) (.int .u64 (conn : Int)) (.int .u64 (inc : Int)) (.int .u64 (known : Int)) (.int .u64 (got : Int)) (.int .u64 0) (.slice none 0 0)⟩; go_simp; exact h.out undef _ trivial trivial (by simpa [upB, upd] using hs)
  exact EN
 ·intro dn xv W hI H; have qe : dn 33 = true := (H 33 (of_decide_eq_true (by kernel_rfl))).1; rw [if_pos qe] at hI; have hS := hI; clear H hI qe; simp only [putAll, Act.put, List.setIfInBounds_toArray, List.set_cons_zero, List.set_cons_succ, Nat.reduceAdd]; obtain ⟨a, ea, hS⟩ := hS; rw [ea]; have HS1 := Lib.hid hS; clear hS ea; have k0 := cA (i := 0) HS1.out rfl 0 rfl; have y0 := cFz (i := 0) HS1.out rfl 0; have z0 := cA (i := 1) HS1.out rfl 0 rfl; have k1 := cA (i := 0) HS1.out rfl 1 rfl; have y1 := cFz (i := 0) HS1.out rfl 1; have z1 := cA (i := 1) HS1.out rfl 1 rfl; have k2 := cA (i := 0) HS1.out rfl 2 rfl; have y2 := cFz (i := 0) HS1.out rfl 2; have z2 := cA (i := 1) HS1.out rfl 2 rfl; have k3 := cA (i := 0) HS1.out rfl 3 rfl; have y3 := cFz (i := 0) HS1.out rfl 3; have z3 := cA (i := 1) HS1.out rfl 3 rfl; have k4 := cA (i := 0) HS1.out rfl 4 rfl; have y4 := cFz (i := 0) HS1.out rfl 4; have z4 := cA (i := 1) HS1.out rfl 4 rfl; have k5 := cA (i := 0) HS1.out rfl 5 rfl; have y5 := cFz (i := 0) HS1.out rfl 5; have z5 := cA (i := 1) HS1.out rfl 5 rfl; have k6 := cA (i := 0) HS1.out rfl 6 rfl; have y6 := cFz (i := 0) HS1.out rfl 6; have z6 := cA (i := 1) HS1.out rfl 6 rfl; have k7 := cA (i := 0) HS1.out rfl 7 rfl; have y7 := cFz (i := 0) HS1.out rfl 7; have z7 := cA (i := 1) HS1.out rfl 7 rfl; have k8 := cA (i := 0) HS1.out rfl 8 rfl; have y8 := cFz (i := 0) HS1.out rfl 8; have z8 := cA (i := 1) HS1.out rfl 8 rfl; have k9 := cA (i := 0) HS1.out rfl 9 rfl; have y9 := cFz (i := 0) HS1.out rfl 9; have z9 := cA (i := 1) HS1.out rfl 9 rfl
  go_wp2_with fail
  have hs2 := sep_put10c (i := 0) HS1.out rfl (.int .i64 1) (.int .i64 sn) (.int .i64 peer) (.int .u64 (si : Int)) (.int .u64 (conn : Int)) (.int .u64 (inc : Int)) (.int .u64 (known : Int)) (.int .u64 (got : Int)) (.int .u64 0) (.slice none 0 0); refine bodyPost_ret (v := .agg #[.int .i64 1, .int .i64 sn, .int .i64 peer, .int .u64 (si : Int), .int .u64 (conn : Int), .int .u64 (inc : Int), .int .u64 (known : Int), .int .u64 (got : Int), .int .u64 0, .slice none 0 0]) (by simp [results, Try.results65, go_sem, k0, k1, k2, k3, k4, k5, k6, k7, k8, k9]) rfl ?_; exact ⟨rfl, hs2.bel⟩
end Go.Proofs.Ytngegjboenfmeaa
/- How many ticks after: the link's and the document's. -/
namespace Go.Proofs.Ytngegjboenfmeaa
open Go Go.RowKit
set_option linter.unusedVariables false
set_option maxRecDepth 100000

/-- so many ticks after -/
def ticks (now was : Nat) : Nat := now - was
theorem after_any (w : World) (now was : Nat) (h : now < 18446744073709551616) : Calls Try.prog 34 #[.int .u64 (now : Int), .int .u64 (was : Int)] w fun e w' => e = .returned (.int .u64 (ticks now was : Nat)) ∧ Below w.heap.size w w' := by
 by_cases hl : now < was
 ·have HT : Hid (ticks now was = 0) := Lib.hid (by unfold ticks; omega); go_enter Try.func34, Try.ntmps34
  go_wp2_with fail
  go_ret
  exact ⟨by rw [HT.out]; rfl, Below.refl _ _⟩
 ·obtain ⟨d, hd⟩ : ∃ d : Nat, (now : Int) - (was : Int) = (d : Int) := ⟨now - was, by omega⟩; have HT : Hid (ticks now was = d) := Lib.hid (by unfold ticks; omega); have mw : IntKind.u64.wrap ((now : Int) - (was : Int)) = (d : Int) := by rw [IntKind.wrap_u64]; omega
  have mw2 : ((now : Int) - (was : Int)) % 18446744073709551616 = (d : Int) := by omega
  have mw3 : IntKind.u64.wrap (d : Int) = (d : Int) := by rw [IntKind.wrap_u64]; omega
  go_enter Try.func34, Try.ntmps34
  go_wp2_with fail
  go_ret
  exact ⟨by rw [HT.out]; rfl, Below.refl _ _⟩
theorem since_any (w : World) (now was : Nat) (h : now < 18446744073709551616) : Calls Try.prog 72 #[.int .u64 (now : Int), .int .u64 (was : Int)] w fun e w' => e = .returned (.int .u64 (ticks now was : Nat)) ∧ Below w.heap.size w w' := by
 by_cases hl : now < was
 ·have HT : Hid (ticks now was = 0) := Lib.hid (by unfold ticks; omega); go_enter Try.func72, Try.ntmps72
  go_wp2_with fail
  go_ret
  exact ⟨by rw [HT.out]; rfl, Below.refl _ _⟩
 ·obtain ⟨d, hd⟩ : ∃ d : Nat, (now : Int) - (was : Int) = (d : Int) := ⟨now - was, by omega⟩; have HT : Hid (ticks now was = d) := Lib.hid (by unfold ticks; omega); have mw : IntKind.u64.wrap ((now : Int) - (was : Int)) = (d : Int) := by rw [IntKind.wrap_u64]; omega
  have mw2 : ((now : Int) - (was : Int)) % 18446744073709551616 = (d : Int) := by omega
  have mw3 : IntKind.u64.wrap (d : Int) = (d : Int) := by rw [IntKind.wrap_u64]; omega
  go_enter Try.func72, Try.ntmps72
  go_wp2_with fail
  go_ret
  exact ⟨by rw [HT.out]; rfl, Below.refl _ _⟩
end Go.Proofs.Ytngegjboenfmeaa
/- A link, as a plain machine: what it does by each call. No program in sight. -/
namespace Go.Proofs.Ytngegjboenfmeaa
open Go Go.RowKit
set_option linter.unusedVariables false

/-- how a link stands -/
structure LS where
 base : Nat
 box : List (List UInt8)
 got : Nat
 sn : Int
 si : Nat
 peer : Int
 conn : Nat
 inc : Nat
 known : Nat
 up : Bool
 heard : Nat
 sent : Nat
/-- what is told -/
structure Ev where
 kind : Int
 pn : Int
 pi : Nat
 body : List UInt8
def LS.cells (s : LS) (bx : Value) : Array Value := lkCells s.base bx s.got s.sn s.si s.peer s.conn s.inc s.known s.up s.heard s.sent
def Fr.cellsV (f : Fr) (u : Value) : Array Value := #[.int .i64 f.kind, .int .i64 f.fr, .int .i64 f.to, .int .u64 (f.inc : Int), .int .u64 (f.conn : Int), .int .u64 (f.pinc : Int), .int .u64 (f.pconn : Int), .int .u64 (f.ack : Int), .int .u64 (f.seq : Int), u]
def Ev.cellsV (e : Ev) (u : Value) : Array Value := #[.int .i64 e.kind, .int .i64 e.pn, .int .u64 (e.pi : Int), u]
/-- frames, each with its body's value: the row's cells, the bodies -/
def fR_ (LP : List (Fr × Value)) : List Value := LP.flatMap fun p => (p.1.cellsV p.2).toList
def fB_ (LP : List (Fr × Value)) : List (Value × List UInt8) := LP.map fun p => (p.2, p.1.body)
def eR_ (LP : List (Ev × Value)) : List Value := LP.flatMap fun p => (p.1.cellsV p.2).toList
def eB_ (LP : List (Ev × Value)) : List (Value × List UInt8) := LP.map fun p => (p.2, p.1.body)
theorem frRow_snoc (LP : List (Fr × Value)) (p : Fr × Value) : fR_ (LP ++ [p]) = fR_ LP ++ (p.1.cellsV p.2).toList := by simp [fR_]
theorem frBods_snoc (LP : List (Fr × Value)) (p : Fr × Value) : fB_ (LP ++ [p]) = fB_ LP ++ [(p.2, p.1.body)] := by simp [fB_]
theorem evRow_snoc (LP : List (Ev × Value)) (p : Ev × Value) : eR_ (LP ++ [p]) = eR_ LP ++ (p.1.cellsV p.2).toList := by simp [eR_]
theorem evBods_snoc (LP : List (Ev × Value)) (p : Ev × Value) : eB_ (LP ++ [p]) = eB_ LP ++ [(p.2, p.1.body)] := by simp [eB_]

def LS.hello (s : LS) : Fr := ⟨1, s.sn, s.peer, s.si, s.conn, s.inc, s.known, s.got, 0, []⟩
def LS.data (s : LS) (x : Nat × List UInt8) : Fr := ⟨2, s.sn, s.peer, s.si, s.conn, s.inc, s.known, s.got, x.1, x.2⟩
def LS.due (s : LS) : List (Nat × List UInt8) := items s.base (dueL s.base s.box)
def LS.last (s : LS) : Nat := s.base + min s.box.length 8
/-- going down: what it is then, what is told -/
def LS.down (s : LS) : LS := { s with base := 0, box := [], got := 0, up := false }
def LS.ev (s : LS) (kind : Int) (b : List UInt8) : Ev := ⟨kind, s.peer, s.inc, b⟩
/-- numbers that a call wants -/
structure LS.Num (s : LS) : Prop where
 sn : s.sn ≠ 0
 base : s.base + s.box.length ≤ 34359738367
 box : s.box.length ≤ 48
 bodies : ∀ l ∈ s.box, bodyB l = true
 got : s.got ≤ 34359738367
 heard : s.heard < 18446744073709551616
 sent : s.sent < 18446744073709551616
theorem bodyB_len {l : List UInt8} (h : bodyB l = true) : 1 ≤ l.length ∧ l.length ≤ 448 := by
 simpa [bodyB] using h
theorem LS.Num.may {s : LS} (h : s.Num) : wmayB s.base s.box = true := by
 unfold wmayB; rw [decide_eq_true h.box, decide_eq_true h.base]; simpa [List.all_eq_true] using h.bodies
theorem LS.Num.fit {s : LS} (h : s.Num) : Fit s.box := ⟨by have := h.box; omega, fun l hl => by have := (bodyB_len (h.bodies l hl)).2; omega⟩
theorem LS.Num.due {s : LS} (h : s.Num) : dueL s.base s.box = s.box.take (min s.box.length 8) := by simp [dueL, h.may]
theorem LS.Num.small {s : LS} (h : s.Num) : ∀ l ∈ s.box, l.length ≤ 140737488355328 := fun l hl => by have := (bodyB_len (h.bodies l hl)).2; omega
theorem LS.Num.down {s : LS} (h : s.Num) : s.down.Num := ⟨h.sn, by simp [LS.down], by simp [LS.down], by simp [LS.down], by simp [LS.down], h.heard, h.sent⟩

/-- a tick -/
def LS.tick1 (s : LS) (now : Nat) : LS := if s.up && decide (4 ≤ ticks now s.heard) then { s.down with conn := s.conn + 1 } else s
def LS.again (s : LS) (now : Nat) : Bool := s.up && decide (0 < s.box.length) && decide (2 ≤ ticks now s.sent)
def LS.tick (s : LS) (now : Nat) : LS := let t := s.tick1 now; if t.again now then { t with sent := now } else t
def LS.tickF (s : LS) (now : Nat) : List Fr := let t := s.tick1 now; t.hello :: if t.again now then t.due.map t.data else []
def LS.tickE (s : LS) (now : Nat) : List Ev := if s.up && decide (4 ≤ ticks now s.heard) then [s.ev 2 []] else []

/-- a frame that comes: is it looked at? -/
def LS.looks (s : LS) (f : Fr) : Bool := mayB f.kind f.fr f.to f.inc f.conn f.pinc f.pconn f.ack f.seq f.body.length && decide (f.fr = s.peer) && decide (f.to = s.sn) && !(decide (f.inc < s.inc) || (decide (f.inc = s.inc) && decide (f.conn < s.known)))
/-- is it of another connection than the known one? -/
def LS.other (s : LS) (f : Fr) : Bool := decide (f.inc ≠ s.inc) || decide (f.conn ≠ s.known)
def LS.turn (s : LS) (f : Fr) : LS := if s.other f then { s.down with inc := f.inc, known := f.conn } else s
def LS.take1 (s : LS) (now : Nat) (f : Fr) : LS := { s.turn f with heard := now }
def LS.take1E (s : LS) (f : Fr) : List Ev := if s.other f && s.up then [s.ev 2 []] else []
/-- does it know this link? -/
def LS.knows (s : LS) (f : Fr) : Bool := decide (f.pinc = s.si) && decide (f.pconn = s.conn)
def LS.take2E (s : LS) : List Ev := if s.up then [] else [s.ev 1 []]
/-- acknowledged, and taken -/
def LS.take3 (s : LS) (f : Fr) : LS := { s with up := true, base := ackV s.base s.box f.ack, box := ackL s.base s.box f.ack }
def LS.taken (s : LS) (f : Fr) : Bool := decide (f.kind = 2) && takeB s.got f.seq
def LS.take4 (s : LS) (f : Fr) : LS := if s.taken f then { s with got := f.seq } else s
def LS.take4E (s : LS) (f : Fr) : List Ev := if s.taken f then [s.ev 3 f.body] else []
def LS.fresh (s : LS) (last : Nat) : List (Nat × List UInt8) := s.due.filter fun x => decide (last < x.1)
def LS.helloBack (s : LS) (f : Fr) : Bool := decide (f.kind = 2) || !s.up
/-- what it is behind a frame that knows it, and what it answers -/
def LS.take5 (s : LS) (now : Nat) (f : Fr) : LS := let t := (s.take3 f).take4 f; if t.fresh s.last = [] ∨ t.base ≤ s.base then t else { t with sent := now }
def LS.take5F (s : LS) (f : Fr) : List Fr := let t := (s.take3 f).take4 f; (if t.base ≤ s.base then [] else (t.fresh s.last).map t.data) ++ if s.helloBack f then [t.hello] else []
def LS.take (s : LS) (now : Nat) (f : Fr) : LS := if s.looks f then (let t := s.take1 now f; if t.knows f then t.take5 now f else t) else s
def LS.takeF (s : LS) (now : Nat) (f : Fr) : List Fr := if s.looks f then (let t := s.take1 now f; if t.knows f then t.take5F f else [t.hello]) else []
def LS.takeE (s : LS) (now : Nat) (f : Fr) : List Ev := if s.looks f then (let t := s.take1 now f; s.take1E f ++ if t.knows f then t.take2E ++ (t.take3 f).take4E f else []) else []

/-- a body is sent -/
def LS.sendE (s : LS) (b : List UInt8) : Nat := if s.up then pushE s.base s.box b else 7
def LS.send (s : LS) (now : Nat) (b : List UInt8) : LS := if s.sendE b = 0 then { s with box := s.box ++ [b], sent := if s.box.length = 0 then now else s.sent } else s
def LS.sendF (s : LS) (b : List UInt8) : List Fr := if s.sendE b = 0 ∧ s.box.length < 8 then [s.data (s.base + (s.box.length + 1), b)] else []
theorem LS.tick1_no {s : LS} {now : Nat} (h : (s.up && decide (4 ≤ ticks now s.heard)) = false) : s.tick1 now = s ∧ s.tickE now = [] := by simp [LS.tick1, LS.tickE, h]
theorem LS.tick1_yes {s : LS} {now : Nat} (h : (s.up && decide (4 ≤ ticks now s.heard)) = true) : s.tick1 now = { s.down with conn := s.conn + 1 } ∧ s.tickE now = [s.ev 2 []] := by simp only [LS.tick1, LS.tickE, h]; exact ⟨rfl, rfl⟩
theorem LS.Num.tick1 {s : LS} (h : s.Num) (now : Nat) : (s.tick1 now).Num := by
 unfold LS.tick1; split
 ·exact ⟨h.sn, h.down.base, h.down.box, h.down.bodies, h.down.got, h.heard, h.sent⟩
 ·exact h
theorem LS.Num.tick {s : LS} (h : s.Num) {now : Nat} (hn : now < 18446744073709551616) : (s.tick now).Num := by
 have h1 := h.tick1 now; unfold LS.tick; simp only; split
 ·exact ⟨h1.sn, h1.base, h1.box, h1.bodies, h1.got, h1.heard, hn⟩
 ·exact h1
theorem LS.Num.turn {s : LS} (h : s.Num) (f : Fr) : (s.turn f).Num := by
 unfold LS.turn; split
 ·exact ⟨h.sn, h.down.base, h.down.box, h.down.bodies, h.down.got, h.heard, h.sent⟩
 ·exact h
theorem LS.Num.take1 {s : LS} (h : s.Num) {now : Nat} (hn : now < 18446744073709551616) (f : Fr) : (s.take1 now f).Num := by
 have h1 := h.turn f; exact ⟨h1.sn, h1.base, h1.box, h1.bodies, h1.got, hn, h1.sent⟩
theorem LS.Num.take3 {s : LS} (h : s.Num) (f : Fr) : (s.take3 f).Num := by
 have hb := h.base
 by_cases ha : ackB s.base s.box f.ack = true
 ·have ha2 := ha; simp only [ackB, Bool.and_eq_true, decide_eq_true_eq] at ha2; obtain ⟨e1, e2⟩ := ack_yes ha; have hl : (s.take3 f).box = s.box.drop (f.ack - s.base) := e1; have hv : (s.take3 f).base = f.ack := e2; refine ⟨h.sn, ?_, ?_, ?_, h.got, h.heard, h.sent⟩
  ·rw [hl, hv, List.length_drop]; omega
  ·rw [hl, List.length_drop]; have := h.box; omega
  ·rw [hl]; exact fun l hl => h.bodies l (List.mem_of_mem_drop hl)
 ·simp only [Bool.not_eq_true] at ha; obtain ⟨e1, e2⟩ := ack_no ha; have hl : (s.take3 f).box = s.box := e1; have hv : (s.take3 f).base = s.base := e2; exact ⟨h.sn, by rw [hl, hv]; exact hb, by rw [hl]; exact h.box, by rw [hl]; exact h.bodies, h.got, h.heard, h.sent⟩
theorem LS.Num.take4 {s : LS} (h : s.Num) (f : Fr) : (s.take4 f).Num := by
 unfold LS.take4; split
 ·rename_i ht
  simp only [LS.taken, takeB, Bool.and_eq_true, decide_eq_true_eq] at ht; exact ⟨h.sn, h.base, h.box, h.bodies, ht.2.1.2, h.heard, h.sent⟩
 ·exact h
theorem LS.Num.take {s : LS} (h : s.Num) {now : Nat} (hn : now < 18446744073709551616) (f : Fr) : (s.take now f).Num := by
 have h1 := h.take1 hn f; have h4 := (h1.take3 f).take4 f; unfold LS.take; simp only; split
 ·split
  ·unfold LS.take5; simp only; split
   ·exact h4
   ·exact ⟨h4.sn, h4.base, h4.box, h4.bodies, h4.got, h4.heard, hn⟩
  ·exact h1
 ·exact h
theorem mayB_len {kind fr tt : Int} {inc conn pinc pconn ack seq n : Nat} (h : mayB kind fr tt inc conn pinc pconn ack seq n = true) : n ≤ 448 := by
 unfold mayB at h; have := of_decide_eq_true h; omega
theorem map_items {α : Type} {base : Nat} {LT : List (List UInt8)} {xs : List It} (h : AtI base LT LT.length xs) (f : Nat × List UInt8 → α) : xs.map (fun y => f (prI y)) = (items base LT).map f := by
 have e : xs.map prI = items base LT := by rw [h, List.take_of_length_le (by rw [items_len]; exact Nat.le_refl _)]
 rw [← e, List.map_map]; rfl
end Go.Proofs.Ytngegjboenfmeaa
/- The document's link: a frame, an event is answered; what was answered. -/
namespace Go.Proofs.Ytngegjboenfmeaa
open Go Go.RowKit
set_option linter.unusedVariables false
set_option maxRecDepth 100000
set_option linter.unusedSimpArgs false

set_option maxHeartbeats 3200000 in
theorem refSendC {w0 w : World} {Qs : List SP} {conn inc known base got heard sent si q : Nat} {sn peer : Int} {up : Bool} {bx vF vE : Value} {n : Nat} {xs : List Value} {kk ffr fto : Int} {finc fconn pinc pconn fack fseq : Nat} {FB : Option Addr} {fn fc : Nat} (h : Sep w0 w (Ce q 109 #[.int .i64 sn, .int .u64 (si : Int), .int .i64 peer, .int .u64 (conn : Int), .int .u64 (inc : Int), .int .u64 (known : Int), .bool up, .int .u64 (base : Int), bx, .int .u64 (got : Int), .int .u64 (heard : Int), .int .u64 (sent : Int), vF, vE] :: Rw 51 10 vF n xs :: Qs)) (hn : n ≤ 1000000) :
  Calls Try.prog 64 #[.pointer (some ⟨q, 0, none⟩), .agg #[.int .i64 kk, .int .i64 ffr, .int .i64 fto, .int .u64 (finc : Int), .int .u64 (fconn : Int), .int .u64 (pinc : Int), .int .u64 (pconn : Int), .int .u64 (fack : Int), .int .u64 (fseq : Int), .slice FB fn fc]] w fun e w' => e = .returned (.tuple #[]) ∧ ∃ vF, Sep w0 w' (Ce q 109 #[.int .i64 sn, .int .u64 (si : Int), .int .i64 peer, .int .u64 (conn : Int), .int .u64 (inc : Int), .int .u64 (known : Int), .bool up, .int .u64 (base : Int), bx, .int .u64 (got : Int), .int .u64 (heard : Int), .int .u64 (sent : Int), vF, vE] :: Rw 51 10 vF (n + 1) (xs ++ [.int .i64 kk, .int .i64 ffr, .int .i64 fto, .int .u64 (finc : Int), .int .u64 (fconn : Int), .int .u64 (pinc : Int), .int .u64 (pconn : Int), .int .u64 (fack : Int), .int .u64 (fseq : Int), .slice FB fn fc]) :: Qs) := by
 obtain ⟨r, Hr⟩ : ∃ x, Hid (w.heap.size = x) := ⟨_, Lib.hid rfl⟩; obtain ⟨hx, HXS⟩ : ∃ l, Hid ((#[.int .i64 kk, .int .i64 ffr, .int .i64 fto, .int .u64 (finc : Int), .int .u64 (fconn : Int), .int .u64 (pinc : Int), .int .u64 (pconn : Int), .int .u64 (fack : Int), .int .u64 (fseq : Int), .slice FB fn fc] : Array Value).toList = l) := ⟨_, Lib.hid rfl⟩; have HX1 : Hid (∀ u ∈ hx, u.oneCell' = true) := Lib.hid (by
  rw [← HXS.out]; intro u hu; simp only [List.mem_cons, List.not_mem_nil, or_false] at hu
  rcases hu with rfl | rfl | rfl | rfl | rfl | rfl | rfl | rfl | rfl | rfl <;> rfl)
 have HS0 : Hid (Sep w0 ((w.alloc (.cells #[.int .i64 kk, .int .i64 ffr, .int .i64 fto, .int .u64 (finc : Int), .int .u64 (fconn : Int), .int .u64 (pinc : Int), .int .u64 (pconn : Int), .int .u64 (fack : Int), .int .u64 (fseq : Int), .slice FB fn fc] 51))) (Ce q 109 #[.int .i64 sn, .int .u64 (si : Int), .int .i64 peer, .int .u64 (conn : Int), .int .u64 (inc : Int), .int .u64 (known : Int), .bool up, .int .u64 (base : Int), bx, .int .u64 (got : Int), .int .u64 (heard : Int), .int .u64 (sent : Int), vF, vE] :: Rw 51 10 vF n xs :: Ce r 51 #[.int .i64 kk, .int .i64 ffr, .int .i64 fto, .int .u64 (finc : Int), .int .u64 (fconn : Int), .int .u64 (pinc : Int), .int .u64 (pconn : Int), .int .u64 (fack : Int), .int .u64 (fseq : Int), .slice FB fn fc] :: Qs)) := Lib.hid (by
  have h1 := sep_ceF h #[.int .i64 kk, .int .i64 ffr, .int .i64 fto, .int .u64 (finc : Int), .int .u64 (fconn : Int), .int .u64 (pinc : Int), .int .u64 (pconn : Int), .int .u64 (fack : Int), .int .u64 (fseq : Int), .slice FB fn fc] 51; rw [Hr.out] at h1; exact (h1.tF 1 rfl).tF 2 rfl |> fun h => h.tF 1 rfl)
 have HKO : ∀ (dn : Nat → Bool) (xv : Nat → Value) (W : World), (if dn 12 = true then ∃ vF, Sep w0 W (Ce q 109 #[.int .i64 sn, .int .u64 (si : Int), .int .i64 peer, .int .u64 (conn : Int), .int .u64 (inc : Int), .int .u64 (known : Int), .bool up, .int .u64 (base : Int), bx, .int .u64 (got : Int), .int .u64 (heard : Int), .int .u64 (sent : Int), vF, vE] :: Rw 51 10 vF (n + 1) (xs ++ hx) :: Ce r 51 #[.int .i64 kk, .int .i64 ffr, .int .i64 fto, .int .u64 (finc : Int), .int .u64 (fconn : Int), .int .u64 (pinc : Int), .int .u64 (pconn : Int), .int .u64 (fack : Int), .int .u64 (fseq : Int), .slice FB fn fc] :: Qs) else if dn 8 = true then Sep w0 W (Ce q 109 #[.int .i64 sn, .int .u64 (si : Int), .int .i64 peer, .int .u64 (conn : Int), .int .u64 (inc : Int), .int .u64 (known : Int), .bool up, .int .u64 (base : Int), bx, .int .u64 (got : Int), .int .u64 (heard : Int), .int .u64 (sent : Int), vF, vE] :: Rw 51 10 (xv 8) (n + 1) (xs ++ hx) :: Ce r 51 #[.int .i64 kk, .int .i64 ffr, .int .i64 fto, .int .u64 (finc : Int), .int .u64 (fconn : Int), .int .u64 (pinc : Int), .int .u64 (pconn : Int), .int .u64 (fack : Int), .int .u64 (fseq : Int), .slice FB fn fc] :: Qs) else if dn 7 = true then Sep w0 W (Ce q 109 #[.int .i64 sn, .int .u64 (si : Int), .int .i64 peer, .int .u64 (conn : Int), .int .u64 (inc : Int), .int .u64 (known : Int), .bool up, .int .u64 (base : Int), bx, .int .u64 (got : Int), .int .u64 (heard : Int), .int .u64 (sent : Int), vF, vE] :: Rw 51 10 vF n xs :: Ce r 51 #[.int .i64 kk, .int .i64 ffr, .int .i64 fto, .int .u64 (finc : Int), .int .u64 (fconn : Int), .int .u64 (pinc : Int), .int .u64 (pconn : Int), .int .u64 (fack : Int), .int .u64 (fseq : Int), .slice FB fn fc] :: Qs) ∧ OneF hx (xv 7) W else Sep w0 W (Ce q 109 #[.int .i64 sn, .int .u64 (si : Int), .int .i64 peer, .int .u64 (conn : Int), .int .u64 (inc : Int), .int .u64 (known : Int), .bool up, .int .u64 (base : Int), bx, .int .u64 (got : Int), .int .u64 (heard : Int), .int .u64 (sent : Int), vF, vE] :: Rw 51 10 vF n xs :: Ce r 51 #[.int .i64 kk, .int .i64 ffr, .int .i64 fto, .int .u64 (finc : Int), .int .u64 (fconn : Int), .int .u64 (pinc : Int), .int .u64 (pconn : Int), .int .u64 (fack : Int), .int .u64 (fseq : Int), .slice FB fn fc] :: Qs)) → dn 12 = false → W.cell? ⟨q, 12, none⟩ = some vF := fun dn xv W h h0 => by
  rw [if_neg (by simp [h0])] at h; split at h
  ·exact cA (i := 0) h rfl 12 rfl
  split at h
  ·have h := h.1; exact cA (i := 0) h rfl 12 rfl
  exact cA (i := 0) h rfl 12 rfl
 have HKB : ∀ (dn : Nat → Bool) (xv : Nat → Value) (W : World), (if dn 12 = true then ∃ vF, Sep w0 W (Ce q 109 #[.int .i64 sn, .int .u64 (si : Int), .int .i64 peer, .int .u64 (conn : Int), .int .u64 (inc : Int), .int .u64 (known : Int), .bool up, .int .u64 (base : Int), bx, .int .u64 (got : Int), .int .u64 (heard : Int), .int .u64 (sent : Int), vF, vE] :: Rw 51 10 vF (n + 1) (xs ++ hx) :: Ce r 51 #[.int .i64 kk, .int .i64 ffr, .int .i64 fto, .int .u64 (finc : Int), .int .u64 (fconn : Int), .int .u64 (pinc : Int), .int .u64 (pconn : Int), .int .u64 (fack : Int), .int .u64 (fseq : Int), .slice FB fn fc] :: Qs) else if dn 8 = true then Sep w0 W (Ce q 109 #[.int .i64 sn, .int .u64 (si : Int), .int .i64 peer, .int .u64 (conn : Int), .int .u64 (inc : Int), .int .u64 (known : Int), .bool up, .int .u64 (base : Int), bx, .int .u64 (got : Int), .int .u64 (heard : Int), .int .u64 (sent : Int), vF, vE] :: Rw 51 10 (xv 8) (n + 1) (xs ++ hx) :: Ce r 51 #[.int .i64 kk, .int .i64 ffr, .int .i64 fto, .int .u64 (finc : Int), .int .u64 (fconn : Int), .int .u64 (pinc : Int), .int .u64 (pconn : Int), .int .u64 (fack : Int), .int .u64 (fseq : Int), .slice FB fn fc] :: Qs) else if dn 7 = true then Sep w0 W (Ce q 109 #[.int .i64 sn, .int .u64 (si : Int), .int .i64 peer, .int .u64 (conn : Int), .int .u64 (inc : Int), .int .u64 (known : Int), .bool up, .int .u64 (base : Int), bx, .int .u64 (got : Int), .int .u64 (heard : Int), .int .u64 (sent : Int), vF, vE] :: Rw 51 10 vF n xs :: Ce r 51 #[.int .i64 kk, .int .i64 ffr, .int .i64 fto, .int .u64 (finc : Int), .int .u64 (fconn : Int), .int .u64 (pinc : Int), .int .u64 (pconn : Int), .int .u64 (fack : Int), .int .u64 (fseq : Int), .slice FB fn fc] :: Qs) ∧ OneF hx (xv 7) W else Sep w0 W (Ce q 109 #[.int .i64 sn, .int .u64 (si : Int), .int .i64 peer, .int .u64 (conn : Int), .int .u64 (inc : Int), .int .u64 (known : Int), .bool up, .int .u64 (base : Int), bx, .int .u64 (got : Int), .int .u64 (heard : Int), .int .u64 (sent : Int), vF, vE] :: Rw 51 10 vF n xs :: Ce r 51 #[.int .i64 kk, .int .i64 ffr, .int .i64 fto, .int .u64 (finc : Int), .int .u64 (fconn : Int), .int .u64 (pinc : Int), .int .u64 (pconn : Int), .int .u64 (fack : Int), .int .u64 (fseq : Int), .slice FB fn fc] :: Qs)) → W.cell? ⟨r, 0, none⟩ = some (.int .i64 kk) ∧ W.cell? ⟨r, 1, none⟩ = some (.int .i64 ffr) ∧ W.cell? ⟨r, 2, none⟩ = some (.int .i64 fto) ∧ W.cell? ⟨r, 3, none⟩ = some (.int .u64 (finc : Int)) ∧ W.cell? ⟨r, 4, none⟩ = some (.int .u64 (fconn : Int)) ∧ W.cell? ⟨r, 5, none⟩ = some (.int .u64 (pinc : Int)) ∧ W.cell? ⟨r, 6, none⟩ = some (.int .u64 (pconn : Int)) ∧ W.cell? ⟨r, 7, none⟩ = some (.int .u64 (fack : Int)) ∧ W.cell? ⟨r, 8, none⟩ = some (.int .u64 (fseq : Int)) ∧ W.cell? ⟨r, 9, none⟩ = some (.slice FB fn fc) := fun dn xv W h => by
  split at h
  ·obtain ⟨_, h⟩ := h; exact ⟨cA (i := 2) h rfl 0 rfl, cA (i := 2) h rfl 1 rfl, cA (i := 2) h rfl 2 rfl, cA (i := 2) h rfl 3 rfl, cA (i := 2) h rfl 4 rfl, cA (i := 2) h rfl 5 rfl, cA (i := 2) h rfl 6 rfl, cA (i := 2) h rfl 7 rfl, cA (i := 2) h rfl 8 rfl, cA (i := 2) h rfl 9 rfl⟩
  split at h
  ·exact ⟨cA (i := 2) h rfl 0 rfl, cA (i := 2) h rfl 1 rfl, cA (i := 2) h rfl 2 rfl, cA (i := 2) h rfl 3 rfl, cA (i := 2) h rfl 4 rfl, cA (i := 2) h rfl 5 rfl, cA (i := 2) h rfl 6 rfl, cA (i := 2) h rfl 7 rfl, cA (i := 2) h rfl 8 rfl, cA (i := 2) h rfl 9 rfl⟩
  split at h
  ·have h := h.1; exact ⟨cA (i := 2) h rfl 0 rfl, cA (i := 2) h rfl 1 rfl, cA (i := 2) h rfl 2 rfl, cA (i := 2) h rfl 3 rfl, cA (i := 2) h rfl 4 rfl, cA (i := 2) h rfl 5 rfl, cA (i := 2) h rfl 6 rfl, cA (i := 2) h rfl 7 rfl, cA (i := 2) h rfl 8 rfl, cA (i := 2) h rfl 9 rfl⟩
  exact ⟨cA (i := 2) h rfl 0 rfl, cA (i := 2) h rfl 1 rfl, cA (i := 2) h rfl 2 rfl, cA (i := 2) h rfl 3 rfl, cA (i := 2) h rfl 4 rfl, cA (i := 2) h rfl 5 rfl, cA (i := 2) h rfl 6 rfl, cA (i := 2) h rfl 7 rfl, cA (i := 2) h rfl 8 rfl, cA (i := 2) h rfl 9 rfl⟩
 clear h; go_enter Try.func64, Try.ntmps64
 go_wp2_with fail
 rw [Hr.out]; refine wRG (fun dn xv W => if dn 12 = true then ∃ vF, Sep w0 W (Ce q 109 #[.int .i64 sn, .int .u64 (si : Int), .int .i64 peer, .int .u64 (conn : Int), .int .u64 (inc : Int), .int .u64 (known : Int), .bool up, .int .u64 (base : Int), bx, .int .u64 (got : Int), .int .u64 (heard : Int), .int .u64 (sent : Int), vF, vE] :: Rw 51 10 vF (n + 1) (xs ++ hx) :: Ce r 51 #[.int .i64 kk, .int .i64 ffr, .int .i64 fto, .int .u64 (finc : Int), .int .u64 (fconn : Int), .int .u64 (pinc : Int), .int .u64 (pconn : Int), .int .u64 (fack : Int), .int .u64 (fseq : Int), .slice FB fn fc] :: Qs) else if dn 8 = true then Sep w0 W (Ce q 109 #[.int .i64 sn, .int .u64 (si : Int), .int .i64 peer, .int .u64 (conn : Int), .int .u64 (inc : Int), .int .u64 (known : Int), .bool up, .int .u64 (base : Int), bx, .int .u64 (got : Int), .int .u64 (heard : Int), .int .u64 (sent : Int), vF, vE] :: Rw 51 10 (xv 8) (n + 1) (xs ++ hx) :: Ce r 51 #[.int .i64 kk, .int .i64 ffr, .int .i64 fto, .int .u64 (finc : Int), .int .u64 (fconn : Int), .int .u64 (pinc : Int), .int .u64 (pconn : Int), .int .u64 (fack : Int), .int .u64 (fseq : Int), .slice FB fn fc] :: Qs) else if dn 7 = true then Sep w0 W (Ce q 109 #[.int .i64 sn, .int .u64 (si : Int), .int .i64 peer, .int .u64 (conn : Int), .int .u64 (inc : Int), .int .u64 (known : Int), .bool up, .int .u64 (base : Int), bx, .int .u64 (got : Int), .int .u64 (heard : Int), .int .u64 (sent : Int), vF, vE] :: Rw 51 10 vF n xs :: Ce r 51 #[.int .i64 kk, .int .i64 ffr, .int .i64 fto, .int .u64 (finc : Int), .int .u64 (fconn : Int), .int .u64 (pinc : Int), .int .u64 (pconn : Int), .int .u64 (fack : Int), .int .u64 (fseq : Int), .slice FB fn fc] :: Qs) ∧ OneF hx (xv 7) W else Sep w0 W (Ce q 109 #[.int .i64 sn, .int .u64 (si : Int), .int .i64 peer, .int .u64 (conn : Int), .int .u64 (inc : Int), .int .u64 (known : Int), .bool up, .int .u64 (base : Int), bx, .int .u64 (got : Int), .int .u64 (heard : Int), .int .u64 (sent : Int), vF, vE] :: Rw 51 10 vF n xs :: Ce r 51 #[.int .i64 kk, .int .i64 ffr, .int .i64 fto, .int .u64 (finc : Int), .int .u64 (fconn : Int), .int .u64 (pinc : Int), .int .u64 (pconn : Int), .int .u64 (fack : Int), .int .u64 (fseq : Int), .slice FB fn fc] :: Qs)) (fun _ _ => True) [xP_ q 0, xP_ q 0, xP_ q 0, xP_ q 12, xP_ q 12, xV_ vF, xV_ (.agg #[.int .i64 kk, .int .i64 ffr, .int .i64 fto, .int .u64 (finc : Int), .int .u64 (fconn : Int), .int .u64 (pinc : Int), .int .u64 (pconn : Int), .int .u64 (fack : Int), .int .u64 (fseq : Int), .slice FB fn fc]), fun v _ => True, fun v _ => True, xP_ q 0, xP_ q 12, xP_ q 12, fun v _ => True] (fun xv => by simpa using HS0.out.drew) ?_ ?_
 ·refine Ep 1 0 q 0 ?_
  refine Ep 2 0 q 0 ?_
  refine Ee 3 5 1 ?_
  refine Ee 4 6 2 ?_
  refine Ee 5 7 3 ?_
  refine EC 6 rfl (fun g h W F a b c d e H K f => ?_) ?_
  ·have f8 := gE (a 8) (by kernel_rfl) (H 4) (by kernel_rfl); have kk := HKO g h W e (c 12 (uM 8 uE)); clear H c b d a; refine oP rfl ?_; go_simp; exact f.out _ _ rfl trivial e
  refine EC 7 rfl (fun g h W F a b c d e H K f => ?_) ?_
  ·have f3 : F.tmps.getD 3 undef = .pointer (some ⟨r, 0, none⟩) := (a 3).trans (by kernel_rfl); obtain ⟨kb0, kb1, kb2, kb3, kb4, kb5, kb6, kb7, kb8, kb9⟩ := HKB g h W e; clear H c b d a; refine oP rfl ?_; go_simp; exact f.out _ _ rfl trivial e
  refine EC 8 rfl (fun g h W F a b c d e H K f => ?_) ?_
  ·have f10 := gE (a 10) (by kernel_rfl) (H 6) (by kernel_rfl); have q8 := c 8 uE; have q12 := c 12 (uM 8 uE); rw [if_neg (by simp [q12]), if_neg (by simp [q8]), if_neg (by simp [b])] at e; have hS := e; clear e c b d a H; refine oP rfl ?_; have g10 := f10; rw [Array.getD_eq_getD_getElem?] at g10; go_simp; have hb : Below W.heap.size W (W.alloc (.cells #[.int .i64 kk, .int .i64 ffr, .int .i64 fto, .int .u64 (finc : Int), .int .u64 (fconn : Int), .int .u64 (pinc : Int), .int .u64 (pconn : Int), .int .u64 (fack : Int), .int .u64 (fseq : Int), .slice FB fn fc] 51)) := (Below.refl _ _).alloc (Nat.le_refl _) _; have hs : Sep w0 (W.alloc (.cells #[.int .i64 kk, .int .i64 ffr, .int .i64 fto, .int .u64 (finc : Int), .int .u64 (fconn : Int), .int .u64 (pinc : Int), .int .u64 (pconn : Int), .int .u64 (fack : Int), .int .u64 (fseq : Int), .slice FB fn fc] 51)) (Ce q 109 #[.int .i64 sn, .int .u64 (si : Int), .int .i64 peer, .int .u64 (conn : Int), .int .u64 (inc : Int), .int .u64 (known : Int), .bool up, .int .u64 (base : Int), bx, .int .u64 (got : Int), .int .u64 (heard : Int), .int .u64 (sent : Int), vF, vE] :: Rw 51 10 vF n xs :: Ce r 51 #[.int .i64 kk, .int .i64 ffr, .int .i64 fto, .int .u64 (finc : Int), .int .u64 (fconn : Int), .int .u64 (pinc : Int), .int .u64 (pconn : Int), .int .u64 (fack : Int), .int .u64 (fseq : Int), .slice FB fn fc] :: Qs) ∧ OneF hx (.slice (some ⟨W.heap.size, 0, none⟩) 1 1) (W.alloc (.cells #[.int .i64 kk, .int .i64 ffr, .int .i64 fto, .int .u64 (finc : Int), .int .u64 (fconn : Int), .int .u64 (pinc : Int), .int .u64 (pconn : Int), .int .u64 (fack : Int), .int .u64 (fseq : Int), .slice FB fn fc] 51)) := ⟨hS.grow hb, HXS.out ▸ OneF.new W _⟩; exact f.out _ _ trivial trivial (by simpa [upB, upd, q8, q12] using hs)
  refine EC 9 rfl (fun g h W F a b c d e H K f => ?_) ?_
  ·have f9 := gE (a 9) (by kernel_rfl) (H 5) (by kernel_rfl); have f11 : F.tmps.getD 11 undef = h 7 := (a 11).trans (by kernel_rfl); have q7 := (H 7 uE).1; have q12 := c 12 uE; rw [if_neg (by simp [q12]), if_neg (by simp [b]), if_pos q7] at e; have hS := e; clear e c b d a H; refine oP rfl ?_; obtain ⟨s1, A3, c3, e3, hl3, hh3⟩ := hS; have fex := f11.trans e3; refine sep_opAppW rowFrames (i := 1) (s := .tmp 9) (x := .tmp 11) (m := 1) (news := hx) (by rfl) f9 fex s1 rfl (by rw [hl3]) hh3 HX1.out (by unfold maxLen; omega) (by omega) ?_; intro v W' hs0; have hs : Sep w0 W' (Ce q 109 #[.int .i64 sn, .int .u64 (si : Int), .int .i64 peer, .int .u64 (conn : Int), .int .u64 (inc : Int), .int .u64 (known : Int), .bool up, .int .u64 (base : Int), bx, .int .u64 (got : Int), .int .u64 (heard : Int), .int .u64 (sent : Int), vF, vE] :: Rw 51 10 v (n + 1) (xs ++ hx) :: Ce r 51 #[.int .i64 kk, .int .i64 ffr, .int .i64 fto, .int .u64 (finc : Int), .int .u64 (fconn : Int), .int .u64 (pinc : Int), .int .u64 (pconn : Int), .int .u64 (fack : Int), .int .u64 (fseq : Int), .slice FB fn fc] :: Qs) := hs0; exact f.out v W' trivial trivial (by simpa [upB, upd, q12] using hs)
  refine Ee 10 4 0 ?_
  refine Ee 11 13 9 ?_
  refine Ee 12 14 10 ?_
  refine EC 13 rfl (fun g h W F a b c d e H K f => ?_) ?_
  ·have f12 : F.tmps.getD 12 undef = h 8 := (a 12).trans (by kernel_rfl); have f15 := gE (a 15) (by kernel_rfl) (H 11) (by kernel_rfl); have q8 := (H 8 uE).1; rw [if_neg (by simp [b]), if_pos q8] at e; have hS := e; clear e c b d a H; refine oP rfl ?_; obtain ⟨A2, c2, e2, _⟩ := sep_rwForm (i := 1) hS rfl; have hc3 := cA (i := 0) hS rfl 12 rfl; have hf3 := cFz (i := 0) hS rfl 12; rw [e2] at hS; have hs0 := cS (i := 0) hS rfl 12 (.slice A2 (n + 1) c2); have hs : ∃ vF, Sep w0 (W.setCell ⟨q, 12, none⟩ (.slice A2 (n + 1) c2)) (Ce q 109 #[.int .i64 sn, .int .u64 (si : Int), .int .i64 peer, .int .u64 (conn : Int), .int .u64 (inc : Int), .int .u64 (known : Int), .bool up, .int .u64 (base : Int), bx, .int .u64 (got : Int), .int .u64 (heard : Int), .int .u64 (sent : Int), vF, vE] :: Rw 51 10 vF (n + 1) (xs ++ hx) :: Ce r 51 #[.int .i64 kk, .int .i64 ffr, .int .i64 fto, .int .u64 (finc : Int), .int .u64 (fconn : Int), .int .u64 (pinc : Int), .int .u64 (pconn : Int), .int .u64 (fack : Int), .int .u64 (fseq : Int), .slice FB fn fc] :: Qs) := ⟨_, hs0⟩; clear hs0; go_simp; exact f.out undef _ trivial trivial (by simpa [upB, upd] using hs)
  exact EN
 ·intro dn xv W hI H; have qe : dn 12 = true := (H 12 (of_decide_eq_true (by kernel_rfl))).1; rw [if_pos qe] at hI; have hS := hI; clear H hI qe; simp only [putAll, Act.put, List.setIfInBounds_toArray, List.set_cons_zero, List.set_cons_succ, Nat.reduceAdd]; obtain ⟨vF', hS⟩ := hS; have HS1 := Lib.hid hS; clear hS
  go_wp2_with fail
  go_end0
  exact ⟨rfl, vF', by
   have h2 := HS1.out.drop 2; rw [← HXS.out] at h2; exact h2⟩
theorem one_ev (kind peer : Int) (inc : Nat) (A : Option Addr) (n c : Nat) : ∀ u ∈ ([.int .i64 kind, .int .i64 peer, .int .u64 (inc : Int), .slice A n c] : List Value), u.oneCell' = true := by
 intro u hu; simp only [List.mem_cons, List.not_mem_nil, or_false] at hu
 rcases hu with rfl | rfl | rfl | rfl <;> rfl
set_option maxHeartbeats 6400000 in
theorem refTellC {w0 w : World} {Qs : List SP} {X : SP} {conn inc known base got heard sent si q : Nat} {sn peer : Int} {up : Bool} {bx vF vE : Value} {m : Nat} {ys : List Value} (kind : Int) {BA : Option Addr} {bc : Nat} {body : List UInt8} (h : Sep w0 w (Ce q 109 #[.int .i64 sn, .int .u64 (si : Int), .int .i64 peer, .int .u64 (conn : Int), .int .u64 (inc : Int), .int .u64 (known : Int), .bool up, .int .u64 (base : Int), bx, .int .u64 (got : Int), .int .u64 (heard : Int), .int .u64 (sent : Int), vF, vE] :: Rw 49 4 vE m ys :: X :: Qs)) (hX : Reads X BA body) (hm : m ≤ 1000000) (hb : body.length ≤ 1000000) :
  Calls Try.prog 67 #[.pointer (some ⟨q, 0, none⟩), .int .i64 kind, .slice BA body.length bc] w fun e w' => e = .returned (.tuple #[]) ∧ ∃ u vE, Sep w0 w' (Ce q 109 #[.int .i64 sn, .int .u64 (si : Int), .int .i64 peer, .int .u64 (conn : Int), .int .u64 (inc : Int), .int .u64 (known : Int), .bool up, .int .u64 (base : Int), bx, .int .u64 (got : Int), .int .u64 (heard : Int), .int .u64 (sent : Int), vF, vE] :: Rw 49 4 vE (m + 1) (ys ++ [.int .i64 kind, .int .i64 peer, .int .u64 (inc : Int), u]) :: By u body :: X :: Qs) := by
 have HS0 := Lib.hid h; have HRD := Lib.hid hX; have HKE : ∀ (dn : Nat → Bool) (xv : Nat → Value) (W : World), (if dn 25 = true then ∃ p : Value × Value, Sep w0 W (Ce q 109 #[.int .i64 sn, .int .u64 (si : Int), .int .i64 peer, .int .u64 (conn : Int), .int .u64 (inc : Int), .int .u64 (known : Int), .bool up, .int .u64 (base : Int), bx, .int .u64 (got : Int), .int .u64 (heard : Int), .int .u64 (sent : Int), vF, p.2] :: Rw 49 4 p.2 (m + 1) (ys ++ [.int .i64 kind, .int .i64 peer, .int .u64 (inc : Int), p.1]) :: By p.1 body :: X :: Qs) else if dn 21 = true then Sep w0 W (Ce q 109 #[.int .i64 sn, .int .u64 (si : Int), .int .i64 peer, .int .u64 (conn : Int), .int .u64 (inc : Int), .int .u64 (known : Int), .bool up, .int .u64 (base : Int), bx, .int .u64 (got : Int), .int .u64 (heard : Int), .int .u64 (sent : Int), vF, vE] :: Rw 49 4 (xv 21) (m + 1) (ys ++ [.int .i64 kind, .int .i64 peer, .int .u64 (inc : Int), (xv 18)]) :: By (xv 18) body :: X :: Qs) else if dn 20 = true then Sep w0 W (Ce q 109 #[.int .i64 sn, .int .u64 (si : Int), .int .i64 peer, .int .u64 (conn : Int), .int .u64 (inc : Int), .int .u64 (known : Int), .bool up, .int .u64 (base : Int), bx, .int .u64 (got : Int), .int .u64 (heard : Int), .int .u64 (sent : Int), vF, vE] :: Rw 49 4 vE m ys :: By (xv 18) body :: X :: Qs) ∧ OneE [.int .i64 kind, .int .i64 peer, .int .u64 (inc : Int), (xv 18)] (xv 20) W else if dn 19 = true then Sep w0 W (Ce q 109 #[.int .i64 sn, .int .u64 (si : Int), .int .i64 peer, .int .u64 (conn : Int), .int .u64 (inc : Int), .int .u64 (known : Int), .bool up, .int .u64 (base : Int), bx, .int .u64 (got : Int), .int .u64 (heard : Int), .int .u64 (sent : Int), vF, vE] :: Rw 49 4 vE m ys :: By (xv 18) body :: X :: Qs) ∧ xv 19 = .agg #[.int .i64 kind, .int .i64 peer, .int .u64 (inc : Int), (xv 18)] else if dn 18 = true then Sep w0 W (Ce q 109 #[.int .i64 sn, .int .u64 (si : Int), .int .i64 peer, .int .u64 (conn : Int), .int .u64 (inc : Int), .int .u64 (known : Int), .bool up, .int .u64 (base : Int), bx, .int .u64 (got : Int), .int .u64 (heard : Int), .int .u64 (sent : Int), vF, vE] :: Rw 49 4 vE m ys :: By (xv 18) body :: X :: Qs) else if dn 16 = true then Sep w0 W (Ce q 109 #[.int .i64 sn, .int .u64 (si : Int), .int .i64 peer, .int .u64 (conn : Int), .int .u64 (inc : Int), .int .u64 (known : Int), .bool up, .int .u64 (base : Int), bx, .int .u64 (got : Int), .int .u64 (heard : Int), .int .u64 (sent : Int), vF, vE] :: Rw 49 4 vE m ys :: By (xv 16) [] :: X :: Qs) else Sep w0 W (Ce q 109 #[.int .i64 sn, .int .u64 (si : Int), .int .i64 peer, .int .u64 (conn : Int), .int .u64 (inc : Int), .int .u64 (known : Int), .bool up, .int .u64 (base : Int), bx, .int .u64 (got : Int), .int .u64 (heard : Int), .int .u64 (sent : Int), vF, vE] :: Rw 49 4 vE m ys :: X :: Qs)) → dn 25 = false → W.cell? ⟨q, 13, none⟩ = some (vE) := fun dn xv W h h0 => by
  rw [if_neg (by simp [h0])] at h; split at h
  ·exact cA (i := 0) h rfl 13 rfl
  split at h
  ·have h := h.1; exact cA (i := 0) h rfl 13 rfl
  split at h
  ·have h := h.1; exact cA (i := 0) h rfl 13 rfl
  split at h
  ·exact cA (i := 0) h rfl 13 rfl
  split at h
  ·exact cA (i := 0) h rfl 13 rfl
  exact cA (i := 0) h rfl 13 rfl
 have HKP : ∀ (dn : Nat → Bool) (xv : Nat → Value) (W : World), (if dn 25 = true then ∃ p : Value × Value, Sep w0 W (Ce q 109 #[.int .i64 sn, .int .u64 (si : Int), .int .i64 peer, .int .u64 (conn : Int), .int .u64 (inc : Int), .int .u64 (known : Int), .bool up, .int .u64 (base : Int), bx, .int .u64 (got : Int), .int .u64 (heard : Int), .int .u64 (sent : Int), vF, p.2] :: Rw 49 4 p.2 (m + 1) (ys ++ [.int .i64 kind, .int .i64 peer, .int .u64 (inc : Int), p.1]) :: By p.1 body :: X :: Qs) else if dn 21 = true then Sep w0 W (Ce q 109 #[.int .i64 sn, .int .u64 (si : Int), .int .i64 peer, .int .u64 (conn : Int), .int .u64 (inc : Int), .int .u64 (known : Int), .bool up, .int .u64 (base : Int), bx, .int .u64 (got : Int), .int .u64 (heard : Int), .int .u64 (sent : Int), vF, vE] :: Rw 49 4 (xv 21) (m + 1) (ys ++ [.int .i64 kind, .int .i64 peer, .int .u64 (inc : Int), (xv 18)]) :: By (xv 18) body :: X :: Qs) else if dn 20 = true then Sep w0 W (Ce q 109 #[.int .i64 sn, .int .u64 (si : Int), .int .i64 peer, .int .u64 (conn : Int), .int .u64 (inc : Int), .int .u64 (known : Int), .bool up, .int .u64 (base : Int), bx, .int .u64 (got : Int), .int .u64 (heard : Int), .int .u64 (sent : Int), vF, vE] :: Rw 49 4 vE m ys :: By (xv 18) body :: X :: Qs) ∧ OneE [.int .i64 kind, .int .i64 peer, .int .u64 (inc : Int), (xv 18)] (xv 20) W else if dn 19 = true then Sep w0 W (Ce q 109 #[.int .i64 sn, .int .u64 (si : Int), .int .i64 peer, .int .u64 (conn : Int), .int .u64 (inc : Int), .int .u64 (known : Int), .bool up, .int .u64 (base : Int), bx, .int .u64 (got : Int), .int .u64 (heard : Int), .int .u64 (sent : Int), vF, vE] :: Rw 49 4 vE m ys :: By (xv 18) body :: X :: Qs) ∧ xv 19 = .agg #[.int .i64 kind, .int .i64 peer, .int .u64 (inc : Int), (xv 18)] else if dn 18 = true then Sep w0 W (Ce q 109 #[.int .i64 sn, .int .u64 (si : Int), .int .i64 peer, .int .u64 (conn : Int), .int .u64 (inc : Int), .int .u64 (known : Int), .bool up, .int .u64 (base : Int), bx, .int .u64 (got : Int), .int .u64 (heard : Int), .int .u64 (sent : Int), vF, vE] :: Rw 49 4 vE m ys :: By (xv 18) body :: X :: Qs) else if dn 16 = true then Sep w0 W (Ce q 109 #[.int .i64 sn, .int .u64 (si : Int), .int .i64 peer, .int .u64 (conn : Int), .int .u64 (inc : Int), .int .u64 (known : Int), .bool up, .int .u64 (base : Int), bx, .int .u64 (got : Int), .int .u64 (heard : Int), .int .u64 (sent : Int), vF, vE] :: Rw 49 4 vE m ys :: By (xv 16) [] :: X :: Qs) else Sep w0 W (Ce q 109 #[.int .i64 sn, .int .u64 (si : Int), .int .i64 peer, .int .u64 (conn : Int), .int .u64 (inc : Int), .int .u64 (known : Int), .bool up, .int .u64 (base : Int), bx, .int .u64 (got : Int), .int .u64 (heard : Int), .int .u64 (sent : Int), vF, vE] :: Rw 49 4 vE m ys :: X :: Qs)) → dn 25 = false → W.cell? ⟨q, 2, none⟩ = some (.int .i64 peer) := fun dn xv W h h0 => by
  rw [if_neg (by simp [h0])] at h; split at h
  ·exact cA (i := 0) h rfl 2 rfl
  split at h
  ·have h := h.1; exact cA (i := 0) h rfl 2 rfl
  split at h
  ·have h := h.1; exact cA (i := 0) h rfl 2 rfl
  split at h
  ·exact cA (i := 0) h rfl 2 rfl
  split at h
  ·exact cA (i := 0) h rfl 2 rfl
  exact cA (i := 0) h rfl 2 rfl
 have HKI : ∀ (dn : Nat → Bool) (xv : Nat → Value) (W : World), (if dn 25 = true then ∃ p : Value × Value, Sep w0 W (Ce q 109 #[.int .i64 sn, .int .u64 (si : Int), .int .i64 peer, .int .u64 (conn : Int), .int .u64 (inc : Int), .int .u64 (known : Int), .bool up, .int .u64 (base : Int), bx, .int .u64 (got : Int), .int .u64 (heard : Int), .int .u64 (sent : Int), vF, p.2] :: Rw 49 4 p.2 (m + 1) (ys ++ [.int .i64 kind, .int .i64 peer, .int .u64 (inc : Int), p.1]) :: By p.1 body :: X :: Qs) else if dn 21 = true then Sep w0 W (Ce q 109 #[.int .i64 sn, .int .u64 (si : Int), .int .i64 peer, .int .u64 (conn : Int), .int .u64 (inc : Int), .int .u64 (known : Int), .bool up, .int .u64 (base : Int), bx, .int .u64 (got : Int), .int .u64 (heard : Int), .int .u64 (sent : Int), vF, vE] :: Rw 49 4 (xv 21) (m + 1) (ys ++ [.int .i64 kind, .int .i64 peer, .int .u64 (inc : Int), (xv 18)]) :: By (xv 18) body :: X :: Qs) else if dn 20 = true then Sep w0 W (Ce q 109 #[.int .i64 sn, .int .u64 (si : Int), .int .i64 peer, .int .u64 (conn : Int), .int .u64 (inc : Int), .int .u64 (known : Int), .bool up, .int .u64 (base : Int), bx, .int .u64 (got : Int), .int .u64 (heard : Int), .int .u64 (sent : Int), vF, vE] :: Rw 49 4 vE m ys :: By (xv 18) body :: X :: Qs) ∧ OneE [.int .i64 kind, .int .i64 peer, .int .u64 (inc : Int), (xv 18)] (xv 20) W else if dn 19 = true then Sep w0 W (Ce q 109 #[.int .i64 sn, .int .u64 (si : Int), .int .i64 peer, .int .u64 (conn : Int), .int .u64 (inc : Int), .int .u64 (known : Int), .bool up, .int .u64 (base : Int), bx, .int .u64 (got : Int), .int .u64 (heard : Int), .int .u64 (sent : Int), vF, vE] :: Rw 49 4 vE m ys :: By (xv 18) body :: X :: Qs) ∧ xv 19 = .agg #[.int .i64 kind, .int .i64 peer, .int .u64 (inc : Int), (xv 18)] else if dn 18 = true then Sep w0 W (Ce q 109 #[.int .i64 sn, .int .u64 (si : Int), .int .i64 peer, .int .u64 (conn : Int), .int .u64 (inc : Int), .int .u64 (known : Int), .bool up, .int .u64 (base : Int), bx, .int .u64 (got : Int), .int .u64 (heard : Int), .int .u64 (sent : Int), vF, vE] :: Rw 49 4 vE m ys :: By (xv 18) body :: X :: Qs) else if dn 16 = true then Sep w0 W (Ce q 109 #[.int .i64 sn, .int .u64 (si : Int), .int .i64 peer, .int .u64 (conn : Int), .int .u64 (inc : Int), .int .u64 (known : Int), .bool up, .int .u64 (base : Int), bx, .int .u64 (got : Int), .int .u64 (heard : Int), .int .u64 (sent : Int), vF, vE] :: Rw 49 4 vE m ys :: By (xv 16) [] :: X :: Qs) else Sep w0 W (Ce q 109 #[.int .i64 sn, .int .u64 (si : Int), .int .i64 peer, .int .u64 (conn : Int), .int .u64 (inc : Int), .int .u64 (known : Int), .bool up, .int .u64 (base : Int), bx, .int .u64 (got : Int), .int .u64 (heard : Int), .int .u64 (sent : Int), vF, vE] :: Rw 49 4 vE m ys :: X :: Qs)) → dn 25 = false → W.cell? ⟨q, 4, none⟩ = some (.int .u64 (inc : Int)) := fun dn xv W h h0 => by
  rw [if_neg (by simp [h0])] at h; split at h
  ·exact cA (i := 0) h rfl 4 rfl
  split at h
  ·have h := h.1; exact cA (i := 0) h rfl 4 rfl
  split at h
  ·have h := h.1; exact cA (i := 0) h rfl 4 rfl
  split at h
  ·exact cA (i := 0) h rfl 4 rfl
  split at h
  ·exact cA (i := 0) h rfl 4 rfl
  exact cA (i := 0) h rfl 4 rfl
 clear h hX; go_enter Try.func67, Try.ntmps67
 go_wp2_with fail
 refine wRG (fun dn xv W => if dn 25 = true then ∃ p : Value × Value, Sep w0 W (Ce q 109 #[.int .i64 sn, .int .u64 (si : Int), .int .i64 peer, .int .u64 (conn : Int), .int .u64 (inc : Int), .int .u64 (known : Int), .bool up, .int .u64 (base : Int), bx, .int .u64 (got : Int), .int .u64 (heard : Int), .int .u64 (sent : Int), vF, p.2] :: Rw 49 4 p.2 (m + 1) (ys ++ [.int .i64 kind, .int .i64 peer, .int .u64 (inc : Int), p.1]) :: By p.1 body :: X :: Qs) else if dn 21 = true then Sep w0 W (Ce q 109 #[.int .i64 sn, .int .u64 (si : Int), .int .i64 peer, .int .u64 (conn : Int), .int .u64 (inc : Int), .int .u64 (known : Int), .bool up, .int .u64 (base : Int), bx, .int .u64 (got : Int), .int .u64 (heard : Int), .int .u64 (sent : Int), vF, vE] :: Rw 49 4 (xv 21) (m + 1) (ys ++ [.int .i64 kind, .int .i64 peer, .int .u64 (inc : Int), (xv 18)]) :: By (xv 18) body :: X :: Qs) else if dn 20 = true then Sep w0 W (Ce q 109 #[.int .i64 sn, .int .u64 (si : Int), .int .i64 peer, .int .u64 (conn : Int), .int .u64 (inc : Int), .int .u64 (known : Int), .bool up, .int .u64 (base : Int), bx, .int .u64 (got : Int), .int .u64 (heard : Int), .int .u64 (sent : Int), vF, vE] :: Rw 49 4 vE m ys :: By (xv 18) body :: X :: Qs) ∧ OneE [.int .i64 kind, .int .i64 peer, .int .u64 (inc : Int), (xv 18)] (xv 20) W else if dn 19 = true then Sep w0 W (Ce q 109 #[.int .i64 sn, .int .u64 (si : Int), .int .i64 peer, .int .u64 (conn : Int), .int .u64 (inc : Int), .int .u64 (known : Int), .bool up, .int .u64 (base : Int), bx, .int .u64 (got : Int), .int .u64 (heard : Int), .int .u64 (sent : Int), vF, vE] :: Rw 49 4 vE m ys :: By (xv 18) body :: X :: Qs) ∧ xv 19 = .agg #[.int .i64 kind, .int .i64 peer, .int .u64 (inc : Int), (xv 18)] else if dn 18 = true then Sep w0 W (Ce q 109 #[.int .i64 sn, .int .u64 (si : Int), .int .i64 peer, .int .u64 (conn : Int), .int .u64 (inc : Int), .int .u64 (known : Int), .bool up, .int .u64 (base : Int), bx, .int .u64 (got : Int), .int .u64 (heard : Int), .int .u64 (sent : Int), vF, vE] :: Rw 49 4 vE m ys :: By (xv 18) body :: X :: Qs) else if dn 16 = true then Sep w0 W (Ce q 109 #[.int .i64 sn, .int .u64 (si : Int), .int .i64 peer, .int .u64 (conn : Int), .int .u64 (inc : Int), .int .u64 (known : Int), .bool up, .int .u64 (base : Int), bx, .int .u64 (got : Int), .int .u64 (heard : Int), .int .u64 (sent : Int), vF, vE] :: Rw 49 4 vE m ys :: By (xv 16) [] :: X :: Qs) else Sep w0 W (Ce q 109 #[.int .i64 sn, .int .u64 (si : Int), .int .i64 peer, .int .u64 (conn : Int), .int .u64 (inc : Int), .int .u64 (known : Int), .bool up, .int .u64 (base : Int), bx, .int .u64 (got : Int), .int .u64 (heard : Int), .int .u64 (sent : Int), vF, vE] :: Rw 49 4 vE m ys :: X :: Qs)) (fun _ _ => True) [xP_ q 0, xP_ q 0, xP_ q 0, xP_ q 12, xP_ q 13, xV_ vE, xV_ (.int .i64 kind), xP_ q 0, xP_ q 0, xP_ q 2, xV_ (.int .i64 peer), xP_ q 0, xP_ q 0, xP_ q 4, xV_ (.int .u64 (inc : Int)), xV_ (.agg #[.int .i64 peer, .int .u64 (inc : Int)]), fun v _ => True, xV_ (.slice BA body.length bc), fun v _ => True, fun v _ => True, fun v _ => True, fun v _ => True, xP_ q 0, xP_ q 12, xP_ q 13, fun v _ => True] (fun xv => HS0.out.drew) ?_ ?_
 ·refine Ep 1 0 q 0 ?_
  refine Ep 2 0 q 0 ?_
  refine Ee 3 7 1 ?_
  refine Ee 4 8 2 ?_
  refine Ee 5 9 3 ?_
  refine EC 6 rfl (fun g h W F a b c d e H K f => ?_) ?_
  ·have f10 := gE (a 10) (by kernel_rfl) (H 4) (by kernel_rfl); have kk := HKE g h W e (c 25 (uM 21 uE)); clear H c b d a; refine oP rfl ?_; go_simp; exact f.out _ _ rfl trivial e
  refine Ei 7 1 (.int .i64 kind) ?_
  refine Ep 8 0 q 0 ?_
  refine Ee 9 13 7 ?_
  refine Ee 10 14 8 ?_
  refine EC 11 rfl (fun g h W F a b c d e H K f => ?_) ?_
  ·have f15 := gE (a 15) (by kernel_rfl) (H 9) (by kernel_rfl); have kk := HKP g h W e (c 25 (uM 21 (uM 20 (uM 19 (uM 15 uE))))); clear H c b d a; refine oP rfl ?_; go_simp; exact f.out _ _ rfl trivial e
  refine Ep 12 0 q 0 ?_
  refine Ee 13 17 11 ?_
  refine Ee 14 18 12 ?_
  refine EC 15 rfl (fun g h W F a b c d e H K f => ?_) ?_
  ·have f19 := gE (a 19) (by kernel_rfl) (H 13) (by kernel_rfl); have kk := HKI g h W e (c 25 (uM 21 (uM 20 (uM 19 (uM 15 uE))))); clear H c b d a; refine oP rfl ?_; go_simp; exact f.out _ _ rfl trivial e
  refine EC 16 rfl (fun g h W F a b c d e H K f => ?_) ?_
  ·have f16 := gE (a 16) (by kernel_rfl) (H 10) (by kernel_rfl); have f20 := gE (a 20) (by kernel_rfl) (H 14) (by kernel_rfl); clear H c b d a; refine oP rfl ?_; have g16 := f16; have g20 := f20; rw [Array.getD_eq_getD_getElem?] at g16 g20; go_simp; exact f.out _ _ rfl trivial e
  refine EC 17 rfl (fun g i W F a b c d e H K f => ?_) ?_
  ·have q18 := c 18 uE; have q19 := c 19 (uM 18 uE); have q20 := c 20 (uM 19 (uM 18 uE)); have q21 := c 21 (uM 20 (uM 19 (uM 18 uE))); have q25 := c 25 (uM 21 (uM 20 (uM 19 (uM 18 uE)))); rw [if_neg (by simp [q25]), if_neg (by simp [q21]), if_neg (by simp [q20]), if_neg (by simp [q19]), if_neg (by simp [q18]), if_neg (by simp [b])] at e; have hS := e; clear e c b d a H; refine oP rfl ?_; go_simp; have h2 := (sep_lit hS [] (by unfold maxLen; simp)).lastFront; have hs : Sep w0 (W.alloc (.cells #[] 5)) (Ce q 109 #[.int .i64 sn, .int .u64 (si : Int), .int .i64 peer, .int .u64 (conn : Int), .int .u64 (inc : Int), .int .u64 (known : Int), .bool up, .int .u64 (base : Int), bx, .int .u64 (got : Int), .int .u64 (heard : Int), .int .u64 (sent : Int), vF, vE] :: Rw 49 4 vE m ys :: By (.slice (some ⟨W.heap.size, 0, none⟩) 0 0) [] :: X :: Qs) := (h2.tF 1 rfl).tF 2 rfl |> fun h => h.tF 1 rfl
   exact f.out _ _ trivial trivial (by simpa [upB, upd, q18, q19, q20, q21, q25] using hs)
  refine Ei 18 2 (.slice BA body.length bc) ?_
  refine EC 19 rfl (fun g h W F a b c d e H K f => ?_) ?_
  ·have f22 : F.tmps.getD 22 undef = h 16 := (a 22).trans (by kernel_rfl); have f23 := gE (a 23) (by kernel_rfl) (H 17) (by kernel_rfl); have q16 := (H 16 uE).1; have q19 := c 19 uE; have q20 := c 20 (uM 19 uE); have q21 := c 21 (uM 20 (uM 19 uE)); have q25 := c 25 (uM 21 (uM 20 (uM 19 uE))); rw [if_neg (by simp [q25]), if_neg (by simp [q21]), if_neg (by simp [q20]), if_neg (by simp [q19]), if_neg (by simp [b]), if_pos q16] at e; have hS := e; clear e c b d a H; refine oP rfl ?_; refine sep_opApp (i := 2) (s := .tmp 22) (x := .tmp 23) (by rfl) f22 f23 hS rfl (sep_reads (i := 3) hS rfl HRD.out) (by simp only [List.length_nil]; omega) ?_; intro v W' hs0; have hs : Sep w0 W' (Ce q 109 #[.int .i64 sn, .int .u64 (si : Int), .int .i64 peer, .int .u64 (conn : Int), .int .u64 (inc : Int), .int .u64 (known : Int), .bool up, .int .u64 (base : Int), bx, .int .u64 (got : Int), .int .u64 (heard : Int), .int .u64 (sent : Int), vF, vE] :: Rw 49 4 vE m ys :: By v body :: X :: Qs) := hs0; exact f.out v W' trivial trivial (by simpa [upB, upd, q19, q20, q21, q25] using hs)
  refine EC 20 rfl (fun g h W F a b c d e H K f => ?_) ?_
  ·have f12 := gE (a 12) (by kernel_rfl) (H 6) (by kernel_rfl); have f21 := gE (a 21) (by kernel_rfl) (H 15) (by kernel_rfl); have f24 : F.tmps.getD 24 undef = h 18 := (a 24).trans (by kernel_rfl); have q18 := (H 18 uE).1; have q20 := c 20 uE; have q21 := c 21 (uM 20 uE); have q25 := c 25 (uM 21 (uM 20 uE)); rw [if_neg (by simp [q25]), if_neg (by simp [q21]), if_neg (by simp [q20]), if_neg (by simp [b]), if_pos q18] at e; have hS := e; clear e c b d a H; refine oP rfl ?_; obtain ⟨A2, c2, e2, _⟩ := sep_byForm (i := 2) hS rfl; have f24b := f24.trans e2; have g12 := f12; have g21 := f21; rw [Array.getD_eq_getD_getElem?] at g12 g21 f24b; clear f24; go_simp; have hs : Sep w0 W (Ce q 109 #[.int .i64 sn, .int .u64 (si : Int), .int .i64 peer, .int .u64 (conn : Int), .int .u64 (inc : Int), .int .u64 (known : Int), .bool up, .int .u64 (base : Int), bx, .int .u64 (got : Int), .int .u64 (heard : Int), .int .u64 (sent : Int), vF, vE] :: Rw 49 4 vE m ys :: By (h 18) body :: X :: Qs) ∧ Value.agg #[.int .i64 kind, .int .i64 peer, .int .u64 (inc : Int), .slice A2 body.length c2] = .agg #[.int .i64 kind, .int .i64 peer, .int .u64 (inc : Int), (h 18)] := ⟨hS, by rw [e2]⟩; exact f.out _ _ trivial trivial (by simpa [upB, upd, q20, q21, q25] using hs)
  refine EC 21 rfl (fun g h W F a b c d e H K f => ?_) ?_
  ·have f25 : F.tmps.getD 25 undef = h 19 := (a 25).trans (by kernel_rfl); have q19 := (H 19 uE).1; have q21 := c 21 uE; have q25 := c 25 (uM 21 uE); rw [if_neg (by simp [q25]), if_neg (by simp [q21]), if_neg (by simp [b]), if_pos q19] at e; have hS := e; clear e c b d a H; refine oP rfl ?_; obtain ⟨hS, ea⟩ := hS; have g25 := f25.trans ea; rw [Array.getD_eq_getD_getElem?] at g25; clear f25; go_simp; have hb : Below W.heap.size W (W.alloc (.cells #[.int .i64 kind, .int .i64 peer, .int .u64 (inc : Int), (h 18)] 49)) := (Below.refl _ _).alloc (Nat.le_refl _) _; have hs : Sep w0 (W.alloc (.cells #[.int .i64 kind, .int .i64 peer, .int .u64 (inc : Int), (h 18)] 49)) (Ce q 109 #[.int .i64 sn, .int .u64 (si : Int), .int .i64 peer, .int .u64 (conn : Int), .int .u64 (inc : Int), .int .u64 (known : Int), .bool up, .int .u64 (base : Int), bx, .int .u64 (got : Int), .int .u64 (heard : Int), .int .u64 (sent : Int), vF, vE] :: Rw 49 4 vE m ys :: By (h 18) body :: X :: Qs) ∧ OneE [.int .i64 kind, .int .i64 peer, .int .u64 (inc : Int), (h 18)] (.slice (some ⟨W.heap.size, 0, none⟩) 1 1) (W.alloc (.cells #[.int .i64 kind, .int .i64 peer, .int .u64 (inc : Int), (h 18)] 49)) := ⟨hS.grow hb, OneE.new W #[.int .i64 kind, .int .i64 peer, .int .u64 (inc : Int), (h 18)]⟩; exact f.out _ _ trivial trivial (by simpa [upB, upd, q21, q25] using hs)
  refine EC 22 rfl (fun g h W F a b c d e H K f => ?_) ?_
  ·have f11 := gE (a 11) (by kernel_rfl) (H 5) (by kernel_rfl); have f26 : F.tmps.getD 26 undef = h 20 := (a 26).trans (by kernel_rfl); have q20 := (H 20 uE).1; have q25 := c 25 uE; rw [if_neg (by simp [q25]), if_neg (by simp [b]), if_pos q20] at e; have hS := e; clear e c b d a H; refine oP rfl ?_; obtain ⟨s1, A3, c3, e3, hl3, hh3⟩ := hS; obtain ⟨A2, c2, e2, _⟩ := sep_byForm (i := 2) s1 rfl; have fex := f26.trans e3; refine sep_opAppW rowEvents (i := 1) (s := .tmp 11) (x := .tmp 26) (m := 1) (news := [.int .i64 kind, .int .i64 peer, .int .u64 (inc : Int), (h 18)]) (by rfl) f11 fex s1 rfl (by rw [hl3]) hh3 (by rw [e2]; exact one_ev _ _ _ _ _ _) (by unfold maxLen; omega) (by omega) ?_; intro v W' hs0; have hs : Sep w0 W' (Ce q 109 #[.int .i64 sn, .int .u64 (si : Int), .int .i64 peer, .int .u64 (conn : Int), .int .u64 (inc : Int), .int .u64 (known : Int), .bool up, .int .u64 (base : Int), bx, .int .u64 (got : Int), .int .u64 (heard : Int), .int .u64 (sent : Int), vF, vE] :: Rw 49 4 v (m + 1) (ys ++ [.int .i64 kind, .int .i64 peer, .int .u64 (inc : Int), (h 18)]) :: By (h 18) body :: X :: Qs) := hs0; exact f.out v W' trivial trivial (by simpa [upB, upd, q25] using hs)
  refine Ee 23 6 0 ?_
  refine Ee 24 28 22 ?_
  refine Ee 25 29 23 ?_
  refine EC 26 rfl (fun g h W F a b c d e H K f => ?_) ?_
  ·have f27 : F.tmps.getD 27 undef = h 21 := (a 27).trans (by kernel_rfl); have f30 := gE (a 30) (by kernel_rfl) (H 24) (by kernel_rfl); have q21 := (H 21 uE).1; rw [if_neg (by simp [b]), if_pos q21] at e; have hS := e; clear e c b d a H; refine oP rfl ?_; obtain ⟨A2, c2, e2, _⟩ := sep_rwForm (i := 1) hS rfl; have hc3 := cA (i := 0) hS rfl 13 rfl; have hf3 := cFz (i := 0) hS rfl 13; rw [e2] at hS; have hs0 := cS (i := 0) hS rfl 13 (.slice A2 (m + 1) c2); have hs : ∃ p : Value × Value, Sep w0 (W.setCell ⟨q, 13, none⟩ (.slice A2 (m + 1) c2)) (Ce q 109 #[.int .i64 sn, .int .u64 (si : Int), .int .i64 peer, .int .u64 (conn : Int), .int .u64 (inc : Int), .int .u64 (known : Int), .bool up, .int .u64 (base : Int), bx, .int .u64 (got : Int), .int .u64 (heard : Int), .int .u64 (sent : Int), vF, p.2] :: Rw 49 4 p.2 (m + 1) (ys ++ [.int .i64 kind, .int .i64 peer, .int .u64 (inc : Int), p.1]) :: By p.1 body :: X :: Qs) := ⟨(_, _), hs0⟩; clear hs0; go_simp; exact f.out undef _ trivial trivial (by simpa [upB, upd] using hs)
  exact EN
 ·intro dn xv W hI H; have qe : dn 25 = true := (H 25 (of_decide_eq_true (by kernel_rfl))).1; rw [if_pos qe] at hI; have hS := hI; clear H hI qe; simp only [putAll, Act.put, List.setIfInBounds_toArray, List.set_cons_zero, List.set_cons_succ, Nat.reduceAdd]; obtain ⟨⟨u, vE'⟩, hS⟩ := hS; have HS1 := Lib.hid hS; clear hS
  go_wp2_with fail
  go_end0
  exact ⟨rfl, u, vE', HS1.out⟩
end Go.Proofs.Ytngegjboenfmeaa
/- The document's data of a body. -/
namespace Go.Proofs.Ytngegjboenfmeaa
open Go Go.RowKit
set_option linter.unusedVariables false
set_option maxRecDepth 100000
set_option linter.unusedSimpArgs false

set_option maxHeartbeats 3200000 in
theorem refData_any (w : World) (q : Nat) (sn : Int) (si : Nat) (peer : Int) (conn inc known : Nat) (up : Bool) (base : Nat) (bx : Value) (got heard sent : Nat) (fs es : Value) (seq : Nat) (BA : Option Addr) (bc : Nat) (body : List UInt8) (hq : w.heap[q]? = some (.cells (rkCells sn si peer conn inc known up base bx got heard sent fs es) 109 (0, 0))) (hsq : 0 < seq) (hh : Has w w.heap.size BA (us body)) (hl : body.length ≤ 1000000) :
    Calls Try.prog 65 #[.pointer (some ⟨q, 0, none⟩), .int .u64 (seq : Int), .slice BA body.length bc] w fun e w' => ∃ A c, e = .returned (.agg ((⟨2, sn, peer, si, conn, inc, known, got, seq, body⟩ : Fr).cells A c)) ∧ Own w' w.heap.size (.slice A body.length c) body ∧ Below w.heap.size w w' := by
  have HQ := Lib.hid (lt_of_heap hq); have HHB := Lib.hid hh; have eg1 : decide (0 < (seq : Int)) = true := decide_eq_true (by omega); have eg2 : decide (0 < seq) = true := decide_eq_true hsq; have HM0 : Hid (w.cell? ⟨q, 0, none⟩ = some (.int .i64 sn)) := Lib.hid (by rw [cell_of_row w q 0 _ _ _ hq]; rfl); have HM1 : Hid (w.cell? ⟨q, 1, none⟩ = some (.int .u64 (si : Int))) := Lib.hid (by rw [cell_of_row w q 1 _ _ _ hq]; rfl); have HM2 : Hid (w.cell? ⟨q, 2, none⟩ = some (.int .i64 peer)) := Lib.hid (by rw [cell_of_row w q 2 _ _ _ hq]; rfl); have HM3 : Hid (w.cell? ⟨q, 3, none⟩ = some (.int .u64 (conn : Int))) := Lib.hid (by rw [cell_of_row w q 3 _ _ _ hq]; rfl); have HM4 : Hid (w.cell? ⟨q, 4, none⟩ = some (.int .u64 (inc : Int))) := Lib.hid (by rw [cell_of_row w q 4 _ _ _ hq]; rfl); have HM5 : Hid (w.cell? ⟨q, 5, none⟩ = some (.int .u64 (known : Int))) := Lib.hid (by rw [cell_of_row w q 5 _ _ _ hq]; rfl); have HM6 : Hid (w.cell? ⟨q, 6, none⟩ = some (.bool up)) := Lib.hid (by rw [cell_of_row w q 6 _ _ _ hq]; rfl); have HM7 : Hid (w.cell? ⟨q, 7, none⟩ = some (.int .u64 (base : Int))) := Lib.hid (by rw [cell_of_row w q 7 _ _ _ hq]; rfl); have HM8 : Hid (w.cell? ⟨q, 8, none⟩ = some (bx)) := Lib.hid (by rw [cell_of_row w q 8 _ _ _ hq]; rfl); have HM9 : Hid (w.cell? ⟨q, 9, none⟩ = some (.int .u64 (got : Int))) := Lib.hid (by rw [cell_of_row w q 9 _ _ _ hq]; rfl); have HM10 : Hid (w.cell? ⟨q, 10, none⟩ = some (.int .u64 (heard : Int))) := Lib.hid (by rw [cell_of_row w q 10 _ _ _ hq]; rfl); have HM11 : Hid (w.cell? ⟨q, 11, none⟩ = some (.int .u64 (sent : Int))) := Lib.hid (by rw [cell_of_row w q 11 _ _ _ hq]; rfl); have HM12 : Hid (w.cell? ⟨q, 12, none⟩ = some (fs)) := Lib.hid (by rw [cell_of_row w q 12 _ _ _ hq]; rfl); have HM13 : Hid (w.cell? ⟨q, 13, none⟩ = some (es)) := Lib.hid (by rw [cell_of_row w q 13 _ _ _ hq]; rfl); have HS0 := Lib.hid (show Sep w (w.alloc (.cells #[.int .i64 0, .int .i64 0, .int .i64 0, .int .u64 0, .int .u64 0, .int .u64 0, .int .u64 0, .int .u64 0, .int .u64 0, .slice none 0 0] 51)) [Ce w.heap.size 51 #[.int .i64 0, .int .i64 0, .int .i64 0, .int .u64 0, .int .u64 0, .int .u64 0, .int .u64 0, .int .u64 0, .int .u64 0, .slice none 0 0]] from sep_ce (Sep.nil w) _ _); have HBL : ∀ (dn : Nat → Bool) (xv : Nat → Value) (W : World), (if dn 33 = true then ∃ a, xv 32 = .pointer (some ⟨a, 0, none⟩) ∧ Sep w W [Ce w.heap.size 51 #[.int .i64 0, .int .i64 0, .int .i64 0, .int .u64 0, .int .u64 0, .int .u64 0, .int .u64 0, .int .u64 0, .int .u64 0, .slice none 0 0], Ce a 51 #[.int .i64 1, .int .i64 sn, .int .i64 peer, .int .u64 (si : Int), .int .u64 (conn : Int), .int .u64 (inc : Int), .int .u64 (known : Int), .int .u64 (got : Int), .int .u64 0, .slice none 0 0]] else if dn 32 = true then ∃ a, xv 32 = .pointer (some ⟨a, 0, none⟩) ∧ Sep w W [Ce w.heap.size 51 #[.int .i64 0, .int .i64 0, .int .i64 0, .int .u64 0, .int .u64 0, .int .u64 0, .int .u64 0, .int .u64 0, .int .u64 0, .slice none 0 0], Ce a 51 #[.int .i64 0, .int .i64 0, .int .i64 0, .int .u64 0, .int .u64 0, .int .u64 0, .int .u64 0, .int .u64 0, .int .u64 0, .slice none 0 0]] else Sep w W [Ce w.heap.size 51 #[.int .i64 0, .int .i64 0, .int .i64 0, .int .u64 0, .int .u64 0, .int .u64 0, .int .u64 0, .int .u64 0, .int .u64 0, .slice none 0 0]]) → Below w.heap.size w W := fun dn xv W h => by
    split at h
    · obtain ⟨_, _, h⟩ := h
      exact h.bel
    split at h
    · obtain ⟨_, _, h⟩ := h
      exact h.bel
    exact h.bel
  clear hq hh hsq; simp only [Fr.cells]; go_enter Try.func65, Try.ntmps65
  go_wp2_with fail
  refine wRG (fun dn xv W => if dn 33 = true then ∃ a, xv 32 = .pointer (some ⟨a, 0, none⟩) ∧ Sep w W [Ce w.heap.size 51 #[.int .i64 0, .int .i64 0, .int .i64 0, .int .u64 0, .int .u64 0, .int .u64 0, .int .u64 0, .int .u64 0, .int .u64 0, .slice none 0 0], Ce a 51 #[.int .i64 1, .int .i64 sn, .int .i64 peer, .int .u64 (si : Int), .int .u64 (conn : Int), .int .u64 (inc : Int), .int .u64 (known : Int), .int .u64 (got : Int), .int .u64 0, .slice none 0 0]] else if dn 32 = true then ∃ a, xv 32 = .pointer (some ⟨a, 0, none⟩) ∧ Sep w W [Ce w.heap.size 51 #[.int .i64 0, .int .i64 0, .int .i64 0, .int .u64 0, .int .u64 0, .int .u64 0, .int .u64 0, .int .u64 0, .int .u64 0, .slice none 0 0], Ce a 51 #[.int .i64 0, .int .i64 0, .int .i64 0, .int .u64 0, .int .u64 0, .int .u64 0, .int .u64 0, .int .u64 0, .int .u64 0, .slice none 0 0]] else Sep w W [Ce w.heap.size 51 #[.int .i64 0, .int .i64 0, .int .i64 0, .int .u64 0, .int .u64 0, .int .u64 0, .int .u64 0, .int .u64 0, .int .u64 0, .slice none 0 0]]) (fun _ _ => True) [xP_ q 0, xP_ q 0, xP_ q 0, xP_ q 0, xV_ (.int .i64 sn), xP_ q 0, xP_ q 0, xP_ q 2, xV_ (.int .i64 peer), xP_ q 0, xP_ q 0, xP_ q 0, xP_ q 1, xV_ (.int .u64 (si : Int)), xP_ q 0, xP_ q 0, xP_ q 3, xV_ (.int .u64 (conn : Int)), xP_ q 0, xP_ q 0, xP_ q 4, xV_ (.int .u64 (inc : Int)), xP_ q 0, xP_ q 0, xP_ q 5, xV_ (.int .u64 (known : Int)), xP_ q 0, xP_ q 0, xP_ q 9, xP_ q 9, xV_ (.int .u64 (got : Int)), xV_ (.agg #[.int .i64 1, .int .i64 sn, .int .i64 peer, .int .u64 (si : Int), .int .u64 (conn : Int), .int .u64 (inc : Int), .int .u64 (known : Int), .int .u64 (got : Int), .int .u64 0, .slice none 0 0]), fun v _ => True, fun v _ => True] (fun xv => by simpa using HS0.out.drew) ?_ ?_
  · refine EC 1 rfl (fun g h W F a b c d e H K f => ?_) ?_
    · have f0 : F.tmps.getD 0 undef = .pointer (some ⟨q, 0, none⟩) := (a 0).trans (by kernel_rfl)
      clear H c b d a; refine oP rfl ?_; go_simp; exact f.out _ _ rfl trivial e
    refine EC 2 rfl (fun g h W F a b c d e H K f => ?_) ?_
    · have h0 : h 0 = .pointer (some ⟨q, 0, none⟩) := (H 0 uE).2
      have f8 : F.tmps.getD 8 undef = .pointer (some ⟨q, 0, none⟩) := (a 8).trans (Eq.trans (by kernel_rfl) h0); clear H c b d a; refine oP rfl ?_; go_simp; exact f.out _ _ rfl trivial e
    refine EC 3 rfl (fun g h W F a b c d e H K f => ?_) ?_
    · have h1 : h 1 = .pointer (some ⟨q, 0, none⟩) := (H 1 uE).2
      have f9 : F.tmps.getD 9 undef = .pointer (some ⟨q, 0, none⟩) := (a 9).trans (Eq.trans (by kernel_rfl) h1); clear H c b d a; refine oP rfl ?_; go_simp; exact f.out _ _ rfl trivial e
    refine EC 4 rfl (fun g h W F a b c d e H K f => ?_) ?_
    · have h2 : h 2 = .pointer (some ⟨q, 0, none⟩) := (H 2 uE).2
      have f10 : F.tmps.getD 10 undef = .pointer (some ⟨q, 0, none⟩) := (a 10).trans (Eq.trans (by kernel_rfl) h2); clear H c b d a; refine oP rfl ?_; go_simp; exact f.out _ _ rfl trivial e
    refine EC 5 rfl (fun g h W F a b c d e H K f => ?_) ?_
    · have h3 : h 3 = .pointer (some ⟨q, 0, none⟩) := (H 3 uE).2
      have f11 : F.tmps.getD 11 undef = .pointer (some ⟨q, 0, none⟩) := (a 11).trans (Eq.trans (by kernel_rfl) h3); have k0 := ((HBL g h W e).cell (p := ⟨q, 0, none⟩) HQ.out).trans HM0.out; clear H c b d a; refine oP rfl ?_; go_simp; exact f.out _ _ rfl trivial e
    refine EC 6 rfl (fun g h W F a b c d e H K f => ?_) ?_
    · have f0 : F.tmps.getD 0 undef = .pointer (some ⟨q, 0, none⟩) := (a 0).trans (by kernel_rfl)
      clear H c b d a; refine oP rfl ?_; go_simp; exact f.out _ _ rfl trivial e
    refine EC 7 rfl (fun g h W F a b c d e H K f => ?_) ?_
    · have h5 : h 5 = .pointer (some ⟨q, 0, none⟩) := (H 5 uE).2
      have f13 : F.tmps.getD 13 undef = .pointer (some ⟨q, 0, none⟩) := (a 13).trans (Eq.trans (by kernel_rfl) h5); clear H c b d a; refine oP rfl ?_; go_simp; exact f.out _ _ rfl trivial e
    refine EC 8 rfl (fun g h W F a b c d e H K f => ?_) ?_
    · have h6 : h 6 = .pointer (some ⟨q, 0, none⟩) := (H 6 uE).2
      have f14 : F.tmps.getD 14 undef = .pointer (some ⟨q, 0, none⟩) := (a 14).trans (Eq.trans (by kernel_rfl) h6); clear H c b d a; refine oP rfl ?_; go_simp; exact f.out _ _ rfl trivial e
    refine EC 9 rfl (fun g h W F a b c d e H K f => ?_) ?_
    · have h7 : h 7 = .pointer (some ⟨q, 2, none⟩) := (H 7 uE).2
      have f15 : F.tmps.getD 15 undef = .pointer (some ⟨q, 2, none⟩) := (a 15).trans (Eq.trans (by kernel_rfl) h7); have k2 := ((HBL g h W e).cell (p := ⟨q, 2, none⟩) HQ.out).trans HM2.out; clear H c b d a; refine oP rfl ?_; go_simp; exact f.out _ _ rfl trivial e
    refine EC 10 rfl (fun g h W F a b c d e H K f => ?_) ?_
    · have f0 : F.tmps.getD 0 undef = .pointer (some ⟨q, 0, none⟩) := (a 0).trans (by kernel_rfl)
      clear H c b d a; refine oP rfl ?_; go_simp; exact f.out _ _ rfl trivial e
    refine EC 11 rfl (fun g h W F a b c d e H K f => ?_) ?_
    · have h9 : h 9 = .pointer (some ⟨q, 0, none⟩) := (H 9 uE).2
      have f17 : F.tmps.getD 17 undef = .pointer (some ⟨q, 0, none⟩) := (a 17).trans (Eq.trans (by kernel_rfl) h9); clear H c b d a; refine oP rfl ?_; go_simp; exact f.out _ _ rfl trivial e
    refine EC 12 rfl (fun g h W F a b c d e H K f => ?_) ?_
    · have h10 : h 10 = .pointer (some ⟨q, 0, none⟩) := (H 10 uE).2
      have f18 : F.tmps.getD 18 undef = .pointer (some ⟨q, 0, none⟩) := (a 18).trans (Eq.trans (by kernel_rfl) h10); clear H c b d a; refine oP rfl ?_; go_simp; exact f.out _ _ rfl trivial e
    refine EC 13 rfl (fun g h W F a b c d e H K f => ?_) ?_
    · have h11 : h 11 = .pointer (some ⟨q, 0, none⟩) := (H 11 uE).2
      have f19 : F.tmps.getD 19 undef = .pointer (some ⟨q, 0, none⟩) := (a 19).trans (Eq.trans (by kernel_rfl) h11); clear H c b d a; refine oP rfl ?_; go_simp; exact f.out _ _ rfl trivial e
    refine EC 14 rfl (fun g h W F a b c d e H K f => ?_) ?_
    · have h12 : h 12 = .pointer (some ⟨q, 1, none⟩) := (H 12 uE).2
      have f20 : F.tmps.getD 20 undef = .pointer (some ⟨q, 1, none⟩) := (a 20).trans (Eq.trans (by kernel_rfl) h12); have k1 := ((HBL g h W e).cell (p := ⟨q, 1, none⟩) HQ.out).trans HM1.out; clear H c b d a; refine oP rfl ?_; go_simp; exact f.out _ _ rfl trivial e
    refine EC 15 rfl (fun g h W F a b c d e H K f => ?_) ?_
    · have f0 : F.tmps.getD 0 undef = .pointer (some ⟨q, 0, none⟩) := (a 0).trans (by kernel_rfl)
      clear H c b d a; refine oP rfl ?_; go_simp; exact f.out _ _ rfl trivial e
    refine EC 16 rfl (fun g h W F a b c d e H K f => ?_) ?_
    · have h14 : h 14 = .pointer (some ⟨q, 0, none⟩) := (H 14 uE).2
      have f22 : F.tmps.getD 22 undef = .pointer (some ⟨q, 0, none⟩) := (a 22).trans (Eq.trans (by kernel_rfl) h14); clear H c b d a; refine oP rfl ?_; go_simp; exact f.out _ _ rfl trivial e
    refine EC 17 rfl (fun g h W F a b c d e H K f => ?_) ?_
    · have h15 : h 15 = .pointer (some ⟨q, 0, none⟩) := (H 15 uE).2
      have f23 : F.tmps.getD 23 undef = .pointer (some ⟨q, 0, none⟩) := (a 23).trans (Eq.trans (by kernel_rfl) h15); clear H c b d a; refine oP rfl ?_; go_simp; exact f.out _ _ rfl trivial e
    refine EC 18 rfl (fun g h W F a b c d e H K f => ?_) ?_
    · have h16 : h 16 = .pointer (some ⟨q, 3, none⟩) := (H 16 uE).2
      have f24 : F.tmps.getD 24 undef = .pointer (some ⟨q, 3, none⟩) := (a 24).trans (Eq.trans (by kernel_rfl) h16); have k3 := ((HBL g h W e).cell (p := ⟨q, 3, none⟩) HQ.out).trans HM3.out; clear H c b d a; refine oP rfl ?_; go_simp; exact f.out _ _ rfl trivial e
    refine EC 19 rfl (fun g h W F a b c d e H K f => ?_) ?_
    · have f0 : F.tmps.getD 0 undef = .pointer (some ⟨q, 0, none⟩) := (a 0).trans (by kernel_rfl)
      clear H c b d a; refine oP rfl ?_; go_simp; exact f.out _ _ rfl trivial e
    refine EC 20 rfl (fun g h W F a b c d e H K f => ?_) ?_
    · have h18 : h 18 = .pointer (some ⟨q, 0, none⟩) := (H 18 uE).2
      have f26 : F.tmps.getD 26 undef = .pointer (some ⟨q, 0, none⟩) := (a 26).trans (Eq.trans (by kernel_rfl) h18); clear H c b d a; refine oP rfl ?_; go_simp; exact f.out _ _ rfl trivial e
    refine EC 21 rfl (fun g h W F a b c d e H K f => ?_) ?_
    · have h19 : h 19 = .pointer (some ⟨q, 0, none⟩) := (H 19 uE).2
      have f27 : F.tmps.getD 27 undef = .pointer (some ⟨q, 0, none⟩) := (a 27).trans (Eq.trans (by kernel_rfl) h19); clear H c b d a; refine oP rfl ?_; go_simp; exact f.out _ _ rfl trivial e
    refine EC 22 rfl (fun g h W F a b c d e H K f => ?_) ?_
    · have h20 : h 20 = .pointer (some ⟨q, 4, none⟩) := (H 20 uE).2
      have f28 : F.tmps.getD 28 undef = .pointer (some ⟨q, 4, none⟩) := (a 28).trans (Eq.trans (by kernel_rfl) h20); have k4 := ((HBL g h W e).cell (p := ⟨q, 4, none⟩) HQ.out).trans HM4.out; clear H c b d a; refine oP rfl ?_; go_simp; exact f.out _ _ rfl trivial e
    refine EC 23 rfl (fun g h W F a b c d e H K f => ?_) ?_
    · have f0 : F.tmps.getD 0 undef = .pointer (some ⟨q, 0, none⟩) := (a 0).trans (by kernel_rfl)
      clear H c b d a; refine oP rfl ?_; go_simp; exact f.out _ _ rfl trivial e
    refine EC 24 rfl (fun g h W F a b c d e H K f => ?_) ?_
    · have h22 : h 22 = .pointer (some ⟨q, 0, none⟩) := (H 22 uE).2
      have f30 : F.tmps.getD 30 undef = .pointer (some ⟨q, 0, none⟩) := (a 30).trans (Eq.trans (by kernel_rfl) h22); clear H c b d a; refine oP rfl ?_; go_simp; exact f.out _ _ rfl trivial e
    refine EC 25 rfl (fun g h W F a b c d e H K f => ?_) ?_
    · have h23 : h 23 = .pointer (some ⟨q, 0, none⟩) := (H 23 uE).2
      have f31 : F.tmps.getD 31 undef = .pointer (some ⟨q, 0, none⟩) := (a 31).trans (Eq.trans (by kernel_rfl) h23); clear H c b d a; refine oP rfl ?_; go_simp; exact f.out _ _ rfl trivial e
    refine EC 26 rfl (fun g h W F a b c d e H K f => ?_) ?_
    · have h24 : h 24 = .pointer (some ⟨q, 5, none⟩) := (H 24 uE).2
      have f32 : F.tmps.getD 32 undef = .pointer (some ⟨q, 5, none⟩) := (a 32).trans (Eq.trans (by kernel_rfl) h24); have k5 := ((HBL g h W e).cell (p := ⟨q, 5, none⟩) HQ.out).trans HM5.out; clear H c b d a; refine oP rfl ?_; go_simp; exact f.out _ _ rfl trivial e
    refine EC 27 rfl (fun g h W F a b c d e H K f => ?_) ?_
    · have f0 : F.tmps.getD 0 undef = .pointer (some ⟨q, 0, none⟩) := (a 0).trans (by kernel_rfl)
      clear H c b d a; refine oP rfl ?_; go_simp; exact f.out _ _ rfl trivial e
    refine EC 28 rfl (fun g h W F a b c d e H K f => ?_) ?_
    · have h26 : h 26 = .pointer (some ⟨q, 0, none⟩) := (H 26 uE).2
      have f34 : F.tmps.getD 34 undef = .pointer (some ⟨q, 0, none⟩) := (a 34).trans (Eq.trans (by kernel_rfl) h26); clear H c b d a; refine oP rfl ?_; go_simp; exact f.out _ _ rfl trivial e
    refine EC 29 rfl (fun g h W F a b c d e H K f => ?_) ?_
    · have h27 : h 27 = .pointer (some ⟨q, 0, none⟩) := (H 27 uE).2
      have f35 : F.tmps.getD 35 undef = .pointer (some ⟨q, 0, none⟩) := (a 35).trans (Eq.trans (by kernel_rfl) h27); clear H c b d a; refine oP rfl ?_; go_simp; exact f.out _ _ rfl trivial e
    refine EC 30 rfl (fun g h W F a b c d e H K f => ?_) ?_
    · have h28 : h 28 = .pointer (some ⟨q, 9, none⟩) := (H 28 uE).2
      have f36 : F.tmps.getD 36 undef = .pointer (some ⟨q, 9, none⟩) := (a 36).trans (Eq.trans (by kernel_rfl) h28); clear H c b d a; refine oP rfl ?_; go_simp; exact f.out _ _ rfl trivial e
    refine EC 31 rfl (fun g h W F a b c d e H K f => ?_) ?_
    · have h29 : h 29 = .pointer (some ⟨q, 9, none⟩) := (H 29 uE).2
      have f37 : F.tmps.getD 37 undef = .pointer (some ⟨q, 9, none⟩) := (a 37).trans (Eq.trans (by kernel_rfl) h29); have k9 := ((HBL g h W e).cell (p := ⟨q, 9, none⟩) HQ.out).trans HM9.out; clear H c b d a; refine oP rfl ?_; go_simp; exact f.out _ _ rfl trivial e
    refine EC 32 rfl (fun g h W F a b c d e H K f => ?_) ?_
    · have h4 : h 4 = .int .i64 sn := (H 4 uE).2
      have f12 : F.tmps.getD 12 undef = .int .i64 sn := (a 12).trans (Eq.trans (by kernel_rfl) h4); have f16 := gE (a 16) (by kernel_rfl) (H 8) (by kernel_rfl); have f21 := gE (a 21) (by kernel_rfl) (H 13) (by kernel_rfl); have f25 := gE (a 25) (by kernel_rfl) (H 17) (by kernel_rfl); have f29 := gE (a 29) (by kernel_rfl) (H 21) (by kernel_rfl); have f33 := gE (a 33) (by kernel_rfl) (H 25) (by kernel_rfl); have f38 := gE (a 38) (by kernel_rfl) (H 30) (by kernel_rfl); clear H c b d a; refine oP rfl ?_; have g12 := f12; have g16 := f16; have g21 := f21; have g25 := f25; have g29 := f29; have g33 := f33; have g38 := f38; rw [Array.getD_eq_getD_getElem?] at g12 g16 g21 g25 g29 g33 g38; go_simp; exact f.out _ _ rfl trivial e
    refine EC 33 rfl (fun h i W F b c d e f H K g => ?_) ?_
    · have q33 := d 33 uE
      rw [if_neg (by simp [q33]), if_neg (by simp [c])] at f; have hS := f; clear f d c e b H; refine oP rfl ?_; go_simp; have hs : ∃ a, (Value.pointer (some ⟨W.heap.size, 0, none⟩)) = .pointer (some ⟨a, 0, none⟩) ∧ Sep w (W.alloc (.cells #[.int .i64 0, .int .i64 0, .int .i64 0, .int .u64 0, .int .u64 0, .int .u64 0, .int .u64 0, .int .u64 0, .int .u64 0, .slice none 0 0] 51)) [Ce w.heap.size 51 #[.int .i64 0, .int .i64 0, .int .i64 0, .int .u64 0, .int .u64 0, .int .u64 0, .int .u64 0, .int .u64 0, .int .u64 0, .slice none 0 0], Ce a 51 #[.int .i64 0, .int .i64 0, .int .i64 0, .int .u64 0, .int .u64 0, .int .u64 0, .int .u64 0, .int .u64 0, .int .u64 0, .slice none 0 0]] := ⟨_, rfl, sep_ce hS _ _⟩; exact g.out _ _ trivial trivial (by simpa [upB, upd, q33] using hs)
    refine EC 34 rfl (fun j k W F c d e f g H K h => ?_) ?_
    · have h32 := (H 32 uE).2
      simp only [Dl] at h32; have f7 : F.tmps.getD 7 undef = k 32 := (c 7).trans (by kernel_rfl); have f39 := gE (c 39) (by kernel_rfl) (H 31) (by kernel_rfl); have q32 := (H 32 uE).1; rw [if_neg (by simp [d]), if_pos q32] at g; have hS := g; clear g e d f c H; refine oP rfl ?_; obtain ⟨a, ea, hS⟩ := hS; rw [ea] at f7; have c0 := cA (i := 1) hS rfl 0 rfl; have y0 := cFz (i := 1) hS rfl 0; have c1 := cA (i := 1) hS rfl 1 rfl; have y1 := cFz (i := 1) hS rfl 1; have c2 := cA (i := 1) hS rfl 2 rfl; have y2 := cFz (i := 1) hS rfl 2; have c3 := cA (i := 1) hS rfl 3 rfl; have y3 := cFz (i := 1) hS rfl 3; have c4 := cA (i := 1) hS rfl 4 rfl; have y4 := cFz (i := 1) hS rfl 4; have c5 := cA (i := 1) hS rfl 5 rfl; have y5 := cFz (i := 1) hS rfl 5; have c6 := cA (i := 1) hS rfl 6 rfl; have y6 := cFz (i := 1) hS rfl 6; have c7 := cA (i := 1) hS rfl 7 rfl; have y7 := cFz (i := 1) hS rfl 7; have c8 := cA (i := 1) hS rfl 8 rfl; have y8 := cFz (i := 1) hS rfl 8; have c9 := cA (i := 1) hS rfl 9 rfl; have y9 := cFz (i := 1) hS rfl 9; have hs : ∃ b, k 32 = .pointer (some ⟨b, 0, none⟩) ∧ Sep w _ [Ce w.heap.size 51 #[.int .i64 0, .int .i64 0, .int .i64 0, .int .u64 0, .int .u64 0, .int .u64 0, .int .u64 0, .int .u64 0, .int .u64 0, .slice none 0 0], Ce b 51 #[.int .i64 1, .int .i64 sn, .int .i64 peer, .int .u64 (si : Int), .int .u64 (conn : Int), .int .u64 (inc : Int), .int .u64 (known : Int), .int .u64 (got : Int), .int .u64 0, .slice none 0 0]] := ⟨a, ea, sep_put10c (i := 1) hS rfl (.int .i64 1) (.int .i64 sn) (.int .i64 peer) (.int .u64 (si : Int)) (.int .u64 (conn : Int)) (.int .u64 (inc : Int)) (.int .u64 (known : Int)) (.int .u64 (got : Int)) (.int .u64 0) (.slice none 0 0)⟩; go_simp; exact h.out undef _ trivial trivial (by simpa [upB, upd] using hs)
    exact EN
  · intro dn xv W hI H
    have qe : dn 33 = true := (H 33 (of_decide_eq_true (by kernel_rfl))).1; rw [if_pos qe] at hI; have hS := hI; clear H hI qe; simp only [putAll, Act.put, List.setIfInBounds_toArray, List.set_cons_zero, List.set_cons_succ, Nat.reduceAdd]; obtain ⟨a, ea, hS⟩ := hS; rw [ea]; have HS1 := Lib.hid hS; clear hS ea; have z0 := cA (i := 1) HS1.out rfl 0 rfl; have y0 := cFz (i := 1) HS1.out rfl 0; have z1 := cA (i := 1) HS1.out rfl 1 rfl; have y1 := cFz (i := 1) HS1.out rfl 1; have z2 := cA (i := 1) HS1.out rfl 2 rfl; have y2 := cFz (i := 1) HS1.out rfl 2; have z3 := cA (i := 1) HS1.out rfl 3 rfl; have y3 := cFz (i := 1) HS1.out rfl 3; have z4 := cA (i := 1) HS1.out rfl 4 rfl; have y4 := cFz (i := 1) HS1.out rfl 4; have z5 := cA (i := 1) HS1.out rfl 5 rfl; have y5 := cFz (i := 1) HS1.out rfl 5; have z6 := cA (i := 1) HS1.out rfl 6 rfl; have y6 := cFz (i := 1) HS1.out rfl 6; have z7 := cA (i := 1) HS1.out rfl 7 rfl; have y7 := cFz (i := 1) HS1.out rfl 7; have z8 := cA (i := 1) HS1.out rfl 8 rfl; have y8 := cFz (i := 1) HS1.out rfl 8; have z9 := cA (i := 1) HS1.out rfl 9 rfl; have y9 := cFz (i := 1) HS1.out rfl 9
    go_upto_region 5 with fail
    obtain ⟨W5, HW5⟩ : ∃ y, Hid ((W.setCell ⟨a, 0, none⟩ (.int .i64 2)).setCell ⟨a, 8, none⟩ (.int .u64 (seq : Int)) = y) := ⟨_, Lib.hid rfl⟩; have HS5 : Hid (Sep w W5 [Ce w.heap.size 51 #[.int .i64 0, .int .i64 0, .int .i64 0, .int .u64 0, .int .u64 0, .int .u64 0, .int .u64 0, .int .u64 0, .int .u64 0, .slice none 0 0], Ce a 51 #[.int .i64 2, .int .i64 sn, .int .i64 peer, .int .u64 (si : Int), .int .u64 (conn : Int), .int .u64 (inc : Int), .int .u64 (known : Int), .int .u64 (got : Int), .int .u64 (seq : Int), .slice none 0 0]]) := Lib.hid (by
      rw [← HW5.out]; exact cS (i := 1) (cS (i := 1) HS1.out rfl 0 (.int .i64 2)) rfl 8 (.int .u64 (seq : Int)))
    rw [HW5.out]; have HSX : Hid (Sep w (W5.alloc (.cells #[] 5)) [Ce w.heap.size 51 #[.int .i64 0, .int .i64 0, .int .i64 0, .int .u64 0, .int .u64 0, .int .u64 0, .int .u64 0, .int .u64 0, .int .u64 0, .slice none 0 0], Ce a 51 #[.int .i64 2, .int .i64 sn, .int .i64 peer, .int .u64 (si : Int), .int .u64 (conn : Int), .int .u64 (inc : Int), .int .u64 (known : Int), .int .u64 (got : Int), .int .u64 (seq : Int), .slice none 0 0], By (.slice (some ⟨W5.heap.size, 0, none⟩) 0 0) []]) := Lib.hid (sep_lit HS5.out [] (by unfold maxLen; simp)); clear z0 z1 z2 z3 z4 z5 z6 z7 z8 z9 y0 y1 y2 y3 y4 y5 y6 y7 y8 y9 eg1 eg2 HS1
    go_upto_region 6 with (at_builtin; go_must (refine sep_app (i := 2) (m := body) rfl rfl (by rfl) (by rfl) HSX.out rfl (HSX.out.has HHB.out) (by simp; omega) ?_); intro v1 w1 hs1
                           have HS2 : Hid (Sep w w1 [_, Ce a 51 #[.int .i64 2, .int .i64 sn, .int .i64 peer, .int .u64 (si : Int), .int .u64 (conn : Int), .int .u64 (inc : Int), .int .u64 (known : Int), .int .u64 (got : Int), .int .u64 (seq : Int), .slice none 0 0], By v1 body]) := Lib.hid hs1; obtain ⟨A1, c1, rfl, _, _, _⟩ := sep_byForm (i := 2) HS2.out rfl; clear hs1 HSX HS5; have y9 := cFz (i := 1) HS2.out rfl 9; have z9 := cA (i := 1) HS2.out rfl 9 rfl)
    obtain ⟨W6, HW6⟩ : ∃ y, Hid (w1.setCell ⟨a, 9, none⟩ (.slice A1 body.length c1) = y) := ⟨_, Lib.hid rfl⟩; have HS6 : Hid (Sep w W6 [Ce w.heap.size 51 #[.int .i64 0, .int .i64 0, .int .i64 0, .int .u64 0, .int .u64 0, .int .u64 0, .int .u64 0, .int .u64 0, .int .u64 0, .slice none 0 0], Ce a 51 #[.int .i64 2, .int .i64 sn, .int .i64 peer, .int .u64 (si : Int), .int .u64 (conn : Int), .int .u64 (inc : Int), .int .u64 (known : Int), .int .u64 (got : Int), .int .u64 (seq : Int), .slice A1 body.length c1], By (.slice A1 body.length c1) body]) := Lib.hid (by
      rw [← HW6.out]; exact cS (i := 1) HS2.out rfl 9 (.slice A1 body.length c1))
    rw [HW6.out]; have k0 := cA (i := 0) HS6.out rfl 0 rfl; have x0 := cFz (i := 0) HS6.out rfl 0; have z0 := cA (i := 1) HS6.out rfl 0 rfl; have k1 := cA (i := 0) HS6.out rfl 1 rfl; have x1 := cFz (i := 0) HS6.out rfl 1; have z1 := cA (i := 1) HS6.out rfl 1 rfl; have k2 := cA (i := 0) HS6.out rfl 2 rfl; have x2 := cFz (i := 0) HS6.out rfl 2; have z2 := cA (i := 1) HS6.out rfl 2 rfl; have k3 := cA (i := 0) HS6.out rfl 3 rfl; have x3 := cFz (i := 0) HS6.out rfl 3; have z3 := cA (i := 1) HS6.out rfl 3 rfl; have k4 := cA (i := 0) HS6.out rfl 4 rfl; have x4 := cFz (i := 0) HS6.out rfl 4; have z4 := cA (i := 1) HS6.out rfl 4 rfl; have k5 := cA (i := 0) HS6.out rfl 5 rfl; have x5 := cFz (i := 0) HS6.out rfl 5; have z5 := cA (i := 1) HS6.out rfl 5 rfl; have k6 := cA (i := 0) HS6.out rfl 6 rfl; have x6 := cFz (i := 0) HS6.out rfl 6; have z6 := cA (i := 1) HS6.out rfl 6 rfl; have k7 := cA (i := 0) HS6.out rfl 7 rfl; have x7 := cFz (i := 0) HS6.out rfl 7; have z7 := cA (i := 1) HS6.out rfl 7 rfl; have k8 := cA (i := 0) HS6.out rfl 8 rfl; have x8 := cFz (i := 0) HS6.out rfl 8; have z8 := cA (i := 1) HS6.out rfl 8 rfl; have k9 := cA (i := 0) HS6.out rfl 9 rfl; have x9 := cFz (i := 0) HS6.out rfl 9; have z9 := cA (i := 1) HS6.out rfl 9 rfl
    go_wp2_with fail
    obtain ⟨_, hs2⟩ := sep_put10 (i := 0) HS6.out rfl (.int .i64 2) (.int .i64 sn) (.int .i64 peer) (.int .u64 (si : Int)) (.int .u64 (conn : Int)) (.int .u64 (inc : Int)) (.int .u64 (known : Int)) (.int .u64 (got : Int)) (.int .u64 (seq : Int)) (.slice A1 body.length c1); have HS3 : Hid (Sep w _ [_, _, By (.slice A1 body.length c1) body]) := Lib.hid hs2; clear hs2; refine bodyPost_ret (v := .agg #[.int .i64 2, .int .i64 sn, .int .i64 peer, .int .u64 (si : Int), .int .u64 (conn : Int), .int .u64 (inc : Int), .int .u64 (known : Int), .int .u64 (got : Int), .int .u64 (seq : Int), .slice A1 body.length c1]) (by simp [results, Try.results65, go_sem, k0, k1, k2, k3, k4, k5, k6, k7, k8, k9]) rfl ?_; exact ⟨A1, c1, rfl, sep_byBase (i := 2) HS3.out rfl, HS3.out.bel⟩
end Go.Proofs.Ytngegjboenfmeaa
/- The chapter's first example of the statements over window: awake. -/
namespace Go.Proofs.Ytngegjboenfmeaa
open Go Go.RowKit Go.Shelf
set_option linter.unusedVariables false
set_option maxRecDepth 100000
attribute [local go_sem] Oper.semAt_some

/-- a function whose body holds a range over a function -/
theorem calls_marks (n : Nat) {f : FuncId} {fn : Func} {c : Code} {args : Array Value} {w : World} {R : Ending → World → Prop} (hf : Try.prog.funcs[f]? = some fn) (hb : fn.body = some c)
  (h : c.wp Try.prog (bodyPostM Fence.wide n Try.prog fn R) { tmps := args ++ Array.replicate (fn.ntmps - args.size) undef, defers := [] } w) : Calls Try.prog f args w R :=
 callsIn_wide.1 (callsIn_of_wp_marks (n := n) hf hb trivial (wpIn_wide.2 h) rfl)

end Go.Proofs.Ytngegjboenfmeaa
/- WindowTakes: the document's Take, and the statement's walk. -/
namespace Go.Proofs.Ytngegjboenfmeaa
open Go Go.RowKit Go.Shelf
set_option linter.unusedVariables false
set_option maxRecDepth 100000
attribute [local go_sem] Oper.semAt_some

theorem count_yes (w : World) (x : Nat) (h : x ≤ 34359738367) : Calls Try.prog 47 #[.int .u64 (x : Int)] w fun e w' => e = .returned (.bool true) ∧ w = w' :=
 (count_any w x).mono fun e w' ⟨he, hw⟩ => ⟨by rw [he, decide_eq_true (by omega)], hw⟩
theorem count_no (w : World) (x : Nat) (h : 34359738367 < x) : Calls Try.prog 47 #[.int .u64 (x : Int)] w fun e w' => e = .returned (.bool false) ∧ w = w' :=
 (count_any w x).mono fun e w' ⟨he, hw⟩ => ⟨by rw [he, decide_eq_false (by omega)], hw⟩

set_option maxHeartbeats 800000 in
theorem rtake_any (w : World) (got seq : Nat) (hg : got < 18446744073709551616) (hs : seq < 18446744073709551616) :
  Calls Try.prog 70 #[.agg #[.int .u64 (got : Int)], .int .u64 (seq : Int)] w fun e w' => e = .returned (TakeRes got seq) ∧ Below w.heap.size w w' := by
 have fin : ∀ o o' : Obj, Below w.heap.size w ((w.alloc o).alloc o') := fun o o' => ((Below.refl _ _).alloc (Nat.le_refl _) _).alloc (by simp) _
 by_cases h1 : seq < 1
 ·rw [takeRes_no (.inl h1)]; have e0 : decide (0 < seq) = false := decide_eq_false (by omega); go_enter Try.func70, Try.ntmps70; go_wp2; exact bodyPost_ret (v := .tuple #[.agg #[.int .u64 (got : Int)], .bool false]) (by simp [results, Try.results70, go_sem]) rfl ⟨rfl, fin _ _⟩
 ·have e0 : decide (0 < seq) = true := decide_eq_true (by omega)
  by_cases h2 : 34359738367 < seq
  ·rw [takeRes_no (.inr (.inl h2))]; go_enter Try.func70, Try.ntmps70
   go_wp2_with (go_at_call 47; refine (count_no _ _ h2).mono ?_; rintro e w' ⟨rfl, rfl⟩)
   exact bodyPost_ret (v := .tuple #[.agg #[.int .u64 (got : Int)], .bool false]) (by simp [results, Try.results70, go_sem]) rfl ⟨rfl, fin _ _⟩
  ·have g1 : 1 ≤ seq := by omega
   have g2 : seq ≤ 34359738367 := by omega
   by_cases h3 : seq = got + 1
   ·rw [takeRes_yes g1 g2 h3]; have e1 : ((got : Int) == (seq : Int) - 1) = true := by simp; omega
    clear h3; go_enter Try.func70, Try.ntmps70
    go_wp2_with (go_at_call 47; refine (count_yes _ _ g2).mono ?_; rintro e w' ⟨rfl, rfl⟩)
    exact bodyPost_ret (v := .tuple #[.agg #[.int .u64 (seq : Int)], .bool true]) (by simp [results, Try.results70, go_sem]) rfl ⟨rfl, fin _ _⟩
   ·rw [takeRes_no (.inr (.inr h3))]; have e1 : ((got : Int) == (seq : Int) - 1) = false := by simp; omega
    go_enter Try.func70, Try.ntmps70
    go_wp2_with (go_at_call 47; refine (count_yes _ _ g2).mono ?_; rintro e w' ⟨rfl, rfl⟩)
    exact bodyPost_ret (v := .tuple #[.agg #[.int .u64 (got : Int)], .bool false]) (by simp [results, Try.results70, go_sem]) rfl ⟨rfl, fin _ _⟩

end Go.Proofs.Ytngegjboenfmeaa
/- The statements' small helpers: long, Same. -/
namespace Go.Proofs.Ytngegjboenfmeaa
open Go Go.RowKit Go.Shelf
set_option linter.unusedVariables false
set_option maxRecDepth 100000
attribute [local go_sem] Oper.semAt_some

def lsum (L : List (List UInt8)) : Nat := (L.map fun l => 1 + l.length / 64).sum
def longB (L : List (List UInt8)) : Bool := decide (2000 < lsum L)
def sameB (b1 : Nat) (L1 : List (List UInt8)) (b2 : Nat) (L2 : List (List UInt8)) : Bool := decide (b1 = b2 ∧ L1 = L2)
end Go.Proofs.Ytngegjboenfmeaa
/- WindowTwice: the statement's walk. -/
namespace Go.Proofs.Ytngegjboenfmeaa
open Go Go.RowKit Go.Shelf
set_option linter.unusedVariables false
set_option maxRecDepth 100000
attribute [local go_sem] Oper.semAt_some

theorem Fit.all {L : List (List UInt8)} (h : Fit L) : ∀ l ∈ L, l.length ≤ 140737488355328 := fun l hl => by
 have := h.2 l hl
 omega

end Go.Proofs.Ytngegjboenfmeaa
/- The document's Own: a sender in memory of its own. -/
namespace Go.Proofs.Ytngegjboenfmeaa
open Go Go.RowKit Go.Shelf
set_option linter.unusedVariables false
set_option maxRecDepth 100000
attribute [local go_sem] Oper.semAt_some

/-- a block of two cells -/
def Two (w : World) (b : Nat) (x y : Value) : Prop := w.heap[b]? = some (.cells #[x, y] 68 (0, 0))
theorem Two.c0 {w : World} {b : Nat} {x y : Value} (h : Two w b x y) : w.cell? ⟨b, 0, none⟩ = some x := by simp [World.cell?, show w.heap[b]? = _ from h]
theorem Two.c1 {w : World} {b : Nat} {x y : Value} (h : Two w b x y) : w.cell? ⟨b, 1, none⟩ = some y := by simp [World.cell?, show w.heap[b]? = _ from h]
theorem Two.f0 {w : World} {b : Nat} {x y : Value} (h : Two w b x y) : w.frozen? ⟨b, 0, none⟩ = false := by simp [World.frozen?, show w.heap[b]? = _ from h]
theorem Two.f1 {w : World} {b : Nat} {x y : Value} (h : Two w b x y) : w.frozen? ⟨b, 1, none⟩ = false := by simp [World.frozen?, show w.heap[b]? = _ from h]
theorem Two.below {w w' : World} {b B : Nat} {x y : Value} (h : Two w b x y) (hb : Below B w w') (hlt : b < B) : Two w' b x y := (hb.block b hlt).trans h
theorem Two.set1 {w : World} {b : Nat} {x y : Value} (h : Two w b x y) (z : Value) : Two (w.setCell ⟨b, 1, none⟩ z) b x z := by
 have := heap_setCell_same w b 1 _ _ z h
 simpa [Two] using this
theorem Two.set0 {w : World} {b : Nat} {x y : Value} (h : Two w b x y) (z : Value) : Two (w.setCell ⟨b, 0, none⟩ z) b z y := by
 have := heap_setCell_same w b 0 _ _ z h
 simpa [Two] using this
theorem Two.other {w : World} {b g i : Nat} {x y : Value} (h : Two w b x y) (hne : b ≠ g) (z : Value) : Two (w.setCell ⟨g, i, none⟩ z) b x y := (Below.heap_setCell w ⟨g, i, none⟩ z b (by simpa using hne)).trans h
theorem Two.new (w : World) (x y : Value) : Two (w.alloc (.cells #[x, y] 68)) w.heap.size x y := World.alloc_heap_new w _
theorem OwnB.set {w : World} {base g i : Nat} {v : Value} {L : List (List UInt8)} (h : OwnB w base v L) (hg : g < base) (z : Value) : OwnB (w.setCell ⟨g, i, none⟩ z) base v L :=
 h.keep fun k h1 _ => Below.heap_setCell w ⟨g, i, none⟩ z k (by simp; omega)

structure OwnAt (w wr : World) (base : Nat) (A : Option Addr) (c : Nat) (L : List (List UInt8)) (k : Nat) (v : Value) : Prop where
 below : Below w.heap.size w wr
 big : w.heap.size + 3 ≤ wr.heap.size
 b0 : Two wr w.heap.size (.int .u64 (base : Int)) (.slice A L.length c)
 b1 : Two wr (w.heap.size + 1) (.int .u64 0) (.slice none 0 0)
 b2 : Two wr (w.heap.size + 2) (.int .u64 (base : Int)) v
 own : OwnB wr (w.heap.size + 3) v (L.take k)
theorem OwnAt.start (w : World) (base : Nat) (A : Option Addr) (c : Nat) (L : List (List UInt8)) :
  OwnAt w (((w.alloc (.cells #[.int .u64 (base : Int), .slice A L.length c] 68)).alloc (.cells #[.int .u64 0, .slice none 0 0] 68)).alloc (.cells #[.int .u64 (base : Int), .slice none 0 0] 68)) base A c L 0 (.slice none 0 0) := by
 have n0 := Two.new w (.int .u64 (base : Int)) (.slice A L.length c); have n1 := Two.new (w.alloc (.cells #[.int .u64 (base : Int), .slice A L.length c] 68)) (.int .u64 0) (.slice none 0 0); have n2 := Two.new ((w.alloc (.cells #[.int .u64 (base : Int), .slice A L.length c] 68)).alloc (.cells #[.int .u64 0, .slice none 0 0] 68)) (.int .u64 (base : Int)) (.slice none 0 0); simp only [World.size_alloc] at n1 n2; refine ⟨(((Below.refl _ w).alloc (Nat.le_refl _) _).alloc (by simp) _).alloc (by simp; omega) _, by simp, ?_, ?_, n2, OwnB.nil _ _⟩
 ·exact (n0.below ((Below.refl (w.heap.size + 1) _).alloc (by simp) _) (by omega)).below ((Below.refl (w.heap.size + 1) _).alloc (by simp) _) (by omega)
 ·exact n1.below ((Below.refl (w.heap.size + 2) _).alloc (by simp) _) (by omega)
theorem OwnAt.next {w wr W : World} {base : Nat} {A : Option Addr} {c : Nat} {L : List (List UInt8)} {k : Nat} {v u : Value} (h : OwnAt w wr base A c L k v) (hb : Below (w.heap.size + 3) wr W) (ho : OwnB W (w.heap.size + 3) u (L.take (k + 1))) :
  OwnAt w (W.setCell ⟨w.heap.size + 2, 1, none⟩ u) base A c L (k + 1) u :=
 ⟨(h.below.trans (hb.mono (by omega))).setCell (by simp) _, by have := hb.size; have := h.big; simp; omega, (h.b0.below hb (by omega)).other (by omega) _, (h.b1.below hb (by omega)).other (by omega) _, (h.b2.below hb (by omega)).set1 _, ho.set (by omega) _⟩

set_option maxHeartbeats 2000000 in
theorem ownR_any (w : World) (base : Nat) (A : Option Addr) (c : Nat) (L : List (List UInt8)) (h : Bx w w.heap.size A L) (hf : Fit L) :
  Calls Try.prog 75 #[.agg #[.int .u64 (base : Int), .slice A L.length c]] w fun e w' => ∃ v, e = .returned (.agg #[.int .u64 (base : Int), v]) ∧ OwnB w' w.heap.size v L ∧ Below w.heap.size w w' := by
 have h1 := hf.1; have HF := Lib.hid hf.2; have HFA := Lib.hid (fun (k : Nat) (l : List UInt8) (hl : l ∈ L.take k) => (show l.length ≤ 140737488355328 by have := hf.2 l (List.mem_of_mem_take hl); omega)); have H := Lib.hid h; clear h hf; go_enter Try.func75, Try.ntmps75; go_wp2
 go_loopw [4] (fun i wr => ∃ (k : Nat) (v : Value), k ≤ L.length ∧ i = .int .i64 (k : Int) ∧ OwnAt w wr base A c L k v) (fun i _ => L.length - (intOf i).toNat)
 case atStart => exact ⟨0, _, by omega, rfl, OwnAt.start w base A c L⟩
 case round =>
  obtain ⟨k, v, hk, rfl, ho⟩ := hrel; have hbig := ho.big; have k0 := ho.b0.c1; have HO := Lib.hid ho; obtain ⟨Av, cv, rfl, _⟩ := ho.own.form (HFA.out k)
  by_cases hlt : k < L.length
  ·obtain ⟨b, o, A1, c1, rfl, hbB, hc, q1, q2, q3, hh⟩ := (H.out.below ho.below).at_ hlt; have HH := Lib.hid hh; have hle := HF.out L[k] (List.getElem_mem hlt); have hlk : (L.take k).length = k := by rw [List.length_take]; omega
   have HS : Hid (L.take (k + 1) = L.take k ++ [L[k]]) := Lib.hid (List.take_succ_eq_append_getElem hlt); clear hh ho; obtain ⟨l, Hl⟩ : ∃ l, Hid (L[k] = l) := ⟨_, Lib.hid rfl⟩; rw [Hl.out] at hc q1 q3 HH hle HS; have hcl : wr.cell? ⟨w.heap.size + 2, 1, none⟩ = some (.slice Av (L.take k).length cv) := HO.out.b2.c1; rw [hlk] at hcl HO; have HLK := Lib.hid hlk; have HCL := Lib.hid hcl; clear hcl hlk; have i0 : (0 : Int) ≤ (k : Int) := by omega
   have i1 : (k : Int) < (L.length : Int) := by omega
   go_wp2_with fail
   have hbel : ∀ (dn : Nat → Bool) (xv : Nat → Value) (W : World), (if dn 12 = true then OwnAt w W base (some ⟨b, o, none⟩) c L (k + 1) (xv 10) else if dn 10 = true then Below (w.heap.size + 3) wr W ∧ OwnB W (w.heap.size + 3) (xv 10) (L.take k ++ [l]) else if dn 9 = true then Below wr.heap.size wr W ∧ Own W wr.heap.size (xv 8) l ∧ OneOf (xv 8) (xv 9) W else if dn 8 = true then Below wr.heap.size wr W ∧ Own W wr.heap.size (xv 8) l else if dn 2 = true then Below wr.heap.size wr W ∧ Own W wr.heap.size (xv 2) [] else Below wr.heap.size wr W) → dn 12 = false → Below (w.heap.size + 3) wr W := fun dn xv W h h0 => by
    rw [if_neg (by simp [h0])] at h; split at h
    ·exact h.1
    split at h
    ·exact h.1.mono hbig
    split at h
    ·exact h.1.mono hbig
    split at h
    ·exact h.1.mono hbig
    exact h.mono hbig
   refine wRG (fun dn xv W => if dn 12 = true then OwnAt w W base (some ⟨b, o, none⟩) c L (k + 1) (xv 10) else if dn 10 = true then Below (w.heap.size + 3) wr W ∧ OwnB W (w.heap.size + 3) (xv 10) (L.take k ++ [l]) else if dn 9 = true then Below wr.heap.size wr W ∧ Own W wr.heap.size (xv 8) l ∧ OneOf (xv 8) (xv 9) W else if dn 8 = true then Below wr.heap.size wr W ∧ Own W wr.heap.size (xv 8) l else if dn 2 = true then Below wr.heap.size wr W ∧ Own W wr.heap.size (xv 2) [] else Below wr.heap.size wr W) (fun _ _ => True) [xP_ (w.heap.size + 2) 1, xV_ (.slice Av k cv), fun v _ => True, xP_ w.heap.size 1, xV_ (.slice (some ⟨b, o, none⟩) L.length c), xV_ (.int .i64 (k : Int)), xP_ b (o + k), xV_ (.slice A1 l.length c1), fun v _ => True, fun v _ => True, fun v _ => True, xP_ (w.heap.size + 2) 1, fun v _ => True] (fun xv => by simpa using (Below.refl _ wr).drew) ?_ ?_
   ·refine Ep 1 3 (w.heap.size + 2) 0 ?_
    refine EC 2 rfl (fun g h W F a b c d e H K f => ?_) ?_
    ·have f15 := gE (a 15) (by kernel_rfl) (H 0) (by kernel_rfl); have hb0 := hbel g h W e (c 12 (uM 10 uE)); have hc0 := (hb0.cell (p := ⟨w.heap.size + 2, 1, none⟩) (show w.heap.size + 2 < w.heap.size + 3 by omega)).trans HCL.out; clear hb0; clear H c b d a; refine oP rfl ?_; go_simp; exact f.out _ _ rfl trivial e
    refine EC 3 rfl (fun g h W F a b c d e H K f => ?_) ?_
    ·have q8 := c 8 uE; have q9 := c 9 (uM 8 uE); have q10 := c 10 (uM 9 (uM 8 uE)); have q12 := c 12 (uM 10 (uM 9 (uM 8 uE))); rw [if_neg (by simp [q12]), if_neg (by simp [q10]), if_neg (by simp [q9]), if_neg (by simp [q8]), if_neg (by simp [b])] at e; have hS := e; clear e c b d a H; refine oP rfl ?_; go_simp; have hb : Below W.heap.size W (W.alloc (.cells #[] 5)) := (Below.refl _ _).alloc (Nat.le_refl _) _; have hs : Below wr.heap.size wr (W.alloc (.cells #[] 5)) ∧ Own (W.alloc (.cells #[] 5)) wr.heap.size (.slice (some ⟨W.heap.size, 0, none⟩) 0 0) [] := ⟨hS.trans (hb.mono hS.size), own_mono (own_empty W) hS.size⟩; exact f.out _ _ trivial trivial (by simpa [upB, upd, q8, q9, q10, q12] using hs)
    refine Ep 4 1 w.heap.size 0 ?_
    refine EC 5 rfl (fun g h W F a b c d e H K f => ?_) ?_
    ·have f18 := gE (a 18) (by kernel_rfl) (H 3) (by kernel_rfl); have hb0 := hbel g h W e (c 12 (uM 10 (uM 9 (uM 8 (uM 7 (uM 6 uE)))))); have hc0 := (hb0.cell (p := ⟨w.heap.size, 1, none⟩) (show w.heap.size < w.heap.size + 3 by omega)).trans k0; clear hb0; clear H c b d a; refine oP rfl ?_; go_simp; exact f.out _ _ rfl trivial e
    refine Ei 6 4 (.int .i64 (k : Int)) ?_
    refine Eee 7 19 4 20 5 ?_
    refine EC 8 rfl (fun h i W F a c d e f H K g => ?_) ?_
    ·have f21 := gE (a 21) (by kernel_rfl) (H 6) (by kernel_rfl); have hb0 := hbel h i W f (d 12 (uM 10 (uM 9 (uM 8 uE)))); have hc0 := (hb0.cell (p := ⟨b, o + k, none⟩) (show b < w.heap.size + 3 by omega)).trans hc; clear hb0; clear H d c e a; refine oP rfl ?_; go_simp; exact g.out _ _ rfl trivial f
    refine EC 9 rfl (fun g h W F a b c d e H K f => ?_) ?_
    ·have f17 : F.tmps.getD 17 undef = h 2 := (a 17).trans (by kernel_rfl); have f22 := gE (a 22) (by kernel_rfl) (H 7) (by kernel_rfl); have q2 := (H 2 uE).1; have q9 := c 9 uE; have q10 := c 10 (uM 9 uE); have q12 := c 12 (uM 10 (uM 9 uE)); rw [if_neg (by simp [q12]), if_neg (by simp [q10]), if_neg (by simp [q9]), if_neg (by simp [b]), if_pos q2] at e; have hS := e; clear e c b d a H; refine oP rfl ?_; refine op_app (base := wr.heap.size) (l := []) (m := l) (B := w.heap.size) (s := .tmp 17) (x := .tmp 22) (by rfl) f17 f22 hS.2 (HH.out.below (hS.1.mono (by omega))) (by simp; omega) hS.1.size ?_; intro v W' ho hb _ _; have hs : Below wr.heap.size wr W' ∧ Own W' wr.heap.size v l := ⟨hS.1.trans hb, ho⟩; exact f.out v W' trivial trivial (by simpa [upB, upd, q9, q10, q12] using hs)
    refine EC 10 rfl (fun g h W F a b c d e H K f => ?_) ?_
    ·have f23 : F.tmps.getD 23 undef = h 8 := (a 23).trans (by kernel_rfl); have q8 := (H 8 uE).1; have q10 := c 10 uE; have q12 := c 12 (uM 10 uE); rw [if_neg (by simp [q12]), if_neg (by simp [q10]), if_neg (by simp [b]), if_pos q8] at e; have hS := e; clear e c b d a H; refine oP rfl ?_; obtain ⟨A2, c2, e2, _⟩ := hS.2.form; have e3 := e2; rw [e2] at f23; have g23 := f23; rw [Array.getD_eq_getD_getElem?] at g23; go_simp; rw [← e3]; have hb : Below W.heap.size W (W.alloc (.cells #[h 8] 47)) := (Below.refl _ _).alloc (Nat.le_refl _) _; have hs : Below wr.heap.size wr (W.alloc (.cells #[h 8] 47)) ∧ Own (W.alloc (.cells #[h 8] 47)) wr.heap.size (h 8) l ∧ OneOf (h 8) (.slice (some ⟨W.heap.size, 0, none⟩) 1 1) (W.alloc (.cells #[h 8] 47)) := ⟨hS.1.trans (hb.mono hS.1.size), own_below hS.2 hb (Nat.le_refl _), OneOf.new W _ _⟩; exact f.out _ _ trivial trivial (by simpa [upB, upd, q10, q12] using hs)
    refine EC 11 rfl (fun g h W F a b c d e H K f => ?_) ?_
    ·have f16 := gE (a 16) (by kernel_rfl) (H 1) (by kernel_rfl); have f24 : F.tmps.getD 24 undef = h 9 := (a 24).trans (by kernel_rfl); have q9 := (H 9 uE).1; have q12 := c 12 uE; rw [if_neg (by simp [q12]), if_neg (by simp [b]), if_pos q9] at e; have hS := e; clear e c b d a H; refine oP rfl ?_; obtain ⟨s1, s2, A3, c3, e3, hh3⟩ := hS; have f24x := f24.trans e3; refine op_appB (base := w.heap.size + 3) (l := l) (u := h 8) (s := .tmp 16) (x := .tmp 24) (by rfl) f16 f24x (HO.out.own.below s1) (own_mono s2 hbig) (apart_new HO.out.own s2) hh3 (by rw [HLK.out]; omega) (Nat.le_trans hbig s1.size) ?_; intro v W' ho hb; have hs : Below (w.heap.size + 3) wr W' ∧ OwnB W' (w.heap.size + 3) v (L.take k ++ [l]) := ⟨(s1.mono hbig).trans hb, ho⟩; exact f.out v _ trivial trivial (by simpa [upB, upd, q12] using hs)
    refine Ep 12 3 (w.heap.size + 2) 0 ?_
    refine EC 13 rfl (fun g h W F a b c d e H K f => ?_) ?_
    ·have f25 : F.tmps.getD 25 undef = h 10 := (a 25).trans (by kernel_rfl); have f26 := gE (a 26) (by kernel_rfl) (H 11) (by kernel_rfl); have q10 := (H 10 uE).1; rw [if_neg (by simp [b]), if_pos q10] at e; have hS := e; clear e c b d a H; refine oP rfl ?_; obtain ⟨s1, s2⟩ := hS; rw [← HS.out] at s2; obtain ⟨A2, c2, e2, _⟩ := s2.form (HFA.out _); obtain ⟨n1, hn1⟩ : ∃ n, (L.take (k + 1)).length = n := ⟨_, rfl⟩; rw [hn1] at e2; clear hn1; have f25x := f25.trans e2; have hc3 := (HO.out.b2.below s1 (by omega)).c1; have hf3 := (HO.out.b2.below s1 (by omega)).f1; have hs := HO.out.next s1 s2; go_simp; rw [← e2]; exact f.out undef _ trivial trivial (by simpa [upB, upd] using hs)
    exact EN
   ·intro dn xv W hI H; have qe : dn 12 = true := (H 12 (of_decide_eq_true (by kernel_rfl))).1; rw [if_pos qe] at hI; have hS := hI; clear H hI qe; simp only [putAll, Act.put, List.setIfInBounds_toArray, List.set_cons_zero, List.set_cons_succ, Nat.reduceAdd]
    go_wp2_with fail
    go_roundw
    case rel => exact ⟨k + 1, _, by omega, by go_num, hS⟩
    case measure => simp [intOf]; omega
  ·have hk2 : k = L.length := by omega
   subst hk2; have k00 := ho.b0.c0; have k10 := ho.b1.c0; have k11 := ho.b1.c1; have k12 := ho.b1.f0; have k13 := ho.b1.f1; have k20 := ho.b2.c0; have k21 := ho.b2.c1; have hown := ho.own; rw [List.take_length] at k21 hown HO; have HW := Lib.hid hown; have HBE := Lib.hid ho.below; clear ho hown; go_wp2; refine bodyPost_ret (v := .agg #[.int .u64 (base : Int), .slice Av L.length cv]) (by simp [results, Try.results75, go_sem, k10, k11]) rfl ?_; exact ⟨_, rfl, ((HW.out.set (by omega) _).set (by omega) _).mono (by omega), (HBE.out.setCell (by simp) _).setCell (by simp) _⟩
end Go.Proofs.Ytngegjboenfmeaa
