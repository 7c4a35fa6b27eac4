/- Part 2 of the texts of a claim: WinA SepL LnkG WinB WinC WinD WinE WinF WinG WinGS Lnk7 Lnk8 LnkA LnkC LnkD LnkE LkS Two TwL TwO TwA SepX WinH -/
import Derived.Test.YtngegjboenfmeaaPc1
import Derived.Deep.CutBlock
import Derived.Deep.DeepCutAuto
import Derived.IntWalk
import Derived.RangeFuncNested
import Derived.RangeFuncBound
import Derived.RangeFuncCalls
import Derived.RangeFuncLeaves
import Derived.Shelf.Abstract
import Derived.Shelf.RegionOpen
import Derived.WalkKit
import Derived.OwnWalkIn
import Derived.TacticsInMore
import Derived.LoopNIn
import Derived.LoopIn
import Derived.Stop.RegionWithIn
import Derived.StillTailTactics
namespace Go.Proofs.Ytngegjboenfmeaa
open Go Go.RowKit
set_option linter.unusedVariables false
set_option maxRecDepth 100000

/-- bodies in memory: the cells at A are slices that hold L -/
def Bx (w : World) (B : Nat) (A : Option Addr) (L : List (List UInt8)) : Prop := ∃ vs, Has w B A vs ∧ Parts w B vs L
theorem Bx.below {w w' : World} {B : Nat} {A : Option Addr} {L : List (List UInt8)} (h : Bx w B A L) (hb : Below B w w') : Bx w' B A L := by
  obtain ⟨vs, h1, h2⟩ := h; exact ⟨vs, h1.below hb, h2.below hb⟩
theorem Sl.more {w : World} {B B' n : Nat} {v : Value} {xs : List Value} (h : Sl w B n v xs) (hB : B ≤ B') : Sl w B' n v xs := by
  obtain ⟨A, m, c, h1, h2, h3, h4, h5, h6⟩ := h; exact ⟨A, m, c, h1, h2, h3, h4, h5, h6.more hB⟩
theorem Bx.more {w : World} {B B' : Nat} {A : Option Addr} {L : List (List UInt8)} (h : Bx w B A L) (hB : B ≤ B') : Bx w B' A L := by
  obtain ⟨vs, h1, h2⟩ := h; exact ⟨vs, h1.more hB, h2.1, fun i v l hv hl => (h2.2 i v l hv hl).more hB⟩
theorem Bx.nil {w : World} {B : Nat} {A : Option Addr} : Bx w B A [] := ⟨[], Has.nil, Parts.nil⟩
/-- a body of it -/
theorem Bx.at_ {w : World} {B : Nat} {A : Option Addr} {L : List (List UInt8)} (h : Bx w B A L) {k : Nat} (hk : k < L.length) :
    ∃ b o A1 c1, A = some ⟨b, o, none⟩ ∧ b < B ∧ w.cell? ⟨b, o + k, none⟩ = some (.slice A1 (L[k]).length c1) ∧ (L[k]).length ≤ c1 ∧ c1 ≤ maxLen ∧ (L[k]).length ≤ 140737488355328 ∧ Has w B A1 (us L[k]) := by
  obtain ⟨vs, h1, h2⟩ := h; have hl := h2.1; obtain ⟨b, o, rfl, hb, hc⟩ := h1.at_ (show k < vs.length by omega); obtain ⟨A1, c1, hv, hr⟩ := h2.at_ (show k < vs.length by omega); rw [hv] at hc; exact ⟨b, o, A1, c1, rfl, hb, hc, hr⟩
theorem Parts.take {w : World} {B : Nat} {vs : List Value} {L : List (List UInt8)} (h : Parts w B vs L) (k : Nat) : Parts w B (vs.take k) (L.take k) :=
  ⟨by have := h.1; simp; omega, fun i v l hv hl => by
    rw [List.getElem?_take] at hv hl; split at hv
    · rw [if_pos ‹_›] at hl; exact h.2 i v l hv hl
    · cases hv⟩
theorem Parts.drop {w : World} {B : Nat} {vs : List Value} {L : List (List UInt8)} (h : Parts w B vs L) (k : Nat) : Parts w B (vs.drop k) (L.drop k) :=
  ⟨by have := h.1; simp; omega, fun i v l hv hl => by
    rw [List.getElem?_drop] at hv hl; exact h.2 _ v l hv hl⟩
theorem Bx.take {w : World} {B : Nat} {A : Option Addr} {L : List (List UInt8)} (h : Bx w B A L) (k : Nat) : Bx w B A (L.take k) := by
  obtain ⟨vs, h1, h2⟩ := h; exact ⟨_, h1.take k, h2.take k⟩
theorem Bx.drop {w : World} {B : Nat} {A : Option Addr} {L : List (List UInt8)} (h : Bx w B A L) (k cap : Nat) (hc : L.length ≤ cap) : Bx w B (if cap = k then A else A.map (·.add (k * 1))) (L.drop k) := by
  obtain ⟨vs, h1, h2⟩ := h; have := h1.drop k 1 cap (by have := h2.1; omega); rw [Nat.mul_one] at this ⊢; exact ⟨_, this, h2.drop k⟩

theorem info_bs : (Try.prog.info? 47).map (fun i => (i.zero, i.size, i.bytes)) = some (some (.slice none 0 0), 1, 24) := by kernel_rfl

/-- bodies of the call's own -/
def OwnB (w : World) (base : Nat) (v : Value) (L : List (List UInt8)) : Prop :=
  ∃ vs, vs.length = L.length ∧ w.ownsRow base 47 1 v L.length vs ∧ ∀ (i : Nat) (u : Value) (l : List UInt8), vs[i]? = some u → L[i]? = some l → Own w base u l ∧ ∀ g, u.ownBlock = some g → v.ownBlock ≠ some g
theorem OwnB.nil (w : World) (base : Nat) : OwnB w base (.slice none 0 0) [] := ⟨[], rfl, World.ownsRow_nil w base _ 1, fun i u l h => by simp at h⟩
theorem own_lt {w : World} {base : Nat} {v : Value} {l : List UInt8} {g : Nat} (h : Own w base v l) (hg : v.ownBlock = some g) : base ≤ g ∧ g < w.heap.size := by
  have := World.ownsRow.lt h g hg
  exact this
theorem row_keep {w w' : World} {base e n : Nat} {v : Value} {xs : List Value} (h : w.ownsRow base e 1 v n xs) (hk : ∀ k, v.ownBlock = some k → w'.heap[k]? = w.heap[k]?) : w'.ownsRow base e 1 v n xs := by
  refine ⟨h.1, ?_⟩
  rcases h.2 with h0 | ⟨g, cap, cur, rfl, h2, h3, h4⟩
  · exact .inl h0
  · exact .inr ⟨g, cap, cur, rfl, h2, by rw [hk g rfl]; exact h3, h4⟩
theorem OwnB.keep {w w' : World} {base : Nat} {v : Value} {L : List (List UInt8)} (h : OwnB w base v L) (hk : ∀ k, base ≤ k → k < w.heap.size → w'.heap[k]? = w.heap[k]?) : OwnB w' base v L := by
  obtain ⟨vs, h1, h2, h3⟩ := h; refine ⟨vs, h1, row_keep h2 fun k hv => ?_, fun i u l hu hl => ⟨?_, (h3 i u l hu hl).2⟩⟩
  · have := World.ownsRow.lt h2 k hv
    exact hk k this.1 this.2
  · refine row_keep (h3 i u l hu hl).1 fun k hv => ?_
    have := own_lt (h3 i u l hu hl).1 hv
    exact hk k this.1 this.2
theorem OwnB.below {w w' : World} {base : Nat} {v : Value} {L : List (List UInt8)} (h : OwnB w base v L) (hb : Below w.heap.size w w') : OwnB w' base v L :=
  h.keep fun k _ hk => hb.block k hk
theorem OwnB.form {w : World} {base : Nat} {v : Value} {L : List (List UInt8)} (h : OwnB w base v L) (hL : ∀ l ∈ L, l.length ≤ 140737488355328) : ∃ A c, v = .slice A L.length c ∧ L.length ≤ c ∧ c ≤ maxLen ∧ Bx w w.heap.size A L := by
  obtain ⟨vs, h1, h2, h3⟩ := h; have hp : Parts w w.heap.size vs L := ⟨h1, fun i u l hu hl => by
    obtain ⟨A, c, rfl, ha, hb, hc⟩ := (h3 i u l hu hl).1.form; exact Sl.mk' hc ha hb (hL l (List.mem_of_getElem? hl))⟩
  have h2' := h2
  rcases h2.2 with ⟨rfl, hn⟩ | ⟨g, cap, cur, rfl, _, _, hnc, hm, _⟩
  · refine ⟨none, 0, by rw [hn], by omega, by unfold maxLen; omega, vs, ?_, hp⟩
    rw [List.eq_nil_of_length_eq_zero (show vs.length = 0 by omega)]; exact Has.nil
  · exact ⟨_, cap, rfl, hnc, hm, vs, Has.of_own h2', hp⟩
theorem OwnB.mono {w : World} {b b' : Nat} {v : Value} {L : List (List UInt8)} (h : OwnB w b v L) (hb : b' ≤ b) : OwnB w b' v L := by
  obtain ⟨vs, h1, h2, h3⟩ := h; refine ⟨vs, h1, ⟨h2.1, ?_⟩, fun i u l hu hl => ⟨own_mono (h3 i u l hu hl).1 hb, (h3 i u l hu hl).2⟩⟩
  rcases h2.2 with h0 | ⟨g, cap, cur, h1, h2, h3⟩
  · exact .inl h0
  · exact .inr ⟨g, cap, cur, h1, Nat.le_trans hb h2, h3⟩

/-- what is new lies apart from what was there -/
theorem apart_new {w w' : World} {base : Nat} {v u : Value} {L : List (List UInt8)} {l : List UInt8} (h : OwnB w base v L) (hu : Own w' w.heap.size u l) : ∀ g, u.ownBlock = some g → v.ownBlock ≠ some g := by
  intro g hg hv; obtain ⟨vs, _, h2, _⟩ := h; have h1 := (World.ownsRow.lt h2 g hv).2; have h3 := (own_lt hu hg).1; omega
/-- a body is put behind bodies of the call's own -/
theorem run_appB {w : World} {ty : TypeId} {base B c : Nat} {v u : Value} {A : Option Addr} {L : List (List UInt8)} {l : List UInt8}
    (hown : OwnB w base v L) (hu : Own w base u l) (hap : ∀ g, u.ownBlock = some g → v.ownBlock ≠ some g) (hr : Has w B A [u]) (hlen : L.length ≤ 1000000000000) (hbase : base ≤ w.heap.size) :
    ∃ v' w', (Builtin.append_ #[66, 66] ty #[v, .slice A 1 c]).run Try.prog w = .ok v' w' ∧ OwnB w' base v' (L ++ [l]) ∧ Below base w w' := by
  obtain ⟨i0, hi, hz0, hz1, hz2⟩ := info_parts info_bs; obtain ⟨vs, h1, h2, h3⟩ := hown; have hone : u.oneCell' = true := by
    obtain ⟨A', c', rfl, _⟩ := hu.form; rfl
  obtain ⟨v', w', hrun, g1, g2, g3⟩ := run_append_has (P := Try.prog) w base 66 ty 47 i0 _ 1 24 Try.underlying66 hi hz0 hz1 hz2 rfl (by omega) v L.length vs h2 B A 1 c [u] (by simp) hr (by simpa using hone) (by unfold maxLen; omega) (by omega) hbase; have hbel : Below base w w' := (Below.refl _ _).grown g2 hbase (fun k hk => (World.ownsRow.lt h2 k hk).1); have hkeep : ∀ u' l', Own w base u' l' → (∀ g, u'.ownBlock = some g → v.ownBlock ≠ some g) → Own w' base u' l' ∧ ∀ g, u'.ownBlock = some g → v'.ownBlock ≠ some g := fun u' l' hu' ha' =>
    ⟨row_keep hu' fun k hk => g2.block k (own_lt hu' hk).2 (fun e => ha' k hk e.symm), fun g hg e => by
      rcases g3 with g3 | g3
      · exact ha' g hg (g3.symm.trans e)
      · rw [g3] at e
        injection e with e; have := (own_lt hu' hg).2; omega⟩
  refine ⟨v', w', hrun, ⟨vs ++ [u], by simp [h1], by rw [List.length_append]; exact g1, fun i u' l' hu' hl' => ?_⟩, hbel⟩
  rcases Nat.lt_or_ge i vs.length with hlt | hge
  · rw [List.getElem?_append_left hlt] at hu'
    rw [List.getElem?_append_left (by omega)] at hl'; exact hkeep u' l' (h3 i u' l' hu' hl').1 (h3 i u' l' hu' hl').2
  · rw [List.getElem?_append_right hge] at hu'
    rw [List.getElem?_append_right (by omega)] at hl'; have hi0 : i - vs.length = 0 := by
      rcases Nat.eq_zero_or_pos (i - vs.length) with h0 | h0
      · exact h0
      · rw [List.getElem?_eq_none (by simp; omega)] at hu'; cases hu'
    rw [hi0] at hu'; rw [show i - L.length = 0 by omega] at hl'; simp at hu' hl'; subst hu' hl'; exact hkeep _ _ hu hap
theorem op_appB {w : World} {o : Oper} {a : Act} {K : Act → World → Prop} {Q : Exit → Act → World → Prop} {s x : Operand} {base B c : Nat} {v u : Value} {A : Option Addr} {L : List (List UInt8)} {l : List UInt8}
    (ho : o.op = .call { callee := .builtin .append, args := #[s, x], argTypes := #[66, 66] }) (hs : a.eval s = v) (hx : a.eval x = .slice A 1 c)
    (hown : OwnB w base v L) (hu : Own w base u l) (hap : ∀ g, u.ownBlock = some g → v.ownBlock ≠ some g) (hr : Has w B A [u]) (hlen : L.length ≤ 1000000000000) (hbase : base ≤ w.heap.size)
    (h : ∀ v' w', OwnB w' base v' (L ++ [l]) → Below base w w' → K (a.put o.dst v') w') : Oper.wp Try.prog o a w K Q := by
  obtain ⟨v', w', hrun, h1, h2⟩ := run_appB (ty := o.type) (c := c) hown hu hap hr hlen hbase; unfold Oper.wp execOp; simp only [ho, resolve, invoke, builtin, Sem.run_bind, Sem.run_pure, Result.andThen_ok, List.map_toArray, List.map_cons, List.map_nil, hs, hx, hrun]; exact h v' w' h1 h2
theorem wp_appB {w : World} {ops : Array Oper} {rest : List Oper} {o : Oper} {a : Act} {Q : Exit → Act → World → Prop} {s x : Operand} {base B c : Nat} {v u : Value} {A : Option Addr} {L : List (List UInt8)} {l : List UInt8} (hgd : o.guard = none)
    (ho : o.op = .call { callee := .builtin .append, args := #[s, x], argTypes := #[66, 66] }) (hs : a.eval s = v) (hx : a.eval x = .slice A 1 c)
    (hown : OwnB w base v L) (hu : Own w base u l) (hap : ∀ g, u.ownBlock = some g → v.ownBlock ≠ some g) (hr : Has w B A [u]) (hlen : L.length ≤ 1000000000000) (hbase : base ≤ w.heap.size)
    (h : ∀ v' w', OwnB w' base v' (L ++ [l]) → Below base w w' → wpList Try.prog ops Q rest (a.put o.dst v') w') : wpList Try.prog ops Q (o :: rest) a w :=
  wpList_plain hgd fun K hK => op_appB ho hs hx hown hu hap hr hlen hbase fun v' w' h1 h2 => hK _ _ (h v' w' h1 h2)

set_option maxHeartbeats 400000 in
theorem clone_any (w : World) (B : Nat) (A : Option Addr) (c : Nat) (l : List UInt8) (h : Has w B A (us l)) (hB : B ≤ w.heap.size) (hl : l.length ≤ 1000000000) :
    Calls Try.prog 44 #[.slice A l.length c] w fun e w' => ∃ v, e = .returned v ∧ Own w' w.heap.size v l ∧ Below w.heap.size w w' := by
  rcases A with _ | a
  · have hl0 : l = [] := by
      cases l with
      | nil => rfl
      | cons x l =>
        obtain ⟨b, o, h, _⟩ := h.at_ (show 0 < (us (x :: l)).length by simp [us]); cases h
    subst hl0; have hq := Lib.run_eql_slice_nil (P := Try.prog) w 47 5 none 0 c 0 0 Try.underlying47; go_enter Try.func44, Try.ntmps44; go_wp2
    go_ret
    exact ⟨_, rfl, Own.nil _ _, Below.refl _ _⟩
  · have hq := Lib.run_eql_slice_nil (P := Try.prog) w 47 5 (some a) l.length c 0 0 Try.underlying47
    go_enter Try.func44, Try.ntmps44
    go_wp2_with (at_builtin; refine wp_app (c := c) rfl rfl (by rfl) (by rfl) (own_empty w) (h.alloc hB _) (by simp; omega) (by simp) ?_; intro v' w1 hown1 hb1 _ _)
    go_ret
    exact ⟨v', rfl, hown1, ((Below.refl _ _).alloc (Nat.le_refl _) _).trans hb1⟩

/-- the lists that are copied are short -/
def Fit (L : List (List UInt8)) : Prop := L.length ≤ 1000000 ∧ ∀ l ∈ L, l.length ≤ 1000000
theorem Fit.take {L : List (List UInt8)} (h : Fit L) (k : Nat) : Fit (L.take k) := ⟨by have := h.1; simp; omega, fun l hl => h.2 l (List.mem_of_mem_take hl)⟩
theorem Fit.drop {L : List (List UInt8)} (h : Fit L) (k : Nat) : Fit (L.drop k) := ⟨by have := h.1; simp; omega, fun l hl => h.2 l (List.mem_of_mem_drop hl)⟩

set_option maxHeartbeats 800000 in
theorem copied_any (w : World) (B : Nat) (A : Option Addr) (c : Nat) (L : List (List UInt8)) (h : Bx w B A L) (hB : B ≤ w.heap.size) (hf : Fit L) :
    Calls Try.prog 58 #[.slice A L.length c] w fun e w' => ∃ v, e = .returned v ∧ OwnB w' w.heap.size v L ∧ Below w.heap.size w w' := by
  have h1 := hf.1; have HF := Lib.hid hf.2; have H := Lib.hid h; clear h hf; go_enter Try.func58, Try.ntmps58; go_wp2
  go_loopw [3, 8] (fun v i wr => ∃ k : Nat, k ≤ L.length ∧ i = .int .i64 (k : Int) ∧ OwnB wr w.heap.size v (L.take k) ∧ Below w.heap.size w wr) (fun _ i _ => L.length - (intOf i).toNat)
  case atStart => exact ⟨0, by omega, rfl, OwnB.nil _ _, Below.refl _ _⟩
  case round =>
    obtain ⟨k, hk, rfl, ho, hb⟩ := hrel; have HO := Lib.hid ho; clear ho
    by_cases hlt : k < L.length
    · obtain ⟨b, o, A1, c1, rfl, hbB, hc, q1, q2, q3, hh⟩ := (H.out.below (hb.mono hB)).at_ hlt
      have HH := Lib.hid hh; have hle := HF.out L[k] (List.getElem_mem hlt); clear hh; obtain ⟨l, Hl⟩ : ∃ l, Hid (L[k] = l) := ⟨_, Lib.hid rfl⟩; rw [Hl.out] at hc q1 q3 HH hle
      go_wp2_with fail
      refine (clone_any wr B A1 c1 l HH.out (Nat.le_trans hB hb.size) (by omega)).mono ?_; rintro e w1 ⟨v1, rfl, ho1, hb1⟩; obtain ⟨A2, c2, rfl, _, _, _⟩ := ho1.form; have HO1 := Lib.hid ho1; have HP := Lib.hid (HO.out.below hb1); have hz := hb.size; have hz1 := hb1.size; clear ho1
      go_wp2_with (at_builtin; go_must (refine wp_appB (base := w.heap.size) (u := .slice A2 l.length c2) (l := l) rfl rfl (by rfl) (by rfl) (HP.out.below ((Below.refl _ _).alloc (Nat.le_refl _) _)) (own_mono (own_below HO1.out ((Below.refl _ _).alloc (Nat.le_refl _) _) (Nat.le_refl _)) hz) (apart_new HO.out HO1.out) (has_new w1 #[.slice A2 l.length c2] 47) (by simp; omega) (le_alloc (by omega) _) ?_); intro v' w2 hown2 hb2)
      go_roundw
      case rel =>
        refine ⟨k + 1, by omega, by go_num, ?_, (hb.trans (hb1.mono hz)).trans (((Below.refl _ _).alloc (by omega) _).trans hb2)⟩; rw [List.take_succ_eq_append_getElem hlt, Hl.out]; exact hown2
      case measure => simp [intOf]; omega
    · go_wp2
      go_ret
      rw [List.take_of_length_le (by omega)] at HO; exact ⟨_, rfl, HO.out, hb⟩
end Go.Proofs.Ytngegjboenfmeaa
/- Bodies as things that lie apart: a box of bodies, and bodies that are told. No program in sight. -/
namespace Go.Proofs.Ytngegjboenfmeaa
open Go Go.RowKit
set_option linter.unusedVariables false

/-- a box of bodies, in blocks of its own -/
def BoxT (v : Value) (L : List (List UInt8)) : SP := fun w F => (∀ k, F k → k < w.heap.size) ∧
 ∃ vs, vs.length = L.length ∧ w.ownsRow 0 47 1 v L.length vs ∧ (∀ k, v.ownBlock = some k → F k) ∧ ∀ (i : Nat) (u : Value) (l : List UInt8), vs[i]? = some u → L[i]? = some l → Own w 0 u l ∧ ∀ k, u.ownBlock = some k → F k
theorem lt_keep {w w' : World} {k : Nat} (hk : k < w.heap.size) (h : w'.heap[k]? = w.heap[k]?) : k < w'.heap.size := by
 rw [Array.getElem?_eq_getElem hk] at h; exact (Array.getElem?_eq_some_iff.1 h).1
theorem BoxT.loc (v : Value) (L : List (List UInt8)) : Loc (BoxT v L) where
 keep := by
  rintro w w' F ⟨h0, vs, h1, h2, h3, h4⟩ hk; exact ⟨fun k hF => lt_keep (h0 k hF) (hk k hF), vs, h1, row_keep h2 fun k hv => hk k (h3 k hv), h3, fun i u l hu hl => ⟨row_keep (h4 i u l hu hl).1 fun k hv => hk k ((h4 i u l hu hl).2 k hv), (h4 i u l hu hl).2⟩⟩
 lt := by
  rintro w F ⟨h0, _⟩ k hk; exact h0 k hk
/-- bodies, each with its value -/
def Bods (LB : List (Value × List UInt8)) : SP := fun w F => (∀ k, F k → k < w.heap.size) ∧ ∀ x ∈ LB, Own w 0 x.1 x.2 ∧ ∀ k, x.1.ownBlock = some k → F k
theorem Bods.loc (LB : List (Value × List UInt8)) : Loc (Bods LB) where
 keep := by
  rintro w w' F ⟨h0, h1⟩ hk; exact ⟨fun k hF => lt_keep (h0 k hF) (hk k hF), fun x hx => ⟨row_keep (h1 x hx).1 fun k hv => hk k ((h1 x hx).2 k hv), (h1 x hx).2⟩⟩
 lt := by
  rintro w F ⟨h0, _⟩ k hk; exact h0 k hk
section
variable {w0 w w' : World} {Ps : List SP} {i : Nat} {v : Value} {L : List (List UInt8)}
theorem boxT_of_own (hb : Below w.heap.size w w') (ho : OwnB w' w.heap.size v L) : BoxT v L w' (fun k => w.heap.size ≤ k ∧ k < w'.heap.size) := by
 obtain ⟨vs, h1, h2, h3⟩ := ho; refine ⟨fun k h => h.2, vs, h1, ?_, fun k hk => World.ownsRow.lt h2 k hk, fun i u l hu hl => ⟨own_mono (h3 i u l hu hl).1 (Nat.zero_le _), fun k hk => own_lt (h3 i u l hu hl).1 hk⟩⟩; refine ⟨h2.1, ?_⟩
 rcases h2.2 with h0 | ⟨g, cap, cur, e1, e2, e3⟩
 ·exact .inl h0
 ·exact .inr ⟨g, cap, cur, e1, Nat.zero_le _, e3⟩
/-- a new box -/
theorem sep_boxNew (h : Sep w0 w Ps) (hb : Below w.heap.size w w') (ho : OwnB w' w.heap.size v L) : Sep w0 w' (BoxT v L :: Ps) :=
 (h.add (F := fun k => w.heap.size ≤ k ∧ k < w'.heap.size) hb (boxT_of_own hb ho) (BoxT.loc _ _) (fun k hk => hk.1)).lastFront
theorem sep_boxNil (h : Sep w0 w Ps) : Sep w0 w (BoxT (.slice none 0 0) [] :: Ps) :=
 (h.add (F := fun _ => False) (Below.refl _ _) ⟨fun k h => h.elim, [], rfl, World.ownsRow_nil w 0 _ 1, fun k h => by simp [Value.ownBlock] at h, fun i u l h => by simp at h⟩ (BoxT.loc _ _) (fun k h => h.elim)).lastFront
theorem sep_boxForm (h : Sep w0 w Ps) (hi : Ps[i]? = some (BoxT v L)) (hL : ∀ l ∈ L, l.length ≤ 140737488355328) : ∃ A c, v = .slice A L.length c ∧ L.length ≤ c ∧ c ≤ maxLen ∧ Bx w w.heap.size A L := by
 obtain ⟨F, h0, vs, h1, h2, h3, h4⟩ := h.get hi; have hp : Parts w w.heap.size vs L := ⟨h1, fun i u l hu hl => by
  obtain ⟨A, c, rfl, ha, hb, hc⟩ := (h4 i u l hu hl).1.form; exact Sl.mk' hc ha hb (hL l (List.mem_of_getElem? hl))⟩
 have h2' := h2
 rcases h2.2 with ⟨rfl, hn⟩ | ⟨g, cap, cur, rfl, _, _, hnc, hm, _⟩
 ·refine ⟨none, 0, by rw [hn], by omega, by unfold maxLen; omega, vs, ?_, hp⟩; rw [List.eq_nil_of_length_eq_zero (show vs.length = 0 by omega)]; exact Has.nil
 ·exact ⟨_, cap, rfl, hnc, hm, vs, Has.of_own h2', hp⟩
/-- a box is told as an empty one -/
theorem sep_boxGone (h : Sep w0 w Ps) (hi : Ps[i]? = some (BoxT v L)) : Sep w0 w (Ps.set i (BoxT (.slice none 0 0) [])) :=
 h.turn hi (fun F ⟨h0, _⟩ => ⟨h0, [], rfl, World.ownsRow_nil w 0 _ 1, fun k h => by simp [Value.ownBlock] at h, fun i u l h => by simp at h⟩) (BoxT.loc _ _)
theorem sep_bodsNil (h : Sep w0 w Ps) : Sep w0 w (Bods [] :: Ps) :=
 (h.add (F := fun _ => False) (Below.refl _ _) ⟨fun k h => h.elim, fun x h => by simp at h⟩ (Bods.loc _) (fun k h => h.elim)).lastFront
/-- a body that is new memory is told, too -/
theorem sep_bodsAdd {LB : List (Value × List UInt8)} {l : List UInt8} (h : Sep w0 w Ps) (hi : Ps[i]? = some (Bods LB)) (hb : Below w.heap.size w w') (ho : Own w' w.heap.size v l) : Sep w0 w' (Ps.set i (Bods (LB ++ [(v, l)]))) := by
 obtain ⟨F, ⟨h0, h1⟩, hL, hlt, hk⟩ := h.upd hi; refine hk w' _ (fun k => F k ∨ (w.heap.size ≤ k ∧ k < w'.heap.size)) ⟨hb.os, hb.tape, hb.output, hb.size, fun k hk _ => hb.block k hk, fun k hk => hk.imp id fun h => h.1⟩ ⟨?_, ?_⟩ (Bods.loc _)
 ·rintro k (h | h)
  ·have := h0 k h; have := hb.size; omega
  ·exact h.2
 ·intro x hx
  rcases List.mem_append.1 hx with hx | hx
  ·exact ⟨row_keep (h1 x hx).1 fun k hv => hb.block k (h0 k ((h1 x hx).2 k hv)), fun k hv => .inl ((h1 x hx).2 k hv)⟩
  ·rw [List.mem_singleton.1 hx]; exact ⟨own_mono ho (Nat.zero_le _), fun k hv => .inr (own_lt ho hv)⟩
/-- the empty body -/
theorem sep_bodsNone {LB : List (Value × List UInt8)} (h : Sep w0 w Ps) (hi : Ps[i]? = some (Bods LB)) : Sep w0 w (Ps.set i (Bods (LB ++ [(.slice none 0 0, [])]))) :=
 sep_bodsAdd h hi (Below.refl _ _) (Own.nil _ _)
theorem sep_bodsAt {LB : List (Value × List UInt8)} {u : Value} {l : List UInt8} (h : Sep w0 w Ps) (hi : Ps[i]? = some (Bods LB)) (hx : (u, l) ∈ LB) : ∃ A c, u = .slice A l.length c ∧ l.length ≤ c ∧ c ≤ maxLen ∧ Has w w.heap.size A (us l) := by
 obtain ⟨F, _, h1⟩ := h.get hi; exact (h1 _ hx).1.form
/-- fewer bodies are told -/
theorem sep_bodsLess {LB LC : List (Value × List UInt8)} (h : Sep w0 w Ps) (hi : Ps[i]? = some (Bods LB)) (hs : ∀ x ∈ LC, x ∈ LB) : Sep w0 w (Ps.set i (Bods LC)) :=
 h.turn hi (fun F ⟨h0, h1⟩ => ⟨h0, fun x hx => h1 x (hs x hx)⟩) (Bods.loc _)
end
/-- a thing in which a body can be read -/
def Reads (X : SP) (A : Option Addr) (l : List UInt8) : Prop := ∀ w F, X w F → Has w w.heap.size A (us l)
theorem sep_reads {w0 w : World} {Ps : List SP} {i : Nat} {X : SP} {A : Option Addr} {l : List UInt8} (h : Sep w0 w Ps) (hi : Ps[i]? = some X) (hr : Reads X A l) : Has w w.heap.size A (us l) := by
 obtain ⟨F, h⟩ := h.get hi; exact hr w F h
theorem reads_bods {LB : List (Value × List UInt8)} {A : Option Addr} {c : Nat} {l : List UInt8} (hx : (Value.slice A l.length c, l) ∈ LB) : Reads (Bods LB) A l := by
 rintro w F ⟨_, h1⟩; obtain ⟨A', c', e, _, _, hh⟩ := (h1 _ hx).1.form; simp only [Value.slice.injEq] at e; rw [e.1]; exact hh
end Go.Proofs.Ytngegjboenfmeaa
/- What a link tells behind what was told; going down; the last number that is due; data. -/
namespace Go.Proofs.Ytngegjboenfmeaa
open Go Go.RowKit
set_option linter.unusedVariables false
set_option maxRecDepth 100000
set_option linter.unusedSimpArgs false

theorem u64_wrapG {x : Int} (h0 : 0 ≤ x) (h1 : x < 18446744073709551616) : IntKind.u64.wrap x = x := by
 exact IntWalk.u64_in x ⟨h0, by omega⟩
set_option maxHeartbeats 3200000 in
theorem tellG {w0 w : World} {Qs : List SP} {o q1 q0 g base : Nat} {bx vF vE : Value} {got : Nat} {sn : Int} {si : Nat} {peer : Int} {conn inc known heard sent : Nat} {up : Bool} {m : Nat} {ys : List Value} (kind : Int) (BA : Option Addr) (bn bc : Nat) (h : Sep w0 w (Rw 49 4 vE m ys :: Ce o 43 #[vF, vE] :: Ce q1 92 #[.pointer (some ⟨o, 0, none⟩)] :: Ce q0 26 #[.pointer (some ⟨g, 0, none⟩)] :: Ce g 72 #[.int .u64 (base : Int), bx, .int .u64 (got : Int), .int .i64 sn, .int .u64 (si : Int), .int .i64 peer, .int .u64 (conn : Int), .int .u64 (inc : Int), .int .u64 (known : Int), .bool up, .int .u64 (heard : Int), .int .u64 (sent : Int)] :: Qs)) (hsn : sn ≠ 0) (hm : m ≤ 1000000) :
  Calls Try.prog 56 #[.int .i64 kind, .slice BA bn bc, .pointer (some ⟨q1, 0, none⟩), .pointer (some ⟨q0, 0, none⟩)] w fun e w' => e = .returned (.tuple #[]) ∧ ∃ vE, Sep w0 w' (Rw 49 4 vE (m + 1) (ys ++ [.int .i64 kind, .int .i64 peer, .int .u64 (inc : Int), .slice BA bn bc]) :: Ce o 43 #[vF, vE] :: Ce q1 92 #[.pointer (some ⟨o, 0, none⟩)] :: Ce q0 26 #[.pointer (some ⟨g, 0, none⟩)] :: Ce g 72 #[.int .u64 (base : Int), bx, .int .u64 (got : Int), .int .i64 sn, .int .u64 (si : Int), .int .i64 peer, .int .u64 (conn : Int), .int .u64 (inc : Int), .int .u64 (known : Int), .bool up, .int .u64 (heard : Int), .int .u64 (sent : Int)] :: Qs) := by
 have HS0 := Lib.hid h; have HPE := Lib.hid (fun (W : World) hh => peer_any W g base bx got sn si peer conn inc known up heard sent hsn hh); obtain ⟨xs, HXS⟩ : ∃ l, Hid ((#[.int .i64 kind, .int .i64 peer, .int .u64 (inc : Int), .slice BA bn bc] : Array Value).toList = l) := ⟨_, Lib.hid rfl⟩; have HX1 : Hid (∀ u ∈ xs, u.oneCell' = true) := Lib.hid (by
  rw [← HXS.out]; intro u hu; simp only [List.mem_cons, List.not_mem_nil, or_false] at hu
  rcases hu with rfl | rfl | rfl | rfl <;> rfl)
 have HKO : ∀ (dn : Nat → Bool) (xv : Nat → Value) (W : World), (if dn 14 = true then ∃ vE, Sep w0 W (Rw 49 4 vE (m + 1) (ys ++ xs) :: Ce o 43 #[vF, vE] :: Ce q1 92 #[.pointer (some ⟨o, 0, none⟩)] :: Ce q0 26 #[.pointer (some ⟨g, 0, none⟩)] :: Ce g 72 #[.int .u64 (base : Int), bx, .int .u64 (got : Int), .int .i64 sn, .int .u64 (si : Int), .int .i64 peer, .int .u64 (conn : Int), .int .u64 (inc : Int), .int .u64 (known : Int), .bool up, .int .u64 (heard : Int), .int .u64 (sent : Int)] :: Qs) else if dn 11 = true then Sep w0 W (Rw 49 4 (xv 11) (m + 1) (ys ++ xs) :: Ce o 43 #[vF, vE] :: Ce q1 92 #[.pointer (some ⟨o, 0, none⟩)] :: Ce q0 26 #[.pointer (some ⟨g, 0, none⟩)] :: Ce g 72 #[.int .u64 (base : Int), bx, .int .u64 (got : Int), .int .i64 sn, .int .u64 (si : Int), .int .i64 peer, .int .u64 (conn : Int), .int .u64 (inc : Int), .int .u64 (known : Int), .bool up, .int .u64 (heard : Int), .int .u64 (sent : Int)] :: Qs) else if dn 10 = true then Sep w0 W (Rw 49 4 vE m ys :: Ce o 43 #[vF, vE] :: Ce q1 92 #[.pointer (some ⟨o, 0, none⟩)] :: Ce q0 26 #[.pointer (some ⟨g, 0, none⟩)] :: Ce g 72 #[.int .u64 (base : Int), bx, .int .u64 (got : Int), .int .i64 sn, .int .u64 (si : Int), .int .i64 peer, .int .u64 (conn : Int), .int .u64 (inc : Int), .int .u64 (known : Int), .bool up, .int .u64 (heard : Int), .int .u64 (sent : Int)] :: Qs) ∧ OneE xs (xv 10) W else if dn 7 = true then Sep w0 W (Rw 49 4 vE m ys :: Ce o 43 #[vF, vE] :: Ce q1 92 #[.pointer (some ⟨o, 0, none⟩)] :: Ce q0 26 #[.pointer (some ⟨g, 0, none⟩)] :: Ce g 72 #[.int .u64 (base : Int), bx, .int .u64 (got : Int), .int .i64 sn, .int .u64 (si : Int), .int .i64 peer, .int .u64 (conn : Int), .int .u64 (inc : Int), .int .u64 (known : Int), .bool up, .int .u64 (heard : Int), .int .u64 (sent : Int)] :: Qs) else Sep w0 W (Rw 49 4 vE m ys :: Ce o 43 #[vF, vE] :: Ce q1 92 #[.pointer (some ⟨o, 0, none⟩)] :: Ce q0 26 #[.pointer (some ⟨g, 0, none⟩)] :: Ce g 72 #[.int .u64 (base : Int), bx, .int .u64 (got : Int), .int .i64 sn, .int .u64 (si : Int), .int .i64 peer, .int .u64 (conn : Int), .int .u64 (inc : Int), .int .u64 (known : Int), .bool up, .int .u64 (heard : Int), .int .u64 (sent : Int)] :: Qs)) → dn 14 = false → W.cell? ⟨o, 1, none⟩ = some vE := fun dn xv W h h0 => by
  rw [if_neg (by simp [h0])] at h; split at h
  ·exact cA (i := 1) h rfl 1 rfl
  split at h
  ·exact cA (i := 1) h.1 rfl 1 rfl
  split at h
  ·exact cA (i := 1) h rfl 1 rfl
  exact cA (i := 1) h rfl 1 rfl
 have HKP : ∀ (dn : Nat → Bool) (xv : Nat → Value) (W : World), (if dn 14 = true then ∃ vE, Sep w0 W (Rw 49 4 vE (m + 1) (ys ++ xs) :: Ce o 43 #[vF, vE] :: Ce q1 92 #[.pointer (some ⟨o, 0, none⟩)] :: Ce q0 26 #[.pointer (some ⟨g, 0, none⟩)] :: Ce g 72 #[.int .u64 (base : Int), bx, .int .u64 (got : Int), .int .i64 sn, .int .u64 (si : Int), .int .i64 peer, .int .u64 (conn : Int), .int .u64 (inc : Int), .int .u64 (known : Int), .bool up, .int .u64 (heard : Int), .int .u64 (sent : Int)] :: Qs) else if dn 11 = true then Sep w0 W (Rw 49 4 (xv 11) (m + 1) (ys ++ xs) :: Ce o 43 #[vF, vE] :: Ce q1 92 #[.pointer (some ⟨o, 0, none⟩)] :: Ce q0 26 #[.pointer (some ⟨g, 0, none⟩)] :: Ce g 72 #[.int .u64 (base : Int), bx, .int .u64 (got : Int), .int .i64 sn, .int .u64 (si : Int), .int .i64 peer, .int .u64 (conn : Int), .int .u64 (inc : Int), .int .u64 (known : Int), .bool up, .int .u64 (heard : Int), .int .u64 (sent : Int)] :: Qs) else if dn 10 = true then Sep w0 W (Rw 49 4 vE m ys :: Ce o 43 #[vF, vE] :: Ce q1 92 #[.pointer (some ⟨o, 0, none⟩)] :: Ce q0 26 #[.pointer (some ⟨g, 0, none⟩)] :: Ce g 72 #[.int .u64 (base : Int), bx, .int .u64 (got : Int), .int .i64 sn, .int .u64 (si : Int), .int .i64 peer, .int .u64 (conn : Int), .int .u64 (inc : Int), .int .u64 (known : Int), .bool up, .int .u64 (heard : Int), .int .u64 (sent : Int)] :: Qs) ∧ OneE xs (xv 10) W else if dn 7 = true then Sep w0 W (Rw 49 4 vE m ys :: Ce o 43 #[vF, vE] :: Ce q1 92 #[.pointer (some ⟨o, 0, none⟩)] :: Ce q0 26 #[.pointer (some ⟨g, 0, none⟩)] :: Ce g 72 #[.int .u64 (base : Int), bx, .int .u64 (got : Int), .int .i64 sn, .int .u64 (si : Int), .int .i64 peer, .int .u64 (conn : Int), .int .u64 (inc : Int), .int .u64 (known : Int), .bool up, .int .u64 (heard : Int), .int .u64 (sent : Int)] :: Qs) else Sep w0 W (Rw 49 4 vE m ys :: Ce o 43 #[vF, vE] :: Ce q1 92 #[.pointer (some ⟨o, 0, none⟩)] :: Ce q0 26 #[.pointer (some ⟨g, 0, none⟩)] :: Ce g 72 #[.int .u64 (base : Int), bx, .int .u64 (got : Int), .int .i64 sn, .int .u64 (si : Int), .int .i64 peer, .int .u64 (conn : Int), .int .u64 (inc : Int), .int .u64 (known : Int), .bool up, .int .u64 (heard : Int), .int .u64 (sent : Int)] :: Qs)) → W.cell? ⟨q1, 0, none⟩ = some (.pointer (some ⟨o, 0, none⟩)) ∧ W.cell? ⟨q0, 0, none⟩ = some (.pointer (some ⟨g, 0, none⟩)) := fun dn xv W h => by
  split at h
  ·obtain ⟨vE, h⟩ := h; exact ⟨cA (i := 2) h rfl 0 rfl, cA (i := 3) h rfl 0 rfl⟩
  split at h
  ·exact ⟨cA (i := 2) h rfl 0 rfl, cA (i := 3) h rfl 0 rfl⟩
  split at h
  ·exact ⟨cA (i := 2) h.1 rfl 0 rfl, cA (i := 3) h.1 rfl 0 rfl⟩
  split at h
  ·exact ⟨cA (i := 2) h rfl 0 rfl, cA (i := 3) h rfl 0 rfl⟩
  exact ⟨cA (i := 2) h rfl 0 rfl, cA (i := 3) h rfl 0 rfl⟩
 clear h hsn; rw [show [.int .i64 kind, .int .i64 peer, .int .u64 (inc : Int), .slice BA bn bc] = xs from HXS.out]; go_enter Try.func56, Try.ntmps56
 go_wp2_with fail
 refine wRG (fun dn xv W => if dn 14 = true then ∃ vE, Sep w0 W (Rw 49 4 vE (m + 1) (ys ++ xs) :: Ce o 43 #[vF, vE] :: Ce q1 92 #[.pointer (some ⟨o, 0, none⟩)] :: Ce q0 26 #[.pointer (some ⟨g, 0, none⟩)] :: Ce g 72 #[.int .u64 (base : Int), bx, .int .u64 (got : Int), .int .i64 sn, .int .u64 (si : Int), .int .i64 peer, .int .u64 (conn : Int), .int .u64 (inc : Int), .int .u64 (known : Int), .bool up, .int .u64 (heard : Int), .int .u64 (sent : Int)] :: Qs) else if dn 11 = true then Sep w0 W (Rw 49 4 (xv 11) (m + 1) (ys ++ xs) :: Ce o 43 #[vF, vE] :: Ce q1 92 #[.pointer (some ⟨o, 0, none⟩)] :: Ce q0 26 #[.pointer (some ⟨g, 0, none⟩)] :: Ce g 72 #[.int .u64 (base : Int), bx, .int .u64 (got : Int), .int .i64 sn, .int .u64 (si : Int), .int .i64 peer, .int .u64 (conn : Int), .int .u64 (inc : Int), .int .u64 (known : Int), .bool up, .int .u64 (heard : Int), .int .u64 (sent : Int)] :: Qs) else if dn 10 = true then Sep w0 W (Rw 49 4 vE m ys :: Ce o 43 #[vF, vE] :: Ce q1 92 #[.pointer (some ⟨o, 0, none⟩)] :: Ce q0 26 #[.pointer (some ⟨g, 0, none⟩)] :: Ce g 72 #[.int .u64 (base : Int), bx, .int .u64 (got : Int), .int .i64 sn, .int .u64 (si : Int), .int .i64 peer, .int .u64 (conn : Int), .int .u64 (inc : Int), .int .u64 (known : Int), .bool up, .int .u64 (heard : Int), .int .u64 (sent : Int)] :: Qs) ∧ OneE xs (xv 10) W else if dn 7 = true then Sep w0 W (Rw 49 4 vE m ys :: Ce o 43 #[vF, vE] :: Ce q1 92 #[.pointer (some ⟨o, 0, none⟩)] :: Ce q0 26 #[.pointer (some ⟨g, 0, none⟩)] :: Ce g 72 #[.int .u64 (base : Int), bx, .int .u64 (got : Int), .int .i64 sn, .int .u64 (si : Int), .int .i64 peer, .int .u64 (conn : Int), .int .u64 (inc : Int), .int .u64 (known : Int), .bool up, .int .u64 (heard : Int), .int .u64 (sent : Int)] :: Qs) else Sep w0 W (Rw 49 4 vE m ys :: Ce o 43 #[vF, vE] :: Ce q1 92 #[.pointer (some ⟨o, 0, none⟩)] :: Ce q0 26 #[.pointer (some ⟨g, 0, none⟩)] :: Ce g 72 #[.int .u64 (base : Int), bx, .int .u64 (got : Int), .int .i64 sn, .int .u64 (si : Int), .int .i64 peer, .int .u64 (conn : Int), .int .u64 (inc : Int), .int .u64 (known : Int), .bool up, .int .u64 (heard : Int), .int .u64 (sent : Int)] :: Qs)) (fun _ _ => True) [xP_ o 0, xP_ o 0, xP_ o 0, xP_ o 1, xV_ vE, xV_ (.int .i64 kind), xP_ g 0, xV_ (.agg #[.int .i64 peer, .int .u64 (inc : Int)]), xV_ (.slice BA bn bc), xV_ (.agg #[.int .i64 kind, .int .i64 peer, .int .u64 (inc : Int), .slice BA bn bc]), fun v _ => True, fun v _ => True, xP_ o 0, xP_ o 1, fun v _ => True] (fun xv => by simpa using HS0.out.drew) ?_ ?_
 ·refine Epk 1 2 q1 0 (fun g h W e => (HKP g h W e).1) ?_
  refine Epk 2 2 q1 0 (fun g h W e => (HKP g h W e).1) ?_
  refine Ee 3 7 1 ?_
  refine Ee 4 8 2 ?_
  refine EC 5 rfl (fun g h W F a b c d e H K f => ?_) ?_
  ·have f9 := gE (a 9) (by kernel_rfl) (H 3) (by kernel_rfl); have kk := HKO g h W e (c 14 (uM 11 uE)); clear H c b d a; refine oP rfl ?_; go_simp; exact f.out _ _ rfl trivial e
  refine Ei 6 0 (.int .i64 kind) ?_
  refine Epk 7 3 q0 0 (fun g h W e => (HKP g h W e).2) ?_
  refine EC 8 rfl (fun k l W F a b c d f H K h => ?_) ?_
  ·have f12 := gE (a 12) (by kernel_rfl) (H 6) (by kernel_rfl); have q10 := c 10 (uM 9 uE); have q11 := c 11 (uM 10 (uM 9 uE)); have q14 := c 14 (uM 11 (uM 10 (uM 9 uE))); rw [if_neg (by simp [q14]), if_neg (by simp [q11]), if_neg (by simp [q10]), if_neg (by simp [b])] at f; have hS := f; clear f c b d a H; refine oP rfl ?_; go_simp; refine (HPE.out W (cH (i := 4) hS rfl)).mono ?_; rintro e W' ⟨rfl, hb⟩; have hs : Sep w0 W' (Rw 49 4 vE m ys :: Ce o 43 #[vF, vE] :: Ce q1 92 #[.pointer (some ⟨o, 0, none⟩)] :: Ce q0 26 #[.pointer (some ⟨g, 0, none⟩)] :: Ce g 72 #[.int .u64 (base : Int), bx, .int .u64 (got : Int), .int .i64 sn, .int .u64 (si : Int), .int .i64 peer, .int .u64 (conn : Int), .int .u64 (inc : Int), .int .u64 (known : Int), .bool up, .int .u64 (heard : Int), .int .u64 (sent : Int)] :: Qs) := hS.grow hb; exact h.out _ W' rfl trivial (by simpa [upB, upd, q10, q11, q14] using hs)
  refine Ei 9 1 (.slice BA bn bc) ?_
  refine EC 10 rfl (fun g h W F a b c d e H K f => ?_) ?_
  ·have f11 := gE (a 11) (by kernel_rfl) (H 5) (by kernel_rfl); have f13 := gE (a 13) (by kernel_rfl) (H 7) (by kernel_rfl); have f14 := gE (a 14) (by kernel_rfl) (H 8) (by kernel_rfl); clear H c b d a; refine oP rfl ?_; have g11 := f11; have g13 := f13; have g14 := f14; rw [Array.getD_eq_getD_getElem?] at g11 g13 g14; go_simp; exact f.out _ _ rfl trivial e
  refine EC 11 rfl (fun h i W F a b c d e H K f => ?_) ?_
  ·have f15 := gE (a 15) (by kernel_rfl) (H 9) (by kernel_rfl); have q7 := (H 7 (uM 9 uE)).1; have q11 := c 11 uE; have q14 := c 14 (uM 11 uE); rw [if_neg (by simp [q14]), if_neg (by simp [q11]), if_neg (by simp [b]), if_pos q7] at e; have hS := e; clear e c b d a H; refine oP rfl ?_; have g15 := f15; rw [Array.getD_eq_getD_getElem?] at g15; go_simp; have hb : Below W.heap.size W (W.alloc (.cells #[.int .i64 kind, .int .i64 peer, .int .u64 (inc : Int), .slice BA bn bc] 49)) := (Below.refl _ _).alloc (Nat.le_refl _) _; have hs : Sep w0 (W.alloc (.cells #[.int .i64 kind, .int .i64 peer, .int .u64 (inc : Int), .slice BA bn bc] 49)) (Rw 49 4 vE m ys :: Ce o 43 #[vF, vE] :: Ce q1 92 #[.pointer (some ⟨o, 0, none⟩)] :: Ce q0 26 #[.pointer (some ⟨g, 0, none⟩)] :: Ce g 72 #[.int .u64 (base : Int), bx, .int .u64 (got : Int), .int .i64 sn, .int .u64 (si : Int), .int .i64 peer, .int .u64 (conn : Int), .int .u64 (inc : Int), .int .u64 (known : Int), .bool up, .int .u64 (heard : Int), .int .u64 (sent : Int)] :: Qs) ∧ OneE xs (.slice (some ⟨W.heap.size, 0, none⟩) 1 1) (W.alloc (.cells #[.int .i64 kind, .int .i64 peer, .int .u64 (inc : Int), .slice BA bn bc] 49)) := ⟨hS.grow hb, HXS.out ▸ OneE.new W _⟩; exact f.out _ _ trivial trivial (by simpa [upB, upd, q11, q14] using hs)
  refine EC 12 rfl (fun h j W F a b c d e H K f => ?_) ?_
  ·have f10 := gE (a 10) (by kernel_rfl) (H 4) (by kernel_rfl); have f16 : F.tmps.getD 16 undef = j 10 := (a 16).trans (by kernel_rfl); have q10 := (H 10 uE).1; have q14 := c 14 uE; rw [if_neg (by simp [q14]), if_neg (by simp [b]), if_pos q10] at e; have hS := e; clear e c b d a H; refine oP rfl ?_; obtain ⟨s1, A3, c3, e3, hl3, hh3⟩ := hS; have fex := f16.trans e3; refine sep_opAppW rowEvents (i := 0) (s := .tmp 10) (x := .tmp 16) (m := 1) (news := xs) (by rfl) f10 fex s1 rfl (by rw [hl3]) hh3 HX1.out (by unfold maxLen; omega) (by omega) ?_; intro v W' hs0; have hs : Sep w0 W' (Rw 49 4 v (m + 1) (ys ++ xs) :: Ce o 43 #[vF, vE] :: Ce q1 92 #[.pointer (some ⟨o, 0, none⟩)] :: Ce q0 26 #[.pointer (some ⟨g, 0, none⟩)] :: Ce g 72 #[.int .u64 (base : Int), bx, .int .u64 (got : Int), .int .i64 sn, .int .u64 (si : Int), .int .i64 peer, .int .u64 (conn : Int), .int .u64 (inc : Int), .int .u64 (known : Int), .bool up, .int .u64 (heard : Int), .int .u64 (sent : Int)] :: Qs) := hs0; exact f.out v W' trivial trivial (by simpa [upB, upd, q14] using hs)
  refine Ee 13 6 0 ?_
  refine Ee 14 18 12 ?_
  refine EC 15 rfl (fun h j W F a b c d e H K f => ?_) ?_
  ·have f17 : F.tmps.getD 17 undef = j 11 := (a 17).trans (by kernel_rfl); have f19 := gE (a 19) (by kernel_rfl) (H 13) (by kernel_rfl); have q11 := (H 11 uE).1; rw [if_neg (by simp [b]), if_pos q11] at e; have hS := e; clear e c b d a H; refine oP rfl ?_; obtain ⟨A2, c2, e2, _⟩ := sep_rwForm (i := 0) hS rfl; have hc3 := cA (i := 1) hS rfl 1 rfl; have hf3 := cFz (i := 1) hS rfl 1; rw [e2] at hS; have hs0 := cS (i := 1) hS rfl 1 (.slice A2 (m + 1) c2); have hs : ∃ vE, Sep w0 (W.setCell ⟨o, 1, none⟩ (.slice A2 (m + 1) c2)) (Rw 49 4 vE (m + 1) (ys ++ xs) :: Ce o 43 #[vF, vE] :: Ce q1 92 #[.pointer (some ⟨o, 0, none⟩)] :: Ce q0 26 #[.pointer (some ⟨g, 0, none⟩)] :: Ce g 72 #[.int .u64 (base : Int), bx, .int .u64 (got : Int), .int .i64 sn, .int .u64 (si : Int), .int .i64 peer, .int .u64 (conn : Int), .int .u64 (inc : Int), .int .u64 (known : Int), .bool up, .int .u64 (heard : Int), .int .u64 (sent : Int)] :: Qs) := ⟨_, hs0⟩; clear hs0; go_simp; exact f.out undef _ trivial trivial (by simpa [upB, upd] using hs)
  exact EN
 ·intro dn xv W hI H; have qe : dn 14 = true := (H 14 (of_decide_eq_true (by kernel_rfl))).1; rw [if_pos qe] at hI; have hS := hI; clear H hI qe; simp only [putAll, Act.put, List.setIfInBounds_toArray, List.set_cons_zero, List.set_cons_succ, Nat.reduceAdd]; obtain ⟨vE, hS⟩ := hS; have HS1 := Lib.hid hS; clear hS
  go_wp2_with fail
  go_end0
  exact ⟨rfl, _, HS1.out⟩
set_option maxHeartbeats 1600000 in
theorem downG {w0 w : World} {Qs : List SP} {o q1 q0 g base : Nat} {bx vF vE : Value} {got : Nat} {sn : Int} {si : Nat} {peer : Int} {conn inc known heard sent : Nat} {m : Nat} {ys : List Value} (h : Sep w0 w (Rw 49 4 vE m ys :: Ce o 43 #[vF, vE] :: Ce q1 92 #[.pointer (some ⟨o, 0, none⟩)] :: Ce q0 26 #[.pointer (some ⟨g, 0, none⟩)] :: Ce g 72 #[.int .u64 (base : Int), bx, .int .u64 (got : Int), .int .i64 sn, .int .u64 (si : Int), .int .i64 peer, .int .u64 (conn : Int), .int .u64 (inc : Int), .int .u64 (known : Int), .bool true, .int .u64 (heard : Int), .int .u64 (sent : Int)] :: Qs)) (hsn : sn ≠ 0) (hm : m ≤ 1000000) :
  Calls Try.prog 35 #[.pointer (some ⟨g, 0, none⟩), .func (.func 56) #[] #[.pointer (some ⟨q1, 0, none⟩), .pointer (some ⟨q0, 0, none⟩)]] w fun e w' => e = .returned (.tuple #[]) ∧ ∃ vE, Sep w0 w' (Rw 49 4 vE (m + 1) (ys ++ [.int .i64 2, .int .i64 peer, .int .u64 (inc : Int), .slice none 0 0]) :: Ce o 43 #[vF, vE] :: Ce q1 92 #[.pointer (some ⟨o, 0, none⟩)] :: Ce q0 26 #[.pointer (some ⟨g, 0, none⟩)] :: Ce g 72 #[.int .u64 0, .slice none 0 0, .int .u64 0, .int .i64 sn, .int .u64 (si : Int), .int .i64 peer, .int .u64 (conn : Int), .int .u64 (inc : Int), .int .u64 (known : Int), .bool false, .int .u64 (heard : Int), .int .u64 (sent : Int)] :: Qs) := by
 have k9 := cA (i := 4) h rfl 9 rfl; have HS := Lib.hid h; have HSN := Lib.hid hsn; clear h hsn; go_enter Try.func35, Try.ntmps35
 go_wp2_with fail
 refine (tellG 2 none 0 0 HS.out HSN.out hm).mono ?_; rintro e w1 ⟨rfl, vE1, h1⟩; have k0 := cA (i := 4) h1 rfl 0 rfl; have k1 := cA (i := 4) h1 rfl 1 rfl; have k2 := cA (i := 4) h1 rfl 2 rfl; have y9 := cFz (i := 4) h1 rfl 9; have y0 := cFz (i := 4) h1 rfl 0; have y1 := cFz (i := 4) h1 rfl 1; have y2 := cFz (i := 4) h1 rfl 2; have k9 := cA (i := 4) h1 rfl 9 rfl; have hs := cS (i := 4) h1 rfl 0 (.int .u64 0); have hs := cS (i := 4) hs rfl 1 (.slice none 0 0); have hs := cS (i := 4) hs rfl 2 (.int .u64 0); have hs := cS (i := 4) hs rfl 9 (.bool false); have HS1 := Lib.hid hs; clear hs h1 HS
 go_wp2_with fail
 go_end0
 exact ⟨rfl, _, HS1.out⟩
set_option maxHeartbeats 800000 in
theorem lastG (w : World) (g base n c : Nat) (A : Option Addr) (hb : base ≤ 1000000000000) (hn : n ≤ 1000000000000) (h0 : w.cell? ⟨g, 0, none⟩ = some (.int .u64 (base : Int))) (h1 : w.cell? ⟨g, 1, none⟩ = some (.slice A n c)) :
  Calls Try.prog 41 #[.pointer (some ⟨g, 0, none⟩)] w fun e w' => e = .returned (.int .u64 ((base : Int) + ((min n 8 : Nat) : Int))) ∧ Below w.heap.size w w' := by
 have HG := Lib.hid (World.block_lt_of_cell? w _ h0); have HC0 := Lib.hid h0; have HC1 := Lib.hid h1; obtain ⟨k, Hk⟩ : ∃ k, Hid (min n 8 = k) := ⟨_, Lib.hid rfl⟩; have hk8 : k ≤ 8 := by have := Hk.out; omega
 have ek : (if 8 < (n : Int) then 8 else (n : Int)) = (k : Int) := by have := Hk.out; split <;> omega
 have ew : IntKind.u64.wrap (k : Int) = (k : Int) := u64_wrapG (by omega) (by omega); have ev : IntKind.u64.wrap ((base : Int) + (k : Int)) = (base : Int) + (k : Int) := u64_wrapG (by omega) (by omega); clear h0 h1; rw [Hk.out]; go_enter Try.func41, Try.ntmps41
 go_wp2_with fail
 refine wRG (fun dn xv W => Sep w W []) (fun _ _ => True) [xP_ g 0, xP_ g 0, xP_ g 0, xP_ g 0, xV_ (.int .u64 (base : Int)), xP_ g 0, xP_ g 0, xP_ g 0, xP_ g 1, xV_ (.slice A n c), xV_ (.int .i64 (n : Int)), xV_ (.int .i64 (k : Int)), xV_ (.int .u64 (k : Int)), xV_ (.int .u64 ((base : Int) + (k : Int))), xV_ (.int .u64 ((base : Int) + (k : Int)))] (fun xv => by simpa using (Sep.nil w).drew) ?_ ?_
 ·refine Ep 1 0 g 0 ?_
  refine Ee 2 3 0 ?_
  refine Ee 3 4 1 ?_
  refine Ee 4 5 2 ?_
  refine Eek 5 6 3 (fun _ _ _ e => (e.bel.cell (p := ⟨g, 0, none⟩) HG.out).trans HC0.out) ?_
  refine Ep 6 0 g 0 ?_
  refine Ee 7 8 5 ?_
  refine Ee 8 9 6 ?_
  refine Ee 9 10 7 ?_
  refine Eek 10 11 8 (fun _ _ _ e => (e.bel.cell (p := ⟨g, 1, none⟩) HG.out).trans HC1.out) ?_
  refine Ee 11 12 9 ?_
  refine Ee 12 13 10 ?_
  refine Ee 13 14 11 ?_
  refine Eee 14 7 4 15 12 ?_
  refine Ee 15 16 13 ?_
  exact EN
 ·intro dn xv W hI H; have q14 : xv 14 = .int .u64 ((base : Int) + (k : Int)) := (H 14 (of_decide_eq_true (by kernel_rfl))).2; have hS : Sep w W [] := hI; clear H hI; simp only [putAll, Act.put, List.setIfInBounds_toArray, List.set_cons_zero, List.set_cons_succ, Nat.reduceAdd, q14]; clear q14; have HS := Lib.hid hS; clear hS
  go_wp2_with fail
  go_ret
  exact ⟨rfl, HS.out.bel⟩
def daCells (got : Nat) (sn : Int) (si : Nat) (peer : Int) (conn inc known : Nat) (seq : Int) (BA : Option Addr) (bn bc : Nat) : Array Value := #[.int .i64 2, .int .i64 sn, .int .i64 peer, .int .u64 (si : Int), .int .u64 (conn : Int), .int .u64 (inc : Int), .int .u64 (known : Int), .int .u64 (got : Int), .int .u64 seq, .slice BA bn bc]
set_option maxHeartbeats 1600000 in
theorem dataG (w : World) (g base : Nat) (bx : Value) (got : Nat) (sn : Int) (si : Nat) (peer : Int) (conn inc known : Nat) (up : Bool) (heard sent : Nat) (seq : Int) (BA : Option Addr) (bn bc : Nat) (h : w.heap[g]? = some (.cells (lkCells base bx got sn si peer conn inc known up heard sent) 72 (0, 0))) :
  Calls Try.prog 39 #[.pointer (some ⟨g, 0, none⟩), .int .u64 seq, .slice BA bn bc] w fun e w' => e = .returned (.agg (daCells got sn si peer conn inc known seq BA bn bc)) ∧ Below w.heap.size w w' := by
 have HS0 := Lib.hid (sep_ceF (Sep.nil w) #[.int .i64 0, .int .i64 0, .int .i64 0, .int .u64 0, .int .u64 0, .int .u64 0, .int .u64 0, .int .u64 0, .int .u64 0, .slice none 0 0] 51); have HH := Lib.hid (((Below.refl _ w).alloc (Nat.le_refl _) (.cells #[.int .i64 0, .int .i64 0, .int .i64 0, .int .u64 0, .int .u64 0, .int .u64 0, .int .u64 0, .int .u64 0, .int .u64 0, .slice none 0 0] 51)).block g (lt_of_heap h) |>.trans h)
 clear h; unfold daCells; go_enter Try.func39, Try.ntmps39
 go_wp2_with fail
 refine (hello_any _ g base bx got sn si peer conn inc known up heard sent HH.out).mono ?_; rintro e w1 ⟨rfl, hb1⟩; unfold heCells; have HS2 := Lib.hid (sep_ceF (HS0.out.grow hb1) #[.int .i64 2, .int .i64 sn, .int .i64 peer, .int .u64 (si : Int), .int .u64 (conn : Int), .int .u64 (inc : Int), .int .u64 (known : Int), .int .u64 (got : Int), .int .u64 seq, .slice BA bn bc] 51); have hs3 := sep_put10c (i := 1) HS2.out rfl (.int .i64 2) (.int .i64 sn) (.int .i64 peer) (.int .u64 (si : Int)) (.int .u64 (conn : Int)) (.int .u64 (inc : Int)) (.int .u64 (known : Int)) (.int .u64 (got : Int)) (.int .u64 seq) (.slice BA bn bc); have HS3 := Lib.hid hs3; clear hs3 HS0 hb1; have k0 := cA (i := 1) HS2.out rfl 0 rfl; have k1 := cA (i := 1) HS2.out rfl 1 rfl; have k2 := cA (i := 1) HS2.out rfl 2 rfl; have k3 := cA (i := 1) HS2.out rfl 3 rfl; have k4 := cA (i := 1) HS2.out rfl 4 rfl; have k5 := cA (i := 1) HS2.out rfl 5 rfl; have k6 := cA (i := 1) HS2.out rfl 6 rfl; have k7 := cA (i := 1) HS2.out rfl 7 rfl; have k8 := cA (i := 1) HS2.out rfl 8 rfl; have k9 := cA (i := 1) HS2.out rfl 9 rfl; have y0 := cFz (i := 1) HS2.out rfl 0; have y1 := cFz (i := 1) HS2.out rfl 1; have y2 := cFz (i := 1) HS2.out rfl 2; have y3 := cFz (i := 1) HS2.out rfl 3; have y4 := cFz (i := 1) HS2.out rfl 4; have y5 := cFz (i := 1) HS2.out rfl 5; have y6 := cFz (i := 1) HS2.out rfl 6; have y7 := cFz (i := 1) HS2.out rfl 7; have y8 := cFz (i := 1) HS2.out rfl 8; have y9 := cFz (i := 1) HS2.out rfl 9
 go_wp2_with fail
 have z0 := cA (i := 1) HS3.out rfl 0 rfl; have z1 := cA (i := 1) HS3.out rfl 1 rfl; have z2 := cA (i := 1) HS3.out rfl 2 rfl; have z3 := cA (i := 1) HS3.out rfl 3 rfl; have z4 := cA (i := 1) HS3.out rfl 4 rfl; have z5 := cA (i := 1) HS3.out rfl 5 rfl; have z6 := cA (i := 1) HS3.out rfl 6 rfl; have z7 := cA (i := 1) HS3.out rfl 7 rfl; have z8 := cA (i := 1) HS3.out rfl 8 rfl; have z9 := cA (i := 1) HS3.out rfl 9 rfl; refine bodyPost_ret (v := .agg #[.int .i64 2, .int .i64 sn, .int .i64 peer, .int .u64 (si : Int), .int .u64 (conn : Int), .int .u64 (inc : Int), .int .u64 (known : Int), .int .u64 (got : Int), .int .u64 seq, .slice BA bn bc]) (by simp [results, Try.results39, go_sem, z0, z1, z2, z3, z4, z5, z6, z7, z8, z9]) rfl ?_; exact ⟨rfl, HS3.out.bel⟩
end Go.Proofs.Ytngegjboenfmeaa
/- The walks of window.may, window.due, window.Take and of the document's Count, Body, May, Due, Take. -/
namespace Go.Proofs.Ytngegjboenfmeaa
open Go Go.RowKit
set_option linter.unusedVariables false
set_option maxRecDepth 100000

def bodyB (l : List UInt8) : Bool := decide (1 ≤ l.length) && decide (l.length ≤ 448)
def wmayB (base : Nat) (L : List (List UInt8)) : Bool := decide (L.length ≤ 48) && decide (base + L.length ≤ 34359738367) && L.all bodyB
def okTo (L : List (List UInt8)) (k : Nat) : Prop := (L.take k).all bodyB = true
theorem okTo_zero (L : List (List UInt8)) : okTo L 0 := by simp [okTo]
theorem okTo_succ {L : List (List UInt8)} {k : Nat} (h : okTo L k) (hk : k < L.length) (hb : bodyB L[k] = true) : okTo L (k + 1) := by
 unfold okTo at *; rw [List.take_succ_eq_append_getElem hk, List.all_append, h]; simp [hb]
theorem body_yes {l : List UInt8} (h1 : 1 ≤ l.length) (h2 : l.length ≤ 448) : bodyB l = true := by simp [bodyB, h1, h2]
theorem body_no1 {l : List UInt8} (h1 : l.length < 1) : bodyB l = false := by simp [bodyB]; omega
theorem body_no2 {l : List UInt8} (h1 : 448 < l.length) : bodyB l = false := by simp [bodyB]; omega
theorem all_end {L : List (List UInt8)} {k : Nat} (h : okTo L k) (hk : L.length ≤ k) : L.all bodyB = true := by
 unfold okTo at h
 rwa [List.take_of_length_le hk] at h
theorem all_no {L : List (List UInt8)} {k : Nat} (hk : k < L.length) (hb : bodyB L[k] = false) : L.all bodyB = false := by
 rw [List.all_eq_false]; exact ⟨L[k], List.getElem_mem hk, by simp [hb]⟩
theorem may_is {base : Nat} {L : List (List UInt8)} {r : Bool} (h1 : L.length ≤ 48) (h2 : base + L.length ≤ 34359738367) (h : L.all bodyB = r) : wmayB base L = r := by simp [wmayB, h1, h2, h]
theorem may_no {base : Nat} {L : List (List UInt8)} (h : 48 < L.length ∨ 34359738367 < base + L.length) : wmayB base L = false := by
 unfold wmayB
 rcases h with h | h
 ·rw [decide_eq_false (by omega)]; rfl
 ·rw [decide_eq_false (p := base + L.length ≤ 34359738367) (by omega)]; simp

theorem ret_b {a b : Bool} (h : a = b) : Ending.returned (.bool b) = .returned (.bool a) := by rw [h]

set_option maxHeartbeats 800000 in
theorem wmay_any (w : World) (B base : Nat) (A : Option Addr) (c : Nat) (L : List (List UInt8)) (h : Bx w B A L) (hB : B ≤ w.heap.size) (hb : base < 18446744073709551616) (hm : L.length ≤ maxLen) :
  Calls Try.prog 57 #[.agg #[.int .u64 (base : Int), .slice A L.length c]] w fun e w' => e = .returned (.bool (wmayB base L)) ∧ Below w.heap.size w w' := by
 unfold maxLen at hm; have H := Lib.hid h; clear h
 by_cases h1 : L.length ≤ 48
 ·by_cases h2 : base + L.length ≤ 34359738367
  ·have g1 : base ≤ 34359738367 := by omega
   go_enter Try.func57, Try.ntmps57
   go_wp2
   go_loop [22] (fun i => ∃ k : Nat, k ≤ L.length ∧ i = .int .i64 (k : Int) ∧ okTo L k) (fun i => L.length - (intOf i).toNat)
   case atStart => exact ⟨0, by omega, rfl, okTo_zero L⟩
   case round =>
    obtain ⟨k, hk, rfl, ho⟩ := hrel
    by_cases hlt : k < L.length
    ·obtain ⟨b, o, A1, c1, rfl, hbB, hc, q1, q2, q3, hh⟩ := (H.out.below ((Below.refl B w).alloc hB (.cells #[.int .u64 (base : Int), .slice A L.length c] 68))).at_ hlt; have HN := Lib.hid (@all_no L k hlt); have HS := Lib.hid (@okTo_succ L k ho hlt); clear hh ho; obtain ⟨l, Hl⟩ : ∃ l, Hid (L[k] = l) := ⟨_, Lib.hid rfl⟩; rw [Hl.out] at hc q1 q3 HN HS; unfold maxLen at q2
     by_cases g3 : l.length < 1
     ·go_wp2
      go_ret
      exact ⟨ret_b (may_is h1 h2 (HN.out (body_no1 g3))), (Below.refl _ _).alloc (Nat.le_refl _) _⟩
     ·by_cases g4 : 448 < l.length
      ·go_wp2
       go_ret
       exact ⟨ret_b (may_is h1 h2 (HN.out (body_no2 g4))), (Below.refl _ _).alloc (Nat.le_refl _) _⟩
      ·go_wp2
       go_round
       case rel => exact ⟨k + 1, by omega, by go_num, HS.out (body_yes (by omega) (by omega))⟩
       case measure => simp [intOf]; omega
    ·go_wp2
     go_ret
     exact ⟨ret_b (may_is h1 h2 (all_end ho (by omega))), (Below.refl _ _).alloc (Nat.le_refl _) _⟩
  ·have g1 : ((34359738367 : Int) - (L.length : Int)) < (base : Int) := by omega
   go_enter Try.func57, Try.ntmps57
   go_wp2
   go_ret
   exact ⟨ret_b (may_no (.inr (by omega))), (Below.refl _ _).alloc (Nat.le_refl _) _⟩
 ·have g1 : 48 < L.length := by omega
  go_enter Try.func57, Try.ntmps57
  go_wp2
  go_ret
  exact ⟨ret_b (may_no (.inl (by omega))), (Below.refl _ _).alloc (Nat.le_refl _) _⟩
end Go.Proofs.Ytngegjboenfmeaa
/- The walks of window.due, window.Take and of the document's Count, Body, May, Due, Take. -/
namespace Go.Proofs.Ytngegjboenfmeaa
open Go Go.RowKit
set_option linter.unusedVariables false
set_option maxRecDepth 100000

theorem dueP_any (w : World) (base : Int) (A : Option Addr) (n c : Nat) (hm : n ≤ maxLen) :
  Calls Try.prog 59 #[.agg #[.int .u64 base, .slice A n c]] w fun e w' => e = .returned (.int .i64 ((min n 8 : Nat) : Int)) ∧ Below w.heap.size w w' := by
 unfold maxLen at hm
 by_cases h : n ≤ 8
 ·have e : min n 8 = n := Nat.min_eq_left h; rw [e]; have e2 : min (n : Int) 8 = (n : Int) := by omega
  go_enter Try.func59, Try.ntmps59
  go_wp2
  go_ret
  exact ⟨by first | rfl | (congr 2; omega) | simp_all, (Below.refl _ _).alloc (Nat.le_refl _) _⟩
 ·have e : min n 8 = 8 := Nat.min_eq_right (by omega); rw [e]; have e2 : min (n : Int) 8 = 8 := by omega
  have g : 8 < n := by omega
  go_enter Try.func59, Try.ntmps59
  go_wp2
  go_ret
  exact ⟨by first | rfl | (congr 2; omega) | simp_all, (Below.refl _ _).alloc (Nat.le_refl _) _⟩

def takeB (got seq : Nat) : Bool := decide (1 ≤ seq) && decide (seq ≤ 34359738367) && decide (seq = got + 1)
def takeV (got seq : Nat) : Nat := if takeB got seq = true then seq else got
theorem wtake_no {got seq : Nat} (h : seq < 1 ∨ 34359738367 < seq ∨ seq ≠ got + 1) : takeB got seq = false ∧ takeV got seq = got := by
 have h0 : takeB got seq = false := by
  unfold takeB
  rcases h with h | h | h
  ·rw [decide_eq_false (by omega)]; rfl
  ·rw [decide_eq_false (p := seq ≤ 34359738367) (by omega)]; simp
  ·rw [decide_eq_false h]; simp
 exact ⟨h0, by simp [takeV, h0]⟩
theorem take_yes {got seq : Nat} (h1 : 1 ≤ seq) (h2 : seq ≤ 34359738367) (h : seq = got + 1) : takeB got seq = true ∧ takeV got seq = seq := by
 have h0 : takeB got seq = true := by
  unfold takeB; rw [decide_eq_true h1, decide_eq_true h2, decide_eq_true h]; rfl
 exact ⟨h0, by simp [takeV, h0]⟩
def TakeRes (got seq : Nat) : Value := .tuple #[.agg #[.int .u64 (takeV got seq : Int)], .bool (takeB got seq)]
theorem takeRes_no {got seq : Nat} (h : seq < 1 ∨ 34359738367 < seq ∨ seq ≠ got + 1) : TakeRes got seq = .tuple #[.agg #[.int .u64 (got : Int)], .bool false] := by
 unfold TakeRes; rw [(wtake_no h).1, (wtake_no h).2]
theorem takeRes_yes {got seq : Nat} (h1 : 1 ≤ seq) (h2 : seq ≤ 34359738367) (h : seq = got + 1) : TakeRes got seq = .tuple #[.agg #[.int .u64 (seq : Int)], .bool true] := by
 unfold TakeRes; rw [(take_yes h1 h2 h).1, (take_yes h1 h2 h).2]

set_option maxHeartbeats 800000 in
theorem take_any (w : World) (got seq : Nat) (hg : got < 18446744073709551616) (hs : seq < 18446744073709551616) :
  Calls Try.prog 43 #[.agg #[.int .u64 (got : Int)], .int .u64 (seq : Int)] w fun e w' => e = .returned (TakeRes got seq) ∧ Below w.heap.size w w' := by
 have fin : ∀ o o' : Obj, Below w.heap.size w ((w.alloc o).alloc o') := fun o o' => ((Below.refl _ _).alloc (Nat.le_refl _) _).alloc (by simp) _
 by_cases h1 : seq < 1
 ·rw [takeRes_no (.inl h1)]; have e0 : ((seq : Int) == 0) = true := by simp; omega
  go_enter Try.func43, Try.ntmps43
  go_wp2; exact bodyPost_ret (v := .tuple #[.agg #[.int .u64 (got : Int)], .bool false]) (by simp [results, Try.results43, go_sem]) rfl ⟨rfl, fin _ _⟩
 ·have e0 : ((seq : Int) == 0) = false := by simp; omega
  by_cases h2 : 34359738367 < seq
  ·rw [takeRes_no (.inr (.inl h2))]; go_enter Try.func43, Try.ntmps43; go_wp2; exact bodyPost_ret (v := .tuple #[.agg #[.int .u64 (got : Int)], .bool false]) (by simp [results, Try.results43, go_sem]) rfl ⟨rfl, fin _ _⟩
  ·have g1 : 1 ≤ seq := by omega
   have g2 : seq ≤ 34359738367 := by omega
   by_cases h3 : seq = got + 1
   ·rw [takeRes_yes g1 g2 h3]; have e1 : ((seq : Int) - 1 != (got : Int)) = false := by simp; omega
    clear h3; go_enter Try.func43, Try.ntmps43; go_wp2; exact bodyPost_ret (v := .tuple #[.agg #[.int .u64 (seq : Int)], .bool true]) (by simp [results, Try.results43, go_sem]) rfl ⟨rfl, fin _ _⟩
   ·rw [takeRes_no (.inr (.inr h3))]; have e1 : ((seq : Int) - 1 != (got : Int)) = true := by simp; omega
    go_enter Try.func43, Try.ntmps43
    go_wp2; exact bodyPost_ret (v := .tuple #[.agg #[.int .u64 (got : Int)], .bool false]) (by simp [results, Try.results43, go_sem]) rfl ⟨rfl, fin _ _⟩

end Go.Proofs.Ytngegjboenfmeaa
/- The walk of window.Push. -/
namespace Go.Proofs.Ytngegjboenfmeaa
open Go Go.RowKit
set_option linter.unusedVariables false
set_option maxRecDepth 100000

theorem bcell {W w1 : World} (hb : Below W.heap.size W w1) : (∀ b o, b < W.heap.size → w1.cell? ⟨b, o, none⟩ = W.cell? ⟨b, o, none⟩) ∧ (∀ b o, b < W.heap.size → w1.frozen? ⟨b, o, none⟩ = W.frozen? ⟨b, o, none⟩) :=
 ⟨fun b o h => hb.cell (p := ⟨b, o, none⟩) h, fun b o h => hb.frozen (p := ⟨b, o, none⟩) h⟩

/-- two rows that lie apart -/
def ApB (u v : Value) : Prop := ∀ g, u.ownBlock = some g → v.ownBlock ≠ some g
/-- a row of one -/
def OneOf (u v : Value) (w : World) : Prop := ∃ A c, v = .slice A 1 c ∧ Has w w.heap.size A [u]
theorem OneOf.new (w : World) (u : Value) (t : TypeId) : OneOf u (.slice (some ⟨w.heap.size, 0, none⟩) 1 1) (w.alloc (.cells #[u] t)) := ⟨_, 1, rfl, by have := has_new w #[u] t; simpa using this⟩
/-- a block of two cells -/
def IsCell2 (w : World) (b : Nat) (x y : Value) : Prop := w.cell? ⟨b, 0, none⟩ = some x ∧ w.cell? ⟨b, 1, none⟩ = some y

/-- two cells of one's own are written -/
theorem set2 {w w1 W : World} {v : Value} {L : List (List UInt8)} (hB1 : Below w.heap.size w w1) (s1 : Below w1.heap.size w1 W) (g : Nat) (hg : w.heap.size ≤ g) (hg2 : g < w1.heap.size) (ho : OwnB W w1.heap.size v L) {a b : Value} (h0 : W.cell? ⟨g, 0, none⟩ = some a) (h1 : W.cell? ⟨g, 1, none⟩ = some b) (x y : Value) :
  Below w.heap.size w ((W.setCell ⟨g, 0, none⟩ x).setCell ⟨g, 1, none⟩ y) ∧ OwnB ((W.setCell ⟨g, 0, none⟩ x).setCell ⟨g, 1, none⟩ y) w1.heap.size v L ∧ IsCell2 ((W.setCell ⟨g, 0, none⟩ x).setCell ⟨g, 1, none⟩ y) g x y := by
 refine ⟨((hB1.trans (s1.mono hB1.size)).setCell hg _).setCell hg _, ho.keep fun k hk _ => ?_, ?_, ?_⟩
 ·rw [Below.heap_setCell _ _ _ k (by simp only; omega), Below.heap_setCell _ _ _ k (by simp only; omega)]
 ·rw [World.cell?_setCell_other _ _ _ _ (by simp)]; exact World.cell?_setCell_same' _ _ _ (by rw [h0]; rfl)
 ·exact World.cell?_setCell_same' _ _ _ (by rw [World.cell?_setCell_other _ _ _ _ (by simp), h1]; rfl)
theorem len1 (L : List (List UInt8)) (l : List UInt8) : (L ++ [l]).length = L.length + 1 := by simp

def pushE (base : Nat) (L : List (List UInt8)) (l : List UInt8) : Nat := if wmayB base L = false then 1 else if bodyB l = false then 2 else if 48 ≤ L.length ∨ 34359738367 ≤ base + L.length then 4 else 0
/-- what Push answers: a fault and an empty sender, or the sender with one body more, in memory of its own -/
def PushPost (w : World) (base : Nat) (L : List (List UInt8)) (l : List UInt8) (e : Ending) (w' : World) : Prop :=
 Below w.heap.size w w' ∧ ((pushE base L l ≠ 0 ∧ e = .returned (.tuple #[.agg #[.int .u64 0, .slice none 0 0], .int .i64 (pushE base L l : Int)])) ∨
  (pushE base L l = 0 ∧ ∃ v, e = .returned (.tuple #[.agg #[.int .u64 (base : Int), v], .int .i64 0]) ∧ OwnB w' w.heap.size v (L ++ [l])))

set_option maxHeartbeats 1000000 in
theorem push_any (w : World) (base : Nat) (A : Option Addr) (c : Nat) (L : List (List UInt8)) (A1 : Option Addr) (c1 : Nat) (l : List UInt8) (h : Bx w w.heap.size A L) (h1 : Has w w.heap.size A1 (us l)) (hb : base < 18446744073709551616) (hf : Fit L) (hl : l.length ≤ 1000000) :
  Calls Try.prog 55 #[.agg #[.int .u64 (base : Int), .slice A L.length c], .slice A1 l.length c1] w (PushPost w base L l) := by
 have hL := hf.1; have H := Lib.hid h; have H1 := Lib.hid h1; have HF := Lib.hid hf; clear h h1 hf; obtain ⟨W0, HW0⟩ : ∃ W0, Hid (W0 = (w.alloc (.cells #[.int .u64 (base : Int), .slice A L.length c] 68)).alloc (.cells #[.int .u64 0, .slice none 0 0] 68)) := ⟨_, Lib.hid rfl⟩; have hb0 : Below w.heap.size w W0 := by rw [HW0.out]; exact ((Below.refl _ _).alloc (Nat.le_refl _) _).alloc (by simp) _
 have hz0 : W0.heap.size = w.heap.size + 2 := by rw [HW0.out]; simp
 have HZ0 := Lib.hid hz0; have k0 : W0.cell? ⟨w.heap.size, 0, none⟩ = some (.int .u64 (base : Int)) ∧ W0.cell? ⟨w.heap.size, 1, none⟩ = some (.slice A L.length c) ∧ W0.cell? ⟨w.heap.size + 1, 0, none⟩ = some (.int .u64 0) ∧ W0.cell? ⟨w.heap.size + 1, 1, none⟩ = some (.slice none 0 0) ∧ W0.frozen? ⟨w.heap.size + 1, 0, none⟩ = false ∧ W0.frozen? ⟨w.heap.size + 1, 1, none⟩ = false := by
  rw [HW0.out]; simp [go_sem]
 have HK0 := Lib.hid k0; clear k0 hz0; have hmx : L.length ≤ maxLen := by unfold maxLen; omega
 have H0 := Lib.hid (H.out.below hb0); go_enter Try.func55, Try.ntmps55
 go_wp2_with fail
 rw [← HW0.out]; refine (wmay_any W0 w.heap.size base A c L H0.out hb0.size hb hmx).mono ?_; rintro e w1 ⟨rfl, hb1⟩; obtain ⟨hc1, hf1⟩ := bcell hb1; have hz1 := hb1.size; rw [HZ0.out] at hz1 hc1 hf1; have k1 := (hc1 w.heap.size 0 (by omega)).trans HK0.out.1; have k2 := (hc1 w.heap.size 1 (by omega)).trans HK0.out.2.1; have k3 := (hc1 (w.heap.size + 1) 0 (by omega)).trans HK0.out.2.2.1; have k4 := (hc1 (w.heap.size + 1) 1 (by omega)).trans HK0.out.2.2.2.1; have k5 := (hf1 (w.heap.size + 1) 0 (by omega)).trans HK0.out.2.2.2.2.1; have k6 := (hf1 (w.heap.size + 1) 1 (by omega)).trans HK0.out.2.2.2.2.2; clear hc1 hf1; have hB1 : Below w.heap.size w w1 := hb0.trans (hb1.mono hb0.size)
 by_cases g1 : wmayB base L = true
 ·by_cases g2 : bodyB l = true
  ·have hl1 : 1 ≤ l.length ∧ l.length ≤ 448 := by simpa [bodyB] using g2
   obtain ⟨hl1, hl2⟩ := hl1; have hm1 : L.length ≤ 48 ∧ base + L.length ≤ 34359738367 := by
    have h := g1; unfold wmayB at h; simp only [Bool.and_eq_true, decide_eq_true_eq] at h; exact h.1
   obtain ⟨hm1, hm2⟩ := hm1
   by_cases g3 : 48 ≤ L.length
   ·have HE : Hid (pushE base L l = 4) := Lib.hid (by unfold pushE; rw [g1, g2, if_neg (by simp), if_neg (by simp), if_pos (.inl g3)]); rw [g1]; clear g1 g2; go_wp2; refine bodyPost_ret (v := .tuple #[.agg #[.int .u64 0, .slice none 0 0], .int .i64 4]) (by simp [results, Try.results55, go_sem, k3, k4]) rfl ?_; exact ⟨by first | exact (hB1.setCell (by simp) _).setCell (by simp) _ | exact hB1.setCell (by simp) _ | exact hB1, .inl ⟨by rw [HE.out]; omega, by rw [HE.out]; rfl⟩⟩
   ·by_cases g4 : 34359738367 ≤ base + L.length
    ·have HE : Hid (pushE base L l = 4) := Lib.hid (by unfold pushE; rw [g1, g2, if_neg (by simp), if_neg (by simp), if_pos (.inr g4)]); rw [g1]; clear g1 g2; go_wp2; refine bodyPost_ret (v := .tuple #[.agg #[.int .u64 0, .slice none 0 0], .int .i64 4]) (by simp [results, Try.results55, go_sem, k3, k4]) rfl ?_; exact ⟨by first | exact (hB1.setCell (by simp) _).setCell (by simp) _ | exact hB1.setCell (by simp) _ | exact hB1, .inl ⟨by rw [HE.out]; omega, by rw [HE.out]; rfl⟩⟩
    ·have HE : Hid (pushE base L l = 0) := Lib.hid (by unfold pushE; rw [g1, g2, if_neg (by simp), if_neg (by simp), if_neg (by omega)]); rw [g1]; clear g1 g2; have e48 : decide (48 ≤ L.length) = false := decide_eq_false g3
     go_wp2_with fail
     have HFB := Lib.hid (fun (x : List UInt8) (hx : x ∈ L) => (show x.length ≤ 140737488355328 by have := HF.out.2 x hx; omega)); have HFL : Hid (∀ x ∈ L ++ [l], x.length ≤ 140737488355328) := Lib.hid (fun x hx => by
      rcases List.mem_append.1 hx with h | h
      ·exact HFB.out x h
      ·simp at h; subst h; omega)
     -- R7
     have hbel : ∀ (dn : Nat → Bool) (xv : Nat → Value) (W : World), (if dn 10 = true then Below w.heap.size w W ∧ OwnB W w1.heap.size (xv 8) (L ++ [l]) ∧ IsCell2 W (w.heap.size + 1) (.int .u64 (base : Int)) (xv 8) else if dn 9 = true then Below w1.heap.size w1 W ∧ OwnB W w1.heap.size (xv 8) (L ++ [l]) ∧ xv 9 = .agg #[.int .u64 (base : Int), xv 8] else if dn 8 = true then Below w1.heap.size w1 W ∧ OwnB W w1.heap.size (xv 8) (L ++ [l]) else if dn 7 = true then Below w1.heap.size w1 W ∧ OwnB W w1.heap.size (xv 4) L ∧ Own W w1.heap.size (xv 6) l ∧ ApB (xv 6) (xv 4) ∧ OneOf (xv 6) (xv 7) W else if dn 6 = true then Below w1.heap.size w1 W ∧ OwnB W w1.heap.size (xv 4) L ∧ Own W w1.heap.size (xv 6) l ∧ ApB (xv 6) (xv 4) else if dn 4 = true then Below w1.heap.size w1 W ∧ OwnB W w1.heap.size (xv 4) L else Below w1.heap.size w1 W) → dn 10 = false → Below w1.heap.size w1 W := fun dn xv W h h0 => by
      rw [if_neg (by simp [h0])] at h; split at h
      ·exact h.1
      split at h
      ·exact h.1
      split at h
      ·exact h.1
      split at h
      ·exact h.1
      split at h
      ·exact h.1
      exact h
     refine wRG (fun dn xv W => if dn 10 = true then Below w.heap.size w W ∧ OwnB W w1.heap.size (xv 8) (L ++ [l]) ∧ IsCell2 W (w.heap.size + 1) (.int .u64 (base : Int)) (xv 8) else if dn 9 = true then Below w1.heap.size w1 W ∧ OwnB W w1.heap.size (xv 8) (L ++ [l]) ∧ xv 9 = .agg #[.int .u64 (base : Int), xv 8] else if dn 8 = true then Below w1.heap.size w1 W ∧ OwnB W w1.heap.size (xv 8) (L ++ [l]) else if dn 7 = true then Below w1.heap.size w1 W ∧ OwnB W w1.heap.size (xv 4) L ∧ Own W w1.heap.size (xv 6) l ∧ ApB (xv 6) (xv 4) ∧ OneOf (xv 6) (xv 7) W else if dn 6 = true then Below w1.heap.size w1 W ∧ OwnB W w1.heap.size (xv 4) L ∧ Own W w1.heap.size (xv 6) l ∧ ApB (xv 6) (xv 4) else if dn 4 = true then Below w1.heap.size w1 W ∧ OwnB W w1.heap.size (xv 4) L else Below w1.heap.size w1 W) (fun _ _ => True) [xP_ w.heap.size 0, xV_ (.int .u64 (base : Int)), xP_ w.heap.size 1, xV_ (.slice A L.length c), fun v _ => ∃ A2 c2, v = .slice A2 L.length c2, xV_ (.slice A1 l.length c1), fun v _ => ∃ A2 c2, v = .slice A2 l.length c2, fun v _ => True, fun v _ => True, fun v _ => True, fun v _ => True, xV_ (.int .i64 0)] (fun xv => by simpa using (Below.refl _ w1).drew) ?_ ?_
     ·refine Ep 1 2 w.heap.size 0 ?_
      refine EC 2 rfl (fun g h W F a b c d e H K f => ?_) ?_
      ·have f37 := gE (a 37) (by kernel_rfl) (H 0) (by kernel_rfl); have hb0 := hbel g h W e (c 10 uE); have hc0 := (hb0.cell (p := ⟨w.heap.size, 0, none⟩) (show w.heap.size < w1.heap.size by omega)).trans k1; clear hb0; clear H c b d a; refine oP rfl ?_; go_simp; exact f.out _ _ rfl trivial e
      refine Ep 3 2 w.heap.size 0 ?_
      refine EC 4 rfl (fun g h W F a b c d e H K f => ?_) ?_
      ·have f39 := gE (a 39) (by kernel_rfl) (H 2) (by kernel_rfl); have hb0 := hbel g h W e (c 10 uE); have hc0 := (hb0.cell (p := ⟨w.heap.size, 1, none⟩) (show w.heap.size < w1.heap.size by omega)).trans k2; clear hb0; clear H c b d a; refine oP rfl ?_; go_simp; exact f.out _ _ rfl trivial e
      refine EC 5 rfl (fun i k W F a b d f g H K h => ?_) ?_
      ·have f40 := gE (a 40) (by kernel_rfl) (H 3) (by kernel_rfl); have q6 := d 6 uE; have q7 := d 7 (uM 6 uE); have q8 := d 8 uE; have q9 := d 9 (uM 8 uE); have q10 := d 10 (uM 9 (uM 8 uE)); rw [if_neg (by simp [q10]), if_neg (by simp [q9]), if_neg (by simp [q8]), if_neg (by simp [q7]), if_neg (by simp [q6]), if_neg (by simp [b])] at g; have hS := g; clear g d b f a H; refine oP rfl ?_; go_simp; refine (copied_any W w.heap.size A c L (H.out.below (hB1.trans (hS.mono hB1.size))) (Nat.le_trans hB1.size hS.size) HF.out).mono ?_; rintro e W' ⟨v, rfl, ho, hb⟩; have hs : Below w1.heap.size w1 W' ∧ OwnB W' w1.heap.size v L := ⟨hS.trans (hb.mono hS.size), ho.mono hS.size⟩; obtain ⟨A2, c2, e2, _⟩ := ho.form HFB.out; exact h.out v W' ⟨A2, c2, e2⟩ trivial (by simpa [upB, upd, q6, q7, q8, q9, q10] using hs)
      refine Ei 6 1 (.slice A1 l.length c1) ?_
      refine EC 7 rfl (fun h i W F a b c d f H K g => ?_) ?_
      ·have f42 := gE (a 42) (by kernel_rfl) (H 5) (by kernel_rfl); have q4 := (H 4 uE).1; have q7 := c 7 uE; have q8 := c 8 uE; have q9 := c 9 (uM 8 uE); have q10 := c 10 (uM 9 (uM 8 uE)); rw [if_neg (by simp [q10]), if_neg (by simp [q9]), if_neg (by simp [q8]), if_neg (by simp [q7]), if_neg (by simp [b]), if_pos q4] at f; have hS := f; clear f c b d a H; refine oP rfl ?_; go_simp; refine (clone_any W w.heap.size A1 c1 l (H1.out.below (hB1.trans (hS.1.mono hB1.size))) (Nat.le_trans hB1.size hS.1.size) (by omega)).mono ?_; rintro e W' ⟨v, rfl, ho, hb⟩; have hs : Below w1.heap.size w1 W' ∧ OwnB W' w1.heap.size (i 4) L ∧ Own W' w1.heap.size v l ∧ ApB v (i 4) := ⟨hS.1.trans (hb.mono hS.1.size), hS.2.below hb, own_mono ho hS.1.size, apart_new hS.2 ho⟩; obtain ⟨A2, c2, e2, _⟩ := ho.form; exact g.out v W' ⟨A2, c2, e2⟩ trivial (by simpa [upB, upd, q7, q8, q9, q10] using hs)
      refine EC 8 rfl (fun g h W F a b c d e H K f => ?_) ?_
      ·have h6 := (H 6 uE).2; simp only [Dl] at h6; have f43 : F.tmps.getD 43 undef = h 6 := (a 43).trans (by kernel_rfl); have q6 := (H 6 uE).1; have q8 := c 8 uE; have q9 := c 9 (uM 8 uE); have q10 := c 10 (uM 9 (uM 8 uE)); rw [if_neg (by simp [q10]), if_neg (by simp [q9]), if_neg (by simp [q8]), if_neg (by simp [b]), if_pos q6] at e; have hS := e; clear e c b d a H; refine oP rfl ?_; obtain ⟨A2, c2, e2⟩ := h6; have e3 := e2; rw [e2] at f43; have g43 := f43; rw [Array.getD_eq_getD_getElem?] at g43; go_simp; rw [← e3]; have hb : Below W.heap.size W (W.alloc (.cells #[h 6] 47)) := (Below.refl _ _).alloc (Nat.le_refl _) _; have hs : Below w1.heap.size w1 (W.alloc (.cells #[h 6] 47)) ∧ OwnB (W.alloc (.cells #[h 6] 47)) w1.heap.size (h 4) L ∧ Own (W.alloc (.cells #[h 6] 47)) w1.heap.size (h 6) l ∧ ApB (h 6) (h 4) ∧ OneOf (h 6) (.slice (some ⟨W.heap.size, 0, none⟩) 1 1) (W.alloc (.cells #[h 6] 47)) := ⟨hS.1.trans (hb.mono hS.1.size), hS.2.1.below hb, own_below hS.2.2.1 hb (Nat.le_refl _), hS.2.2.2, OneOf.new W _ _⟩; exact f.out _ _ trivial trivial (by simpa [upB, upd, q8, q9, q10] using hs)
      refine EC 9 rfl (fun g h W F a b c d e H K f => ?_) ?_
      ·have f41 : F.tmps.getD 41 undef = h 4 := (a 41).trans (by kernel_rfl); have f44 : F.tmps.getD 44 undef = h 7 := (a 44).trans (by kernel_rfl); have q7 := (H 7 uE).1; have q9 := c 9 uE; have q10 := c 10 (uM 9 uE); rw [if_neg (by simp [q10]), if_neg (by simp [q9]), if_neg (by simp [b]), if_pos q7] at e; have hS := e; clear e c b d a H; refine oP rfl ?_; obtain ⟨s1, s2, s3, s4, A3, c3, e3, hh3⟩ := hS; have f44x := f44.trans e3; refine op_appB (base := w1.heap.size) (l := l) (u := h 6) (s := .tmp 41) (x := .tmp 44) (by rfl) f41 f44x s2 s3 s4 hh3 (by omega) s1.size ?_; intro v W' ho hb; have hs : Below w1.heap.size w1 W' ∧ OwnB W' w1.heap.size v (L ++ [l]) := ⟨s1.trans hb, ho⟩; exact f.out v _ trivial trivial (by simpa [upB, upd, q9, q10] using hs)
      refine EC 10 rfl (fun g h W F a b c d e H K f => ?_) ?_
      ·have f38 := gE (a 38) (by kernel_rfl) (H 1) (by kernel_rfl); have f45 : F.tmps.getD 45 undef = h 8 := (a 45).trans (by kernel_rfl); have q8 := (H 8 uE).1; have q10 := c 10 uE; rw [if_neg (by simp [q10]), if_neg (by simp [b]), if_pos q8] at e; have hS := e; clear e c b d a H; refine oP rfl ?_; obtain ⟨A2, c2, e2, _⟩ := hS.2.form HFL.out; rw [len1] at e2; have e3 := e2; have f45x := f45.trans e2; have g45 := f45x; have g38 := f38; rw [Array.getD_eq_getD_getElem?] at g45 g38; go_simp; rw [← e3]; have hs : Below w1.heap.size w1 W ∧ OwnB W w1.heap.size (h 8) (L ++ [l]) ∧ Value.agg #[.int .u64 (base : Int), h 8] = .agg #[.int .u64 (base : Int), h 8] := ⟨hS.1, hS.2, rfl⟩; exact f.out _ _ trivial trivial (by simpa [upB, upd, q10] using hs)
      refine EC 11 rfl (fun g h W F a b c d e H K f => ?_) ?_
      ·have f4 : F.tmps.getD 4 undef = .pointer (some ⟨w.heap.size + 1, 0, none⟩) := (a 4).trans (by kernel_rfl); have f46 : F.tmps.getD 46 undef = h 9 := (a 46).trans (by kernel_rfl); have q9 := (H 9 uE).1; rw [if_neg (by simp [b]), if_pos q9] at e; have hS := e; clear e c b d a H; refine oP rfl ?_; obtain ⟨s1, s2, s3⟩ := hS; obtain ⟨A2, c2, e2, _⟩ := s2.form HFL.out; rw [len1] at e2; have f46x := f46.trans s3; rw [e2] at f46x; have hc3 := (s1.cell (p := ⟨w.heap.size + 1, 0, none⟩) (show w.heap.size + 1 < w1.heap.size by omega)).trans k3; have hc4 := (s1.cell (p := ⟨w.heap.size + 1, 1, none⟩) (show w.heap.size + 1 < w1.heap.size by omega)).trans k4; have hf3 := (s1.frozen (p := ⟨w.heap.size + 1, 0, none⟩) (show w.heap.size + 1 < w1.heap.size by omega)).trans k5; have hf4 := (s1.frozen (p := ⟨w.heap.size + 1, 1, none⟩) (show w.heap.size + 1 < w1.heap.size by omega)).trans k6; have hs := set2 hB1 s1 (w.heap.size + 1) (by omega) (by omega) s2 hc3 hc4 (.int .u64 (base : Int)) (h 8); go_simp; rw [← e2]; exact f.out undef _ trivial trivial (by simpa [upB, upd] using hs)
      refine En 12 ?_
      exact EN
     ·intro dn xv W hI H; have q11 : xv 11 = .int .i64 0 := (H 11 (of_decide_eq_true (by kernel_rfl))).2; have qe : dn 10 = true := (H 10 (of_decide_eq_true (by kernel_rfl))).1; rw [if_pos qe] at hI; have hS := hI; clear H hI qe; simp only [putAll, Act.put, List.setIfInBounds_toArray, List.set_cons_zero, List.set_cons_succ, Nat.reduceAdd, q11]; clear q11; obtain ⟨s1, s2, s3, s4⟩ := hS; obtain ⟨A2, c2, e2, _⟩ := s2.form HFL.out; rw [len1] at e2; go_wp2; refine bodyPost_ret (v := .tuple #[.agg #[.int .u64 (base : Int), xv 8], .int .i64 0]) (by rw [e2] at s4 ⊢; simp [results, Try.results55, go_sem, s3, s4]) rfl ?_; exact ⟨s1, .inr ⟨HE.out, _, rfl, s2.mono hB1.size⟩⟩
     -- R7END
  ·have g2' : bodyB l = false := by simpa using g2
   have HE : Hid (pushE base L l = 2) := Lib.hid (by unfold pushE; rw [g1, g2', if_neg (by simp), if_pos rfl]); rw [g1]; clear g2 g1
   by_cases g3 : l.length < 1
   ·clear g2'; go_wp2; refine bodyPost_ret (v := .tuple #[.agg #[.int .u64 0, .slice none 0 0], .int .i64 2]) (by simp [results, Try.results55, go_sem, k3, k4]) rfl ?_; exact ⟨by first | exact (hB1.setCell (by simp) _).setCell (by simp) _ | exact hB1.setCell (by simp) _ | exact hB1, .inl ⟨by rw [HE.out]; omega, by rw [HE.out]; rfl⟩⟩
   ·have g4 : 448 < l.length := by
     have h := g2'; unfold bodyB at h; simp at h; omega
    clear g2'; go_wp2; refine bodyPost_ret (v := .tuple #[.agg #[.int .u64 0, .slice none 0 0], .int .i64 2]) (by simp [results, Try.results55, go_sem, k3, k4]) rfl ?_; exact ⟨by first | exact (hB1.setCell (by simp) _).setCell (by simp) _ | exact hB1.setCell (by simp) _ | exact hB1, .inl ⟨by rw [HE.out]; omega, by rw [HE.out]; rfl⟩⟩
 ·have g1' : wmayB base L = false := by simpa using g1
  have HE : Hid (pushE base L l = 1) := Lib.hid (by simp [pushE, g1']); rw [g1']; clear g1 g1'; go_wp2; refine bodyPost_ret (v := .tuple #[.agg #[.int .u64 0, .slice none 0 0], .int .i64 1]) (by simp [results, Try.results55, go_sem, k3, k4]) rfl ?_; exact ⟨by first | exact (hB1.setCell (by simp) _).setCell (by simp) _ | exact hB1.setCell (by simp) _ | exact hB1, .inl ⟨by rw [HE.out]; omega, by rw [HE.out]; rfl⟩⟩
end Go.Proofs.Ytngegjboenfmeaa
/- The walk of window.Acked. -/
namespace Go.Proofs.Ytngegjboenfmeaa
open Go Go.RowKit
set_option linter.unusedVariables false
set_option maxRecDepth 100000

theorem u64_wrap {x : Int} (h0 : 0 ≤ x) (h1 : x < 18446744073709551616) : IntKind.u64.wrap x = x := by
 exact IntWalk.u64_in x ⟨h0, by omega⟩
def ackB (base : Nat) (L : List (List UInt8)) (upto : Nat) : Bool := wmayB base L && decide (base < upto) && decide (upto - base ≤ min L.length 8)
def ackL (base : Nat) (L : List (List UInt8)) (upto : Nat) : List (List UInt8) := if ackB base L upto = true then L.drop (upto - base) else L
def ackV (base : Nat) (L : List (List UInt8)) (upto : Nat) : Nat := if ackB base L upto = true then upto else base
theorem ack_yes {base : Nat} {L : List (List UInt8)} {upto : Nat} (h : ackB base L upto = true) : ackL base L upto = L.drop (upto - base) ∧ ackV base L upto = upto := by simp [ackL, ackV, h]
theorem ack_no {base : Nat} {L : List (List UInt8)} {upto : Nat} (h : ackB base L upto = false) : ackL base L upto = L ∧ ackV base L upto = base := by simp [ackL, ackV, h]
def AckPost (w : World) (base : Nat) (L : List (List UInt8)) (upto : Nat) (e : Ending) (w' : World) : Prop :=
 Below w.heap.size w w' ∧ ∃ v, e = .returned (.tuple #[.agg #[.int .u64 (ackV base L upto : Int), v], .bool (ackB base L upto)]) ∧ OwnB w' w.heap.size v (ackL base L upto)
theorem run_fromB (A : Option Addr) (n c : Nat) (kd : IntKind) (k : Int) (k0 : Nat) (hk : k = (k0 : Int)) (h : k0 ≤ n) (hc : n ≤ c) (W : World) :
  (Instr.slice 66 (.slice A n c) (some (.int kd k)) none none).run Try.prog W = .ok (.slice (if c = k0 then A else A.map (·.add (k0 * 1))) (n - k0) (c - k0)) W := by
 subst hk; obtain ⟨i0, hi, hz0, hz1, hz2⟩ := info_parts info_bs; have he : Try.prog.elem 66 = 47 := by kernel_rfl
 rw [run_slice_l W 66 A n c (by kernel_rfl) kd (k0 : Int) (by omega) (by omega), he]; simp [sizeOf, typeInfo, hi, hz1, sliced]

/-- ahead of the region, and behind it -/
structure Ak (w W0 : World) (base : Nat) (A : Option Addr) (c : Nat) (L : List (List UInt8)) : Prop where
 b0 : Below w.heap.size w W0
 z0 : W0.heap.size = w.heap.size + 2
 k1 : W0.cell? ⟨w.heap.size, 0, none⟩ = some (.int .u64 (base : Int))
 k2 : W0.cell? ⟨w.heap.size, 1, none⟩ = some (.slice A L.length c)
 k3 : W0.cell? ⟨w.heap.size + 1, 0, none⟩ = some (.int .u64 0)
 k4 : W0.cell? ⟨w.heap.size + 1, 1, none⟩ = some (.slice none 0 0)
 k5 : W0.frozen? ⟨w.heap.size + 1, 0, none⟩ = false
 k6 : W0.frozen? ⟨w.heap.size + 1, 1, none⟩ = false
 h0 : Bx W0 w.heap.size A L
theorem Ak.below {w W0 W1 : World} {base : Nat} {A : Option Addr} {c : Nat} {L : List (List UInt8)} (h : Ak w W0 base A c L) (hb : Below W0.heap.size W0 W1) (hz : W1.heap.size = W0.heap.size) : Ak w W1 base A c L := by
 have hz0 := h.z0; obtain ⟨hc1, hf1⟩ := bcell hb; exact ⟨h.b0.trans (hb.mono h.b0.size), by omega, (hc1 _ 0 (by omega)).trans h.k1, (hc1 _ 1 (by omega)).trans h.k2, (hc1 _ 0 (by omega)).trans h.k3, (hc1 _ 1 (by omega)).trans h.k4, (hf1 _ 0 (by omega)).trans h.k5, (hf1 _ 1 (by omega)).trans h.k6, h.h0.below (hb.mono h.b0.size)⟩
theorem Ak.new (w : World) (base : Nat) (A : Option Addr) (c : Nat) (L : List (List UInt8)) (h : Bx w w.heap.size A L) :
  Ak w ((w.alloc (.cells #[.int .u64 (base : Int), .slice A L.length c] 68)).alloc (.cells #[.int .u64 0, .slice none 0 0] 68)) base A c L := by
 have hb0 : Below w.heap.size w ((w.alloc (.cells #[.int .u64 (base : Int), .slice A L.length c] 68)).alloc (.cells #[.int .u64 0, .slice none 0 0] 68)) := ((Below.refl _ _).alloc (Nat.le_refl _) _).alloc (by simp) _; exact ⟨hb0, by simp, by simp [go_sem], by simp [go_sem], by simp [go_sem], by simp [go_sem], by simp [go_sem], by simp [go_sem], h.below hb0⟩

set_option maxHeartbeats 1000000 in
theorem acked_a (w : World) (base upto : Nat) (A : Option Addr) (c : Nat) (L : List (List UInt8)) (h : Bx w w.heap.size A L) (hb : base < 18446744073709551616) (hu : upto < 18446744073709551616) (hf : Fit L) (hcc : L.length ≤ c) (hcm : c ≤ maxLen)
  (g1 : wmayB base L = false) :
  Calls Try.prog 42 #[.agg #[.int .u64 (base : Int), .slice A L.length c], .int .u64 (upto : Int)] w (AckPost w base L upto) := by
 have hL := hf.1; have H := Lib.hid h; have HF := Lib.hid hf; have hmx : L.length ≤ maxLen := by omega
 have HFB := Lib.hid (fun (x : List UInt8) (hx : x ∈ L) => (show x.length ≤ 140737488355328 by have := HF.out.2 x hx; omega)); clear hf; obtain ⟨W0, HW0⟩ : ∃ W0, Hid (W0 = (w.alloc (.cells #[.int .u64 (base : Int), .slice A L.length c] 68)).alloc (.cells #[.int .u64 0, .slice none 0 0] 68)) := ⟨_, Lib.hid rfl⟩; have HA : Hid (Ak w W0 base A c L) := Lib.hid (by rw [HW0.out]; exact Ak.new w base A c L h); obtain ⟨m, Hm⟩ : ∃ m, Hid (min L.length 8 = m) := ⟨_, Lib.hid rfl⟩; have hm8 : m ≤ 8 := by have := Hm.out; omega
 clear h; have HM := Lib.hid g1; have HE : Hid (ackB base L upto = false) := Lib.hid (by simp [ackB, g1]); clear g1; go_enter Try.func42, Try.ntmps42
 go_wp2_with fail
 rw [← HW0.out]; refine wRG (fun dn xv W => Below W0.heap.size W0 W) (fun W W' => Below W.heap.size W W') [xV_ (.agg #[.int .u64 (base : Int), .slice A L.length c]), xV_ (.bool false), xV_ (.bool true), xV_ (.bool true), xV_ undef, xV_ undef, xV_ undef, xV_ undef, xV_ (.bool true), xV_ (.bool true), xV_ undef, xV_ undef, xV_ undef, xV_ undef, xV_ undef, xV_ undef, xV_ undef, xV_ undef, xV_ (.bool true)] (fun xv => by simpa using (Below.refl _ W0).drew) ?_ ?_
 ·refine EC 1 rfl (fun g h W F a b c d e H K f => ?_) ?_
  ·have f2 : F.tmps.getD 2 undef = .pointer (some ⟨w.heap.size, 0, none⟩) := (a 2).trans (by kernel_rfl); have hz0 := HA.out.z0; have hc0 := (e.cell (p := ⟨w.heap.size, 0, none⟩) (show w.heap.size < W0.heap.size by omega)).trans HA.out.k1; have hc1 := (e.cell (p := ⟨w.heap.size, 1, none⟩) (show w.heap.size < W0.heap.size by omega)).trans HA.out.k2; clear hz0; clear H c b d a; refine oP rfl ?_; go_simp; exact f.out _ _ rfl (Below.refl _ _) (by simpa [upB, upd] using e)
  refine EC 2 rfl (fun i j W F a b d f g H K h => ?_) ?_
  ·have h0 : j 0 = .agg #[.int .u64 (base : Int), .slice A L.length c] := (H 0 uE).2; have f6 : F.tmps.getD 6 undef = .agg #[.int .u64 (base : Int), .slice A L.length c] := (a 6).trans (Eq.trans (by kernel_rfl) h0); clear H d b f a; refine oP rfl ?_; go_simp; refine (wmay_any W w.heap.size base A c L (HA.out.h0.below (g.mono HA.out.b0.size)) (Nat.le_trans HA.out.b0.size g.size) hb hmx).mono ?_; rintro e W' ⟨rfl, hb⟩; rw [HM.out]; exact h.out _ W' rfl hb (by simpa [upB, upd] using (g.trans (hb.mono g.size)))
  refine EC 3 rfl (fun g h W F a b c d e H K f => ?_) ?_
  ·have f7 := gE (a 7) (by kernel_rfl) (H 1) (by kernel_rfl); clear H c b d a; refine oP rfl ?_; go_simp; exact f.out _ _ rfl (Below.refl _ _) (by simpa [upB, upd] using e)
  refine EC 4 rfl (fun g h W F a b c d e H K f => ?_) ?_
  ·have f8 := gE (a 8) (by kernel_rfl) (H 2) (by kernel_rfl); clear H c b d a; refine oP rfl ?_; go_simp; exact f.out _ _ rfl (Below.refl _ _) (by simpa [upB, upd] using e)
  refine EC 5 rfl (fun g h W F a b c d e H K f => ?_) ?_
  ·have f9 := gE (a 9) (by kernel_rfl) (H 3) (by kernel_rfl); clear H c b d a; refine off_guard rfl (by kernel_rfl) f9 (by decide) ?_; exact f.out _ _ rfl (Below.refl _ _) (by simpa [upB, upd] using e)
  refine EC 6 rfl (fun g h W F a b c d e H K f => ?_) ?_
  ·have f9 := gE (a 9) (by kernel_rfl) (H 3) (by kernel_rfl); clear H c b d a; refine off_guard rfl (by kernel_rfl) f9 (by decide) ?_; exact f.out _ _ rfl (Below.refl _ _) (by simpa [upB, upd] using e)
  refine EC 7 rfl (fun g h W F a b c d e H K f => ?_) ?_
  ·have f9 := gE (a 9) (by kernel_rfl) (H 3) (by kernel_rfl); clear H c b d a; refine off_guard rfl (by kernel_rfl) f9 (by decide) ?_; exact f.out _ _ rfl (Below.refl _ _) (by simpa [upB, upd] using e)
  refine EC 8 rfl (fun g h W F a b c d e H K f => ?_) ?_
  ·have f9 := gE (a 9) (by kernel_rfl) (H 3) (by kernel_rfl); clear H c b d a; refine off_guard rfl (by kernel_rfl) f9 (by decide) ?_; exact f.out _ _ rfl (Below.refl _ _) (by simpa [upB, upd] using e)
  refine EC 9 rfl (fun g h W F a b c d e H K f => ?_) ?_
  ·have f9 := gE (a 9) (by kernel_rfl) (H 3) (by kernel_rfl); have f13 := gE (a 13) (by kernel_rfl) (H 7) (by kernel_rfl); clear H c b d a; refine oP rfl ?_; go_simp; exact f.out _ _ rfl (Below.refl _ _) (by simpa [upB, upd] using e)
  refine EC 10 rfl (fun g h W F a b c d e H K f => ?_) ?_
  ·have f14 := gE (a 14) (by kernel_rfl) (H 8) (by kernel_rfl); clear H c b d a; refine oP rfl ?_; go_simp; exact f.out _ _ rfl (Below.refl _ _) (by simpa [upB, upd] using e)
  refine EC 11 rfl (fun g h W F a b c d e H K f => ?_) ?_
  ·have f15 := gE (a 15) (by kernel_rfl) (H 9) (by kernel_rfl); clear H c b d a; refine off_guard rfl (by kernel_rfl) f15 (by decide) ?_; exact f.out _ _ rfl (Below.refl _ _) (by simpa [upB, upd] using e)
  refine EC 12 rfl (fun g h W F a b c d e H K f => ?_) ?_
  ·have f15 := gE (a 15) (by kernel_rfl) (H 9) (by kernel_rfl); clear H c b d a; refine off_guard rfl (by kernel_rfl) f15 (by decide) ?_; exact f.out _ _ rfl (Below.refl _ _) (by simpa [upB, upd] using e)
  refine EC 13 rfl (fun g h W F a b c d e H K f => ?_) ?_
  ·have f15 := gE (a 15) (by kernel_rfl) (H 9) (by kernel_rfl); clear H c b d a; refine off_guard rfl (by kernel_rfl) f15 (by decide) ?_; exact f.out _ _ rfl (Below.refl _ _) (by simpa [upB, upd] using e)
  refine EC 14 rfl (fun g h W F a b c d e H K f => ?_) ?_
  ·have f15 := gE (a 15) (by kernel_rfl) (H 9) (by kernel_rfl); clear H c b d a; refine off_guard rfl (by kernel_rfl) f15 (by decide) ?_; exact f.out _ _ rfl (Below.refl _ _) (by simpa [upB, upd] using e)
  refine EC 15 rfl (fun g h W F a b c d e H K f => ?_) ?_
  ·have f15 := gE (a 15) (by kernel_rfl) (H 9) (by kernel_rfl); clear H c b d a; refine off_guard rfl (by kernel_rfl) f15 (by decide) ?_; exact f.out _ _ rfl (Below.refl _ _) (by simpa [upB, upd] using e)
  refine EC 16 rfl (fun g h W F a b c d e H K f => ?_) ?_
  ·have f15 := gE (a 15) (by kernel_rfl) (H 9) (by kernel_rfl); clear H c b d a; refine off_guard rfl (by kernel_rfl) f15 (by decide) ?_; exact f.out _ _ rfl (Below.refl _ _) (by simpa [upB, upd] using e)
  refine EC 17 rfl (fun g h W F a b c d e H K f => ?_) ?_
  ·have f15 := gE (a 15) (by kernel_rfl) (H 9) (by kernel_rfl); clear H c b d a; refine off_guard rfl (by kernel_rfl) f15 (by decide) ?_; exact f.out _ _ rfl (Below.refl _ _) (by simpa [upB, upd] using e)
  refine EC 18 rfl (fun g h W F a b c d e H K f => ?_) ?_
  ·have f15 := gE (a 15) (by kernel_rfl) (H 9) (by kernel_rfl); clear H c b d a; refine off_guard rfl (by kernel_rfl) f15 (by decide) ?_; exact f.out _ _ rfl (Below.refl _ _) (by simpa [upB, upd] using e)
  refine EC 19 rfl (fun g h W F a b c d e H K f => ?_) ?_
  ·have f15 := gE (a 15) (by kernel_rfl) (H 9) (by kernel_rfl); have f23 := gE (a 23) (by kernel_rfl) (H 17) (by kernel_rfl); clear H c b d a; refine oP rfl ?_; go_simp; exact f.out _ _ rfl (Below.refl _ _) (by simpa [upB, upd] using e)
  exact EN
 ·intro dn xv W hI H; have q18 : xv 18 = .bool true := (H 18 (of_decide_eq_true (by kernel_rfl))).2; have hS : Below W0.heap.size W0 W := hI; clear H hI; simp only [putAll, Act.put, List.setIfInBounds_toArray, List.set_cons_zero, List.set_cons_succ, Nat.reduceAdd, q18]; clear q18; obtain ⟨w1, Hw1⟩ : ∃ w1, Hid (W = w1) := ⟨_, Lib.hid rfl⟩; have hb1 : Below W0.heap.size W0 W := hS; rw [Hw1.out] at hb1 ⊢; clear hS; obtain ⟨hc1, hf1⟩ := bcell hb1; have hz1 := hb1.size; rw [HA.out.z0] at hz1 hc1 hf1; have k1 := (hc1 w.heap.size 0 (by omega)).trans HA.out.k1; have k2 := (hc1 w.heap.size 1 (by omega)).trans HA.out.k2; have k3 := (hc1 (w.heap.size + 1) 0 (by omega)).trans HA.out.k3; have k4 := (hc1 (w.heap.size + 1) 1 (by omega)).trans HA.out.k4; have k5 := (hf1 (w.heap.size + 1) 0 (by omega)).trans HA.out.k5; have k6 := (hf1 (w.heap.size + 1) 1 (by omega)).trans HA.out.k6; have hB1 : Below w.heap.size w w1 := HA.out.b0.trans (hb1.mono HA.out.b0.size); clear hc1 hf1
  go_wp2_with fail
  have hbel : ∀ (dn : Nat → Bool) (xv : Nat → Value) (W : World), (if dn 6 = true then Below w.heap.size w W ∧ OwnB W w1.heap.size (xv 4) L ∧ IsCell2 W (w.heap.size + 1) (.int .u64 (base : Int)) (xv 4) else if dn 5 = true then Below w1.heap.size w1 W ∧ OwnB W w1.heap.size (xv 4) L ∧ xv 5 = .agg #[.int .u64 (base : Int), xv 4] else if dn 4 = true then Below w1.heap.size w1 W ∧ OwnB W w1.heap.size (xv 4) L else Below w1.heap.size w1 W) → dn 6 = false → Below w1.heap.size w1 W := fun dn xv W h h0 => by
   rw [if_neg (by simp [h0])] at h; split at h
   ·exact h.1
   split at h
   ·exact h.1
   exact h
  refine wRG (fun dn xv W => if dn 6 = true then Below w.heap.size w W ∧ OwnB W w1.heap.size (xv 4) L ∧ IsCell2 W (w.heap.size + 1) (.int .u64 (base : Int)) (xv 4) else if dn 5 = true then Below w1.heap.size w1 W ∧ OwnB W w1.heap.size (xv 4) L ∧ xv 5 = .agg #[.int .u64 (base : Int), xv 4] else if dn 4 = true then Below w1.heap.size w1 W ∧ OwnB W w1.heap.size (xv 4) L else Below w1.heap.size w1 W) (fun _ _ => True) [xP_ w.heap.size 0, xV_ (.int .u64 (base : Int)), xP_ w.heap.size 1, xV_ (.slice A L.length c), fun v _ => ∃ A2 c2, v = .slice A2 L.length c2, fun v _ => True, fun v _ => True, xV_ (.bool false)] (fun xv => by simpa using (Below.refl _ w1).drew) ?_ ?_
  ·refine Ep 1 2 w.heap.size 0 ?_
   refine EC 2 rfl (fun g h W F a b c d e H K f => ?_) ?_
   ·have f25 := gE (a 25) (by kernel_rfl) (H 0) (by kernel_rfl); have hb0 := hbel g h W e (c 6 uE); have hc0 := (hb0.cell (p := ⟨w.heap.size, 0, none⟩) (show w.heap.size < w1.heap.size by omega)).trans k1; clear hb0; clear H c b d a; refine oP rfl ?_; go_simp; exact f.out _ _ rfl trivial e
   refine Ep 3 2 w.heap.size 0 ?_
   refine EC 4 rfl (fun g h W F a b c d e H K f => ?_) ?_
   ·have f27 := gE (a 27) (by kernel_rfl) (H 2) (by kernel_rfl); have hb0 := hbel g h W e (c 6 uE); have hc0 := (hb0.cell (p := ⟨w.heap.size, 1, none⟩) (show w.heap.size < w1.heap.size by omega)).trans k2; clear hb0; clear H c b d a; refine oP rfl ?_; go_simp; exact f.out _ _ rfl trivial e
   refine EC 5 rfl (fun i k W F a b d f g H K h => ?_) ?_
   ·have f28 := gE (a 28) (by kernel_rfl) (H 3) (by kernel_rfl); have q5 := d 5 uE; have q6 := d 6 (uM 5 uE); rw [if_neg (by simp [q6]), if_neg (by simp [q5]), if_neg (by simp [b])] at g; have hS := g; clear g d b f a H; refine oP rfl ?_; go_simp; refine (copied_any W w.heap.size A c L (H.out.below (hB1.trans (hS.mono hB1.size))) (Nat.le_trans hB1.size hS.size) HF.out).mono ?_; rintro e W' ⟨v, rfl, ho, hb⟩; have hs : Below w1.heap.size w1 W' ∧ OwnB W' w1.heap.size v L := ⟨hS.trans (hb.mono hS.size), ho.mono hS.size⟩; obtain ⟨A2, c2, e2, _⟩ := ho.form HFB.out; exact h.out v W' ⟨A2, c2, e2⟩ trivial (by simpa [upB, upd, q5, q6] using hs)
   refine EC 6 rfl (fun g h W F a b c d e H K f => ?_) ?_
   ·have f26 := gE (a 26) (by kernel_rfl) (H 1) (by kernel_rfl); have f29 : F.tmps.getD 29 undef = h 4 := (a 29).trans (by kernel_rfl); have q4 := (H 4 uE).1; have q6 := c 6 uE; rw [if_neg (by simp [q6]), if_neg (by simp [b]), if_pos q4] at e; have hS := e; clear e c b d a H; refine oP rfl ?_; obtain ⟨A2, c2, e2, _⟩ := hS.2.form HFB.out; have e3 := e2; have f29x := f29.trans e2; have g29 := f29x; have g26 := f26; rw [Array.getD_eq_getD_getElem?] at g29 g26; go_simp; rw [← e3]; have hs : Below w1.heap.size w1 W ∧ OwnB W w1.heap.size (h 4) L ∧ Value.agg #[.int .u64 (base : Int), h 4] = .agg #[.int .u64 (base : Int), h 4] := ⟨hS.1, hS.2, rfl⟩; exact f.out _ _ trivial trivial (by simpa [upB, upd, q6] using hs)
   refine EC 7 rfl (fun g h W F a b c d e H K f => ?_) ?_
   ·have f4 : F.tmps.getD 4 undef = .pointer (some ⟨w.heap.size + 1, 0, none⟩) := (a 4).trans (by kernel_rfl); have f30 : F.tmps.getD 30 undef = h 5 := (a 30).trans (by kernel_rfl); have q5 := (H 5 uE).1; rw [if_neg (by simp [b]), if_pos q5] at e; have hS := e; clear e c b d a H; refine oP rfl ?_; obtain ⟨s1, s2, s3⟩ := hS; obtain ⟨A2, c2, e2, _⟩ := s2.form HFB.out; have f30x := f30.trans s3; rw [e2] at f30x; have hc3 := (s1.cell (p := ⟨w.heap.size + 1, 0, none⟩) (show w.heap.size + 1 < w1.heap.size by omega)).trans k3; have hc4 := (s1.cell (p := ⟨w.heap.size + 1, 1, none⟩) (show w.heap.size + 1 < w1.heap.size by omega)).trans k4; have hf3 := (s1.frozen (p := ⟨w.heap.size + 1, 0, none⟩) (show w.heap.size + 1 < w1.heap.size by omega)).trans k5; have hf4 := (s1.frozen (p := ⟨w.heap.size + 1, 1, none⟩) (show w.heap.size + 1 < w1.heap.size by omega)).trans k6; have hs := set2 hB1 s1 (w.heap.size + 1) (by omega) (by omega) s2 hc3 hc4 (.int .u64 (base : Int)) (h 4); go_simp; rw [← e2]; exact f.out undef _ trivial trivial (by simpa [upB, upd] using hs)
   refine En 8 ?_
   exact EN
  ·intro dn xv W hI H; have q7 : xv 7 = .bool false := (H 7 (of_decide_eq_true (by kernel_rfl))).2; have qe : dn 6 = true := (H 6 (of_decide_eq_true (by kernel_rfl))).1; rw [if_pos qe] at hI; have hS := hI; clear H hI qe; simp only [putAll, Act.put, List.setIfInBounds_toArray, List.set_cons_zero, List.set_cons_succ, Nat.reduceAdd, q7]; clear q7; obtain ⟨s1, s2, s3, s4⟩ := hS; obtain ⟨A2, c2, e2, _⟩ := s2.form HFB.out; go_wp2; refine bodyPost_ret (v := .tuple #[.agg #[.int .u64 (base : Int), xv 4], .bool false]) (by rw [e2] at s4 ⊢; simp [results, Try.results42, go_sem, s3, s4]) rfl ?_; exact ⟨s1, xv 4, by rw [HE.out, (ack_no HE.out).2], by rw [(ack_no HE.out).1]; exact s2.mono hB1.size⟩

set_option maxHeartbeats 1000000 in
theorem acked_b (w : World) (base upto : Nat) (A : Option Addr) (c : Nat) (L : List (List UInt8)) (h : Bx w w.heap.size A L) (hb : base < 18446744073709551616) (hu : upto < 18446744073709551616) (hf : Fit L) (hcc : L.length ≤ c) (hcm : c ≤ maxLen)
  (g1 : wmayB base L = true) (g2 : upto ≤ base) :
  Calls Try.prog 42 #[.agg #[.int .u64 (base : Int), .slice A L.length c], .int .u64 (upto : Int)] w (AckPost w base L upto) := by
 have hL := hf.1; have H := Lib.hid h; have HF := Lib.hid hf; have hmx : L.length ≤ maxLen := by omega
 have HFB := Lib.hid (fun (x : List UInt8) (hx : x ∈ L) => (show x.length ≤ 140737488355328 by have := HF.out.2 x hx; omega)); clear hf; obtain ⟨W0, HW0⟩ : ∃ W0, Hid (W0 = (w.alloc (.cells #[.int .u64 (base : Int), .slice A L.length c] 68)).alloc (.cells #[.int .u64 0, .slice none 0 0] 68)) := ⟨_, Lib.hid rfl⟩; have HA : Hid (Ak w W0 base A c L) := Lib.hid (by rw [HW0.out]; exact Ak.new w base A c L h); obtain ⟨m, Hm⟩ : ∃ m, Hid (min L.length 8 = m) := ⟨_, Lib.hid rfl⟩; have hm8 : m ≤ 8 := by have := Hm.out; omega
 clear h; have HM := Lib.hid g1; have HE : Hid (ackB base L upto = false) := Lib.hid (by unfold ackB; rw [decide_eq_false (p := base < upto) (by omega)]; simp); clear g1; have HD1 : Hid (decide ((upto : Int) ≤ (base : Int)) = true) := Lib.hid (by simp; omega); have HD2 : Hid (decide (upto ≤ base) = true) := Lib.hid (by simp; omega); go_enter Try.func42, Try.ntmps42
 go_wp2_with fail
 rw [← HW0.out]; refine wRG (fun dn xv W => Below W0.heap.size W0 W) (fun W W' => Below W.heap.size W W') [xV_ (.agg #[.int .u64 (base : Int), .slice A L.length c]), xV_ (.bool true), xV_ (.bool false), xV_ (.bool false), xV_ (.int .u64 (upto : Int)), xP_ w.heap.size 0, xV_ (.int .u64 (base : Int)), xV_ (.bool true), xV_ (.bool true), xV_ (.bool true), xV_ undef, xV_ undef, xV_ undef, xV_ undef, xV_ undef, xV_ undef, xV_ undef, xV_ undef, xV_ (.bool true)] (fun xv => by simpa using (Below.refl _ W0).drew) ?_ ?_
 ·refine EC 1 rfl (fun g h W F a b c d e H K f => ?_) ?_
  ·have f2 : F.tmps.getD 2 undef = .pointer (some ⟨w.heap.size, 0, none⟩) := (a 2).trans (by kernel_rfl); have hz0 := HA.out.z0; have hc0 := (e.cell (p := ⟨w.heap.size, 0, none⟩) (show w.heap.size < W0.heap.size by omega)).trans HA.out.k1; have hc1 := (e.cell (p := ⟨w.heap.size, 1, none⟩) (show w.heap.size < W0.heap.size by omega)).trans HA.out.k2; clear hz0; clear H c b d a; refine oP rfl ?_; go_simp; exact f.out _ _ rfl (Below.refl _ _) (by simpa [upB, upd] using e)
  refine EC 2 rfl (fun i j W F a b d f g H K h => ?_) ?_
  ·have h0 : j 0 = .agg #[.int .u64 (base : Int), .slice A L.length c] := (H 0 uE).2; have f6 : F.tmps.getD 6 undef = .agg #[.int .u64 (base : Int), .slice A L.length c] := (a 6).trans (Eq.trans (by kernel_rfl) h0); clear H d b f a; refine oP rfl ?_; go_simp; refine (wmay_any W w.heap.size base A c L (HA.out.h0.below (g.mono HA.out.b0.size)) (Nat.le_trans HA.out.b0.size g.size) hb hmx).mono ?_; rintro e W' ⟨rfl, hb⟩; rw [HM.out]; exact h.out _ W' rfl hb (by simpa [upB, upd] using (g.trans (hb.mono g.size)))
  refine EC 3 rfl (fun g h W F a b c d e H K f => ?_) ?_
  ·have f7 := gE (a 7) (by kernel_rfl) (H 1) (by kernel_rfl); clear H c b d a; refine oP rfl ?_; go_simp; exact f.out _ _ rfl (Below.refl _ _) (by simpa [upB, upd] using e)
  refine EC 4 rfl (fun g h W F a b c d e H K f => ?_) ?_
  ·have f8 := gE (a 8) (by kernel_rfl) (H 2) (by kernel_rfl); clear H c b d a; refine oP rfl ?_; go_simp; exact f.out _ _ rfl (Below.refl _ _) (by simpa [upB, upd] using e)
  refine EC 5 rfl (fun g h W F a b c d e H K f => ?_) ?_
  ·have f1 : F.tmps.getD 1 undef = .int .u64 (upto : Int) := (a 1).trans (by kernel_rfl); have f9 := gE (a 9) (by kernel_rfl) (H 3) (by kernel_rfl); clear H c b d a; refine oG rfl (by kernel_rfl) f9 ?_; go_simp; exact f.out _ _ rfl (Below.refl _ _) (by simpa [upB, upd] using e)
  refine EC 6 rfl (fun g h W F a b c d e H K f => ?_) ?_
  ·have f2 : F.tmps.getD 2 undef = .pointer (some ⟨w.heap.size, 0, none⟩) := (a 2).trans (by kernel_rfl); have f9 := gE (a 9) (by kernel_rfl) (H 3) (by kernel_rfl); clear H c b d a; refine oG rfl (by kernel_rfl) f9 ?_; go_simp; exact f.out _ _ rfl (Below.refl _ _) (by simpa [upB, upd] using e)
  refine EC 7 rfl (fun g h W F a b c d e H K f => ?_) ?_
  ·have f11 := gE (a 11) (by kernel_rfl) (H 5) (by kernel_rfl); have f9 := gE (a 9) (by kernel_rfl) (H 3) (by kernel_rfl); have hz0 := HA.out.z0; have hc0 := (e.cell (p := ⟨w.heap.size, 0, none⟩) (show w.heap.size < W0.heap.size by omega)).trans HA.out.k1; have hc1 := (e.cell (p := ⟨w.heap.size, 1, none⟩) (show w.heap.size < W0.heap.size by omega)).trans HA.out.k2; clear hz0; clear H c b d a; refine oG rfl (by kernel_rfl) f9 ?_; go_simp; exact f.out _ _ rfl (Below.refl _ _) (by simpa [upB, upd] using e)
  refine EC 8 rfl (fun g h W F a b c d e H K f => ?_) ?_
  ·have f10 := gE (a 10) (by kernel_rfl) (H 4) (by kernel_rfl); have f12 := gE (a 12) (by kernel_rfl) (H 6) (by kernel_rfl); have f9 := gE (a 9) (by kernel_rfl) (H 3) (by kernel_rfl); clear H c b d a; refine oG rfl (by kernel_rfl) f9 ?_; have d1 := HD1.out; have d2 := HD2.out; go_simp; exact f.out _ _ rfl (Below.refl _ _) (by simpa [upB, upd] using e)
  refine EC 9 rfl (fun g h W F a b c d e H K f => ?_) ?_
  ·have f9 := gE (a 9) (by kernel_rfl) (H 3) (by kernel_rfl); have f13 := gE (a 13) (by kernel_rfl) (H 7) (by kernel_rfl); clear H c b d a; refine oP rfl ?_; go_simp; exact f.out _ _ rfl (Below.refl _ _) (by simpa [upB, upd] using e)
  refine EC 10 rfl (fun g h W F a b c d e H K f => ?_) ?_
  ·have f14 := gE (a 14) (by kernel_rfl) (H 8) (by kernel_rfl); clear H c b d a; refine oP rfl ?_; go_simp; exact f.out _ _ rfl (Below.refl _ _) (by simpa [upB, upd] using e)
  refine EC 11 rfl (fun g h W F a b c d e H K f => ?_) ?_
  ·have f15 := gE (a 15) (by kernel_rfl) (H 9) (by kernel_rfl); clear H c b d a; refine off_guard rfl (by kernel_rfl) f15 (by decide) ?_; exact f.out _ _ rfl (Below.refl _ _) (by simpa [upB, upd] using e)
  refine EC 12 rfl (fun g h W F a b c d e H K f => ?_) ?_
  ·have f15 := gE (a 15) (by kernel_rfl) (H 9) (by kernel_rfl); clear H c b d a; refine off_guard rfl (by kernel_rfl) f15 (by decide) ?_; exact f.out _ _ rfl (Below.refl _ _) (by simpa [upB, upd] using e)
  refine EC 13 rfl (fun g h W F a b c d e H K f => ?_) ?_
  ·have f15 := gE (a 15) (by kernel_rfl) (H 9) (by kernel_rfl); clear H c b d a; refine off_guard rfl (by kernel_rfl) f15 (by decide) ?_; exact f.out _ _ rfl (Below.refl _ _) (by simpa [upB, upd] using e)
  refine EC 14 rfl (fun g h W F a b c d e H K f => ?_) ?_
  ·have f15 := gE (a 15) (by kernel_rfl) (H 9) (by kernel_rfl); clear H c b d a; refine off_guard rfl (by kernel_rfl) f15 (by decide) ?_; exact f.out _ _ rfl (Below.refl _ _) (by simpa [upB, upd] using e)
  refine EC 15 rfl (fun g h W F a b c d e H K f => ?_) ?_
  ·have f15 := gE (a 15) (by kernel_rfl) (H 9) (by kernel_rfl); clear H c b d a; refine off_guard rfl (by kernel_rfl) f15 (by decide) ?_; exact f.out _ _ rfl (Below.refl _ _) (by simpa [upB, upd] using e)
  refine EC 16 rfl (fun g h W F a b c d e H K f => ?_) ?_
  ·have f15 := gE (a 15) (by kernel_rfl) (H 9) (by kernel_rfl); clear H c b d a; refine off_guard rfl (by kernel_rfl) f15 (by decide) ?_; exact f.out _ _ rfl (Below.refl _ _) (by simpa [upB, upd] using e)
  refine EC 17 rfl (fun g h W F a b c d e H K f => ?_) ?_
  ·have f15 := gE (a 15) (by kernel_rfl) (H 9) (by kernel_rfl); clear H c b d a; refine off_guard rfl (by kernel_rfl) f15 (by decide) ?_; exact f.out _ _ rfl (Below.refl _ _) (by simpa [upB, upd] using e)
  refine EC 18 rfl (fun g h W F a b c d e H K f => ?_) ?_
  ·have f15 := gE (a 15) (by kernel_rfl) (H 9) (by kernel_rfl); clear H c b d a; refine off_guard rfl (by kernel_rfl) f15 (by decide) ?_; exact f.out _ _ rfl (Below.refl _ _) (by simpa [upB, upd] using e)
  refine EC 19 rfl (fun g h W F a b c d e H K f => ?_) ?_
  ·have f15 := gE (a 15) (by kernel_rfl) (H 9) (by kernel_rfl); have f23 := gE (a 23) (by kernel_rfl) (H 17) (by kernel_rfl); clear H c b d a; refine oP rfl ?_; go_simp; exact f.out _ _ rfl (Below.refl _ _) (by simpa [upB, upd] using e)
  exact EN
 ·intro dn xv W hI H; have q18 : xv 18 = .bool true := (H 18 (of_decide_eq_true (by kernel_rfl))).2; have hS : Below W0.heap.size W0 W := hI; clear H hI; simp only [putAll, Act.put, List.setIfInBounds_toArray, List.set_cons_zero, List.set_cons_succ, Nat.reduceAdd, q18]; clear q18; obtain ⟨w1, Hw1⟩ : ∃ w1, Hid (W = w1) := ⟨_, Lib.hid rfl⟩; have hb1 : Below W0.heap.size W0 W := hS; rw [Hw1.out] at hb1 ⊢; clear hS; obtain ⟨hc1, hf1⟩ := bcell hb1; have hz1 := hb1.size; rw [HA.out.z0] at hz1 hc1 hf1; have k1 := (hc1 w.heap.size 0 (by omega)).trans HA.out.k1; have k2 := (hc1 w.heap.size 1 (by omega)).trans HA.out.k2; have k3 := (hc1 (w.heap.size + 1) 0 (by omega)).trans HA.out.k3; have k4 := (hc1 (w.heap.size + 1) 1 (by omega)).trans HA.out.k4; have k5 := (hf1 (w.heap.size + 1) 0 (by omega)).trans HA.out.k5; have k6 := (hf1 (w.heap.size + 1) 1 (by omega)).trans HA.out.k6; have hB1 : Below w.heap.size w w1 := HA.out.b0.trans (hb1.mono HA.out.b0.size); clear hc1 hf1
  go_wp2_with fail
  have hbel : ∀ (dn : Nat → Bool) (xv : Nat → Value) (W : World), (if dn 6 = true then Below w.heap.size w W ∧ OwnB W w1.heap.size (xv 4) L ∧ IsCell2 W (w.heap.size + 1) (.int .u64 (base : Int)) (xv 4) else if dn 5 = true then Below w1.heap.size w1 W ∧ OwnB W w1.heap.size (xv 4) L ∧ xv 5 = .agg #[.int .u64 (base : Int), xv 4] else if dn 4 = true then Below w1.heap.size w1 W ∧ OwnB W w1.heap.size (xv 4) L else Below w1.heap.size w1 W) → dn 6 = false → Below w1.heap.size w1 W := fun dn xv W h h0 => by
   rw [if_neg (by simp [h0])] at h; split at h
   ·exact h.1
   split at h
   ·exact h.1
   exact h
  refine wRG (fun dn xv W => if dn 6 = true then Below w.heap.size w W ∧ OwnB W w1.heap.size (xv 4) L ∧ IsCell2 W (w.heap.size + 1) (.int .u64 (base : Int)) (xv 4) else if dn 5 = true then Below w1.heap.size w1 W ∧ OwnB W w1.heap.size (xv 4) L ∧ xv 5 = .agg #[.int .u64 (base : Int), xv 4] else if dn 4 = true then Below w1.heap.size w1 W ∧ OwnB W w1.heap.size (xv 4) L else Below w1.heap.size w1 W) (fun _ _ => True) [xP_ w.heap.size 0, xV_ (.int .u64 (base : Int)), xP_ w.heap.size 1, xV_ (.slice A L.length c), fun v _ => ∃ A2 c2, v = .slice A2 L.length c2, fun v _ => True, fun v _ => True, xV_ (.bool false)] (fun xv => by simpa using (Below.refl _ w1).drew) ?_ ?_
  ·refine Ep 1 2 w.heap.size 0 ?_
   refine EC 2 rfl (fun g h W F a b c d e H K f => ?_) ?_
   ·have f25 := gE (a 25) (by kernel_rfl) (H 0) (by kernel_rfl); have hb0 := hbel g h W e (c 6 uE); have hc0 := (hb0.cell (p := ⟨w.heap.size, 0, none⟩) (show w.heap.size < w1.heap.size by omega)).trans k1; clear hb0; clear H c b d a; refine oP rfl ?_; go_simp; exact f.out _ _ rfl trivial e
   refine Ep 3 2 w.heap.size 0 ?_
   refine EC 4 rfl (fun g h W F a b c d e H K f => ?_) ?_
   ·have f27 := gE (a 27) (by kernel_rfl) (H 2) (by kernel_rfl); have hb0 := hbel g h W e (c 6 uE); have hc0 := (hb0.cell (p := ⟨w.heap.size, 1, none⟩) (show w.heap.size < w1.heap.size by omega)).trans k2; clear hb0; clear H c b d a; refine oP rfl ?_; go_simp; exact f.out _ _ rfl trivial e
   refine EC 5 rfl (fun i k W F a b d f g H K h => ?_) ?_
   ·have f28 := gE (a 28) (by kernel_rfl) (H 3) (by kernel_rfl); have q5 := d 5 uE; have q6 := d 6 (uM 5 uE); rw [if_neg (by simp [q6]), if_neg (by simp [q5]), if_neg (by simp [b])] at g; have hS := g; clear g d b f a H; refine oP rfl ?_; go_simp; refine (copied_any W w.heap.size A c L (H.out.below (hB1.trans (hS.mono hB1.size))) (Nat.le_trans hB1.size hS.size) HF.out).mono ?_; rintro e W' ⟨v, rfl, ho, hb⟩; have hs : Below w1.heap.size w1 W' ∧ OwnB W' w1.heap.size v L := ⟨hS.trans (hb.mono hS.size), ho.mono hS.size⟩; obtain ⟨A2, c2, e2, _⟩ := ho.form HFB.out; exact h.out v W' ⟨A2, c2, e2⟩ trivial (by simpa [upB, upd, q5, q6] using hs)
   refine EC 6 rfl (fun g h W F a b c d e H K f => ?_) ?_
   ·have f26 := gE (a 26) (by kernel_rfl) (H 1) (by kernel_rfl); have f29 : F.tmps.getD 29 undef = h 4 := (a 29).trans (by kernel_rfl); have q4 := (H 4 uE).1; have q6 := c 6 uE; rw [if_neg (by simp [q6]), if_neg (by simp [b]), if_pos q4] at e; have hS := e; clear e c b d a H; refine oP rfl ?_; obtain ⟨A2, c2, e2, _⟩ := hS.2.form HFB.out; have e3 := e2; have f29x := f29.trans e2; have g29 := f29x; have g26 := f26; rw [Array.getD_eq_getD_getElem?] at g29 g26; go_simp; rw [← e3]; have hs : Below w1.heap.size w1 W ∧ OwnB W w1.heap.size (h 4) L ∧ Value.agg #[.int .u64 (base : Int), h 4] = .agg #[.int .u64 (base : Int), h 4] := ⟨hS.1, hS.2, rfl⟩; exact f.out _ _ trivial trivial (by simpa [upB, upd, q6] using hs)
   refine EC 7 rfl (fun g h W F a b c d e H K f => ?_) ?_
   ·have f4 : F.tmps.getD 4 undef = .pointer (some ⟨w.heap.size + 1, 0, none⟩) := (a 4).trans (by kernel_rfl); have f30 : F.tmps.getD 30 undef = h 5 := (a 30).trans (by kernel_rfl); have q5 := (H 5 uE).1; rw [if_neg (by simp [b]), if_pos q5] at e; have hS := e; clear e c b d a H; refine oP rfl ?_; obtain ⟨s1, s2, s3⟩ := hS; obtain ⟨A2, c2, e2, _⟩ := s2.form HFB.out; have f30x := f30.trans s3; rw [e2] at f30x; have hc3 := (s1.cell (p := ⟨w.heap.size + 1, 0, none⟩) (show w.heap.size + 1 < w1.heap.size by omega)).trans k3; have hc4 := (s1.cell (p := ⟨w.heap.size + 1, 1, none⟩) (show w.heap.size + 1 < w1.heap.size by omega)).trans k4; have hf3 := (s1.frozen (p := ⟨w.heap.size + 1, 0, none⟩) (show w.heap.size + 1 < w1.heap.size by omega)).trans k5; have hf4 := (s1.frozen (p := ⟨w.heap.size + 1, 1, none⟩) (show w.heap.size + 1 < w1.heap.size by omega)).trans k6; have hs := set2 hB1 s1 (w.heap.size + 1) (by omega) (by omega) s2 hc3 hc4 (.int .u64 (base : Int)) (h 4); go_simp; rw [← e2]; exact f.out undef _ trivial trivial (by simpa [upB, upd] using hs)
   refine En 8 ?_
   exact EN
  ·intro dn xv W hI H; have q7 : xv 7 = .bool false := (H 7 (of_decide_eq_true (by kernel_rfl))).2; have qe : dn 6 = true := (H 6 (of_decide_eq_true (by kernel_rfl))).1; rw [if_pos qe] at hI; have hS := hI; clear H hI qe; simp only [putAll, Act.put, List.setIfInBounds_toArray, List.set_cons_zero, List.set_cons_succ, Nat.reduceAdd, q7]; clear q7; obtain ⟨s1, s2, s3, s4⟩ := hS; obtain ⟨A2, c2, e2, _⟩ := s2.form HFB.out; go_wp2; refine bodyPost_ret (v := .tuple #[.agg #[.int .u64 (base : Int), xv 4], .bool false]) (by rw [e2] at s4 ⊢; simp [results, Try.results42, go_sem, s3, s4]) rfl ?_; exact ⟨s1, xv 4, by rw [HE.out, (ack_no HE.out).2], by rw [(ack_no HE.out).1]; exact s2.mono hB1.size⟩

set_option maxHeartbeats 1000000 in
theorem acked_c (w : World) (base upto : Nat) (A : Option Addr) (c : Nat) (L : List (List UInt8)) (h : Bx w w.heap.size A L) (hb : base < 18446744073709551616) (hu : upto < 18446744073709551616) (hf : Fit L) (hcc : L.length ≤ c) (hcm : c ≤ maxLen)
  (g1 : wmayB base L = true) (g2 : base < upto) (g3 : min L.length 8 < upto - base) :
  Calls Try.prog 42 #[.agg #[.int .u64 (base : Int), .slice A L.length c], .int .u64 (upto : Int)] w (AckPost w base L upto) := by
 have hL := hf.1; have H := Lib.hid h; have HF := Lib.hid hf; have hmx : L.length ≤ maxLen := by omega
 have HFB := Lib.hid (fun (x : List UInt8) (hx : x ∈ L) => (show x.length ≤ 140737488355328 by have := HF.out.2 x hx; omega)); clear hf; obtain ⟨W0, HW0⟩ : ∃ W0, Hid (W0 = (w.alloc (.cells #[.int .u64 (base : Int), .slice A L.length c] 68)).alloc (.cells #[.int .u64 0, .slice none 0 0] 68)) := ⟨_, Lib.hid rfl⟩; have HA : Hid (Ak w W0 base A c L) := Lib.hid (by rw [HW0.out]; exact Ak.new w base A c L h); obtain ⟨m, Hm⟩ : ∃ m, Hid (min L.length 8 = m) := ⟨_, Lib.hid rfl⟩; have hm8 : m ≤ 8 := by have := Hm.out; omega
 clear h; have HM := Lib.hid g1; rw [Hm.out] at g3; have HE : Hid (ackB base L upto = false) := Lib.hid (by unfold ackB; rw [Hm.out, decide_eq_false (p := upto - base ≤ m) (by omega)]; simp); clear g1; have HD1 : Hid (decide ((upto : Int) ≤ (base : Int)) = false) := Lib.hid (by simp; omega); have HD2 : Hid (decide (upto ≤ base) = false) := Lib.hid (by simp; omega); have i1 : (base : Int) ≤ (upto : Int) := by omega
 have HW5 : Hid (IntKind.u64.wrap ((upto : Int) - (base : Int)) = (upto : Int) - (base : Int)) := Lib.hid (u64_wrap (by omega) (by omega)); have HW6 : Hid (IntKind.u64.wrap (m : Int) = (m : Int)) := Lib.hid (u64_wrap (by omega) (by omega)); have HD3 : Hid (decide ((m : Int) < (upto : Int) - (base : Int)) = true) := Lib.hid (by simp; omega); have HD4 : Hid (decide ((upto : Int) - (base : Int) > (m : Int)) = true) := Lib.hid (by simp; omega); go_enter Try.func42, Try.ntmps42
 go_wp2_with fail
 rw [← HW0.out]; refine wRG (fun dn xv W => Below W0.heap.size W0 W) (fun W W' => Below W.heap.size W W') [xV_ (.agg #[.int .u64 (base : Int), .slice A L.length c]), xV_ (.bool true), xV_ (.bool false), xV_ (.bool false), xV_ (.int .u64 (upto : Int)), xP_ w.heap.size 0, xV_ (.int .u64 (base : Int)), xV_ (.bool false), xV_ (.bool false), xV_ (.bool false), xV_ (.int .u64 (upto : Int)), xP_ w.heap.size 0, xV_ (.int .u64 (base : Int)), xV_ (.int .u64 ((upto : Int) - (base : Int))), xV_ (.agg #[.int .u64 (base : Int), .slice A L.length c]), xV_ (.int .i64 (m : Int)), xV_ (.int .u64 (m : Int)), xV_ (.bool true), xV_ (.bool true)] (fun xv => by simpa using (Below.refl _ W0).drew) ?_ ?_
 ·refine EC 1 rfl (fun g h W F a b c d e H K f => ?_) ?_
  ·have f2 : F.tmps.getD 2 undef = .pointer (some ⟨w.heap.size, 0, none⟩) := (a 2).trans (by kernel_rfl); have hz0 := HA.out.z0; have hc0 := (e.cell (p := ⟨w.heap.size, 0, none⟩) (show w.heap.size < W0.heap.size by omega)).trans HA.out.k1; have hc1 := (e.cell (p := ⟨w.heap.size, 1, none⟩) (show w.heap.size < W0.heap.size by omega)).trans HA.out.k2; clear hz0; clear H c b d a; refine oP rfl ?_; go_simp; exact f.out _ _ rfl (Below.refl _ _) (by simpa [upB, upd] using e)
  refine EC 2 rfl (fun i j W F a b d f g H K h => ?_) ?_
  ·have h0 : j 0 = .agg #[.int .u64 (base : Int), .slice A L.length c] := (H 0 uE).2; have f6 : F.tmps.getD 6 undef = .agg #[.int .u64 (base : Int), .slice A L.length c] := (a 6).trans (Eq.trans (by kernel_rfl) h0); clear H d b f a; refine oP rfl ?_; go_simp; refine (wmay_any W w.heap.size base A c L (HA.out.h0.below (g.mono HA.out.b0.size)) (Nat.le_trans HA.out.b0.size g.size) hb hmx).mono ?_; rintro e W' ⟨rfl, hb⟩; rw [HM.out]; exact h.out _ W' rfl hb (by simpa [upB, upd] using (g.trans (hb.mono g.size)))
  refine EC 3 rfl (fun g h W F a b c d e H K f => ?_) ?_
  ·have f7 := gE (a 7) (by kernel_rfl) (H 1) (by kernel_rfl); clear H c b d a; refine oP rfl ?_; go_simp; exact f.out _ _ rfl (Below.refl _ _) (by simpa [upB, upd] using e)
  refine EC 4 rfl (fun g h W F a b c d e H K f => ?_) ?_
  ·have f8 := gE (a 8) (by kernel_rfl) (H 2) (by kernel_rfl); clear H c b d a; refine oP rfl ?_; go_simp; exact f.out _ _ rfl (Below.refl _ _) (by simpa [upB, upd] using e)
  refine EC 5 rfl (fun g h W F a b c d e H K f => ?_) ?_
  ·have f1 : F.tmps.getD 1 undef = .int .u64 (upto : Int) := (a 1).trans (by kernel_rfl); have f9 := gE (a 9) (by kernel_rfl) (H 3) (by kernel_rfl); clear H c b d a; refine oG rfl (by kernel_rfl) f9 ?_; go_simp; exact f.out _ _ rfl (Below.refl _ _) (by simpa [upB, upd] using e)
  refine EC 6 rfl (fun g h W F a b c d e H K f => ?_) ?_
  ·have f2 : F.tmps.getD 2 undef = .pointer (some ⟨w.heap.size, 0, none⟩) := (a 2).trans (by kernel_rfl); have f9 := gE (a 9) (by kernel_rfl) (H 3) (by kernel_rfl); clear H c b d a; refine oG rfl (by kernel_rfl) f9 ?_; go_simp; exact f.out _ _ rfl (Below.refl _ _) (by simpa [upB, upd] using e)
  refine EC 7 rfl (fun g h W F a b c d e H K f => ?_) ?_
  ·have f11 := gE (a 11) (by kernel_rfl) (H 5) (by kernel_rfl); have f9 := gE (a 9) (by kernel_rfl) (H 3) (by kernel_rfl); have hz0 := HA.out.z0; have hc0 := (e.cell (p := ⟨w.heap.size, 0, none⟩) (show w.heap.size < W0.heap.size by omega)).trans HA.out.k1; have hc1 := (e.cell (p := ⟨w.heap.size, 1, none⟩) (show w.heap.size < W0.heap.size by omega)).trans HA.out.k2; clear hz0; clear H c b d a; refine oG rfl (by kernel_rfl) f9 ?_; go_simp; exact f.out _ _ rfl (Below.refl _ _) (by simpa [upB, upd] using e)
  refine EC 8 rfl (fun g h W F a b c d e H K f => ?_) ?_
  ·have f10 := gE (a 10) (by kernel_rfl) (H 4) (by kernel_rfl); have f12 := gE (a 12) (by kernel_rfl) (H 6) (by kernel_rfl); have f9 := gE (a 9) (by kernel_rfl) (H 3) (by kernel_rfl); clear H c b d a; refine oG rfl (by kernel_rfl) f9 ?_; have d1 := HD1.out; have d2 := HD2.out; go_simp; exact f.out _ _ rfl (Below.refl _ _) (by simpa [upB, upd] using e)
  refine EC 9 rfl (fun g h W F a b c d e H K f => ?_) ?_
  ·have f9 := gE (a 9) (by kernel_rfl) (H 3) (by kernel_rfl); have f13 := gE (a 13) (by kernel_rfl) (H 7) (by kernel_rfl); clear H c b d a; refine oP rfl ?_; go_simp; exact f.out _ _ rfl (Below.refl _ _) (by simpa [upB, upd] using e)
  refine EC 10 rfl (fun g h W F a b c d e H K f => ?_) ?_
  ·have f14 := gE (a 14) (by kernel_rfl) (H 8) (by kernel_rfl); clear H c b d a; refine oP rfl ?_; go_simp; exact f.out _ _ rfl (Below.refl _ _) (by simpa [upB, upd] using e)
  refine EC 11 rfl (fun g h W F a b c d e H K f => ?_) ?_
  ·have f1 : F.tmps.getD 1 undef = .int .u64 (upto : Int) := (a 1).trans (by kernel_rfl); have f15 := gE (a 15) (by kernel_rfl) (H 9) (by kernel_rfl); clear H c b d a; refine oG rfl (by kernel_rfl) f15 ?_; go_simp; exact f.out _ _ rfl (Below.refl _ _) (by simpa [upB, upd] using e)
  refine EC 12 rfl (fun g h W F a b c d e H K f => ?_) ?_
  ·have f2 : F.tmps.getD 2 undef = .pointer (some ⟨w.heap.size, 0, none⟩) := (a 2).trans (by kernel_rfl); have f15 := gE (a 15) (by kernel_rfl) (H 9) (by kernel_rfl); clear H c b d a; refine oG rfl (by kernel_rfl) f15 ?_; go_simp; exact f.out _ _ rfl (Below.refl _ _) (by simpa [upB, upd] using e)
  refine EC 13 rfl (fun g h W F a b c d e H K f => ?_) ?_
  ·have f17 := gE (a 17) (by kernel_rfl) (H 11) (by kernel_rfl); have f15 := gE (a 15) (by kernel_rfl) (H 9) (by kernel_rfl); have hz0 := HA.out.z0; have hc0 := (e.cell (p := ⟨w.heap.size, 0, none⟩) (show w.heap.size < W0.heap.size by omega)).trans HA.out.k1; have hc1 := (e.cell (p := ⟨w.heap.size, 1, none⟩) (show w.heap.size < W0.heap.size by omega)).trans HA.out.k2; clear hz0; clear H c b d a; refine oG rfl (by kernel_rfl) f15 ?_; go_simp; exact f.out _ _ rfl (Below.refl _ _) (by simpa [upB, upd] using e)
  refine EC 14 rfl (fun g h W F a b c d e H K f => ?_) ?_
  ·have f16 := gE (a 16) (by kernel_rfl) (H 10) (by kernel_rfl); have f18 := gE (a 18) (by kernel_rfl) (H 12) (by kernel_rfl); have f15 := gE (a 15) (by kernel_rfl) (H 9) (by kernel_rfl); clear H c b d a; refine oG rfl (by kernel_rfl) f15 ?_; have d5 := HW5.out; go_simp; exact f.out _ _ rfl (Below.refl _ _) (by simpa [upB, upd] using e)
  refine EC 15 rfl (fun g h W F a b c d e H K f => ?_) ?_
  ·have f2 : F.tmps.getD 2 undef = .pointer (some ⟨w.heap.size, 0, none⟩) := (a 2).trans (by kernel_rfl); have f15 := gE (a 15) (by kernel_rfl) (H 9) (by kernel_rfl); have hz0 := HA.out.z0; have hc0 := (e.cell (p := ⟨w.heap.size, 0, none⟩) (show w.heap.size < W0.heap.size by omega)).trans HA.out.k1; have hc1 := (e.cell (p := ⟨w.heap.size, 1, none⟩) (show w.heap.size < W0.heap.size by omega)).trans HA.out.k2; clear hz0; clear H c b d a; refine oG rfl (by kernel_rfl) f15 ?_; go_simp; exact f.out _ _ rfl (Below.refl _ _) (by simpa [upB, upd] using e)
  refine EC 16 rfl (fun i j W F a b d f g H K h => ?_) ?_
  ·have f20 := gE (a 20) (by kernel_rfl) (H 14) (by kernel_rfl); have f15 := gE (a 15) (by kernel_rfl) (H 9) (by kernel_rfl); clear H d b f a; refine oG rfl (by kernel_rfl) f15 ?_; go_simp; refine (dueP_any W (base : Int) A L.length c hmx).mono ?_; rintro e W' ⟨rfl, hb⟩; rw [Hm.out]; exact h.out _ W' rfl hb (by simpa [upB, upd] using (g.trans (hb.mono g.size)))
  refine EC 17 rfl (fun g h W F a b c d e H K f => ?_) ?_
  ·have f21 := gE (a 21) (by kernel_rfl) (H 15) (by kernel_rfl); have f15 := gE (a 15) (by kernel_rfl) (H 9) (by kernel_rfl); clear H c b d a; refine oG rfl (by kernel_rfl) f15 ?_; have d6 := HW6.out; go_simp; exact f.out _ _ rfl (Below.refl _ _) (by simpa [upB, upd] using e)
  refine EC 18 rfl (fun g h W F a b c d e H K f => ?_) ?_
  ·have f19 := gE (a 19) (by kernel_rfl) (H 13) (by kernel_rfl); have f22 := gE (a 22) (by kernel_rfl) (H 16) (by kernel_rfl); have f15 := gE (a 15) (by kernel_rfl) (H 9) (by kernel_rfl); clear H c b d a; refine oG rfl (by kernel_rfl) f15 ?_; have d3 := HD3.out; have d4 := HD4.out; go_simp; exact f.out _ _ rfl (Below.refl _ _) (by simpa [upB, upd] using e)
  refine EC 19 rfl (fun g h W F a b c d e H K f => ?_) ?_
  ·have f15 := gE (a 15) (by kernel_rfl) (H 9) (by kernel_rfl); have f23 := gE (a 23) (by kernel_rfl) (H 17) (by kernel_rfl); clear H c b d a; refine oP rfl ?_; go_simp; exact f.out _ _ rfl (Below.refl _ _) (by simpa [upB, upd] using e)
  exact EN
 ·intro dn xv W hI H; have q18 : xv 18 = .bool true := (H 18 (of_decide_eq_true (by kernel_rfl))).2; have hS : Below W0.heap.size W0 W := hI; clear H hI; simp only [putAll, Act.put, List.setIfInBounds_toArray, List.set_cons_zero, List.set_cons_succ, Nat.reduceAdd, q18]; clear q18; obtain ⟨w1, Hw1⟩ : ∃ w1, Hid (W = w1) := ⟨_, Lib.hid rfl⟩; have hb1 : Below W0.heap.size W0 W := hS; rw [Hw1.out] at hb1 ⊢; clear hS; obtain ⟨hc1, hf1⟩ := bcell hb1; have hz1 := hb1.size; rw [HA.out.z0] at hz1 hc1 hf1; have k1 := (hc1 w.heap.size 0 (by omega)).trans HA.out.k1; have k2 := (hc1 w.heap.size 1 (by omega)).trans HA.out.k2; have k3 := (hc1 (w.heap.size + 1) 0 (by omega)).trans HA.out.k3; have k4 := (hc1 (w.heap.size + 1) 1 (by omega)).trans HA.out.k4; have k5 := (hf1 (w.heap.size + 1) 0 (by omega)).trans HA.out.k5; have k6 := (hf1 (w.heap.size + 1) 1 (by omega)).trans HA.out.k6; have hB1 : Below w.heap.size w w1 := HA.out.b0.trans (hb1.mono HA.out.b0.size); clear hc1 hf1
  go_wp2_with fail
  have hbel : ∀ (dn : Nat → Bool) (xv : Nat → Value) (W : World), (if dn 6 = true then Below w.heap.size w W ∧ OwnB W w1.heap.size (xv 4) L ∧ IsCell2 W (w.heap.size + 1) (.int .u64 (base : Int)) (xv 4) else if dn 5 = true then Below w1.heap.size w1 W ∧ OwnB W w1.heap.size (xv 4) L ∧ xv 5 = .agg #[.int .u64 (base : Int), xv 4] else if dn 4 = true then Below w1.heap.size w1 W ∧ OwnB W w1.heap.size (xv 4) L else Below w1.heap.size w1 W) → dn 6 = false → Below w1.heap.size w1 W := fun dn xv W h h0 => by
   rw [if_neg (by simp [h0])] at h; split at h
   ·exact h.1
   split at h
   ·exact h.1
   exact h
  refine wRG (fun dn xv W => if dn 6 = true then Below w.heap.size w W ∧ OwnB W w1.heap.size (xv 4) L ∧ IsCell2 W (w.heap.size + 1) (.int .u64 (base : Int)) (xv 4) else if dn 5 = true then Below w1.heap.size w1 W ∧ OwnB W w1.heap.size (xv 4) L ∧ xv 5 = .agg #[.int .u64 (base : Int), xv 4] else if dn 4 = true then Below w1.heap.size w1 W ∧ OwnB W w1.heap.size (xv 4) L else Below w1.heap.size w1 W) (fun _ _ => True) [xP_ w.heap.size 0, xV_ (.int .u64 (base : Int)), xP_ w.heap.size 1, xV_ (.slice A L.length c), fun v _ => ∃ A2 c2, v = .slice A2 L.length c2, fun v _ => True, fun v _ => True, xV_ (.bool false)] (fun xv => by simpa using (Below.refl _ w1).drew) ?_ ?_
  ·refine Ep 1 2 w.heap.size 0 ?_
   refine EC 2 rfl (fun g h W F a b c d e H K f => ?_) ?_
   ·have f25 := gE (a 25) (by kernel_rfl) (H 0) (by kernel_rfl); have hb0 := hbel g h W e (c 6 uE); have hc0 := (hb0.cell (p := ⟨w.heap.size, 0, none⟩) (show w.heap.size < w1.heap.size by omega)).trans k1; clear hb0; clear H c b d a; refine oP rfl ?_; go_simp; exact f.out _ _ rfl trivial e
   refine Ep 3 2 w.heap.size 0 ?_
   refine EC 4 rfl (fun g h W F a b c d e H K f => ?_) ?_
   ·have f27 := gE (a 27) (by kernel_rfl) (H 2) (by kernel_rfl); have hb0 := hbel g h W e (c 6 uE); have hc0 := (hb0.cell (p := ⟨w.heap.size, 1, none⟩) (show w.heap.size < w1.heap.size by omega)).trans k2; clear hb0; clear H c b d a; refine oP rfl ?_; go_simp; exact f.out _ _ rfl trivial e
   refine EC 5 rfl (fun i k W F a b d f g H K h => ?_) ?_
   ·have f28 := gE (a 28) (by kernel_rfl) (H 3) (by kernel_rfl); have q5 := d 5 uE; have q6 := d 6 (uM 5 uE); rw [if_neg (by simp [q6]), if_neg (by simp [q5]), if_neg (by simp [b])] at g; have hS := g; clear g d b f a H; refine oP rfl ?_; go_simp; refine (copied_any W w.heap.size A c L (H.out.below (hB1.trans (hS.mono hB1.size))) (Nat.le_trans hB1.size hS.size) HF.out).mono ?_; rintro e W' ⟨v, rfl, ho, hb⟩; have hs : Below w1.heap.size w1 W' ∧ OwnB W' w1.heap.size v L := ⟨hS.trans (hb.mono hS.size), ho.mono hS.size⟩; obtain ⟨A2, c2, e2, _⟩ := ho.form HFB.out; exact h.out v W' ⟨A2, c2, e2⟩ trivial (by simpa [upB, upd, q5, q6] using hs)
   refine EC 6 rfl (fun g h W F a b c d e H K f => ?_) ?_
   ·have f26 := gE (a 26) (by kernel_rfl) (H 1) (by kernel_rfl); have f29 : F.tmps.getD 29 undef = h 4 := (a 29).trans (by kernel_rfl); have q4 := (H 4 uE).1; have q6 := c 6 uE; rw [if_neg (by simp [q6]), if_neg (by simp [b]), if_pos q4] at e; have hS := e; clear e c b d a H; refine oP rfl ?_; obtain ⟨A2, c2, e2, _⟩ := hS.2.form HFB.out; have e3 := e2; have f29x := f29.trans e2; have g29 := f29x; have g26 := f26; rw [Array.getD_eq_getD_getElem?] at g29 g26; go_simp; rw [← e3]; have hs : Below w1.heap.size w1 W ∧ OwnB W w1.heap.size (h 4) L ∧ Value.agg #[.int .u64 (base : Int), h 4] = .agg #[.int .u64 (base : Int), h 4] := ⟨hS.1, hS.2, rfl⟩; exact f.out _ _ trivial trivial (by simpa [upB, upd, q6] using hs)
   refine EC 7 rfl (fun g h W F a b c d e H K f => ?_) ?_
   ·have f4 : F.tmps.getD 4 undef = .pointer (some ⟨w.heap.size + 1, 0, none⟩) := (a 4).trans (by kernel_rfl); have f30 : F.tmps.getD 30 undef = h 5 := (a 30).trans (by kernel_rfl); have q5 := (H 5 uE).1; rw [if_neg (by simp [b]), if_pos q5] at e; have hS := e; clear e c b d a H; refine oP rfl ?_; obtain ⟨s1, s2, s3⟩ := hS; obtain ⟨A2, c2, e2, _⟩ := s2.form HFB.out; have f30x := f30.trans s3; rw [e2] at f30x; have hc3 := (s1.cell (p := ⟨w.heap.size + 1, 0, none⟩) (show w.heap.size + 1 < w1.heap.size by omega)).trans k3; have hc4 := (s1.cell (p := ⟨w.heap.size + 1, 1, none⟩) (show w.heap.size + 1 < w1.heap.size by omega)).trans k4; have hf3 := (s1.frozen (p := ⟨w.heap.size + 1, 0, none⟩) (show w.heap.size + 1 < w1.heap.size by omega)).trans k5; have hf4 := (s1.frozen (p := ⟨w.heap.size + 1, 1, none⟩) (show w.heap.size + 1 < w1.heap.size by omega)).trans k6; have hs := set2 hB1 s1 (w.heap.size + 1) (by omega) (by omega) s2 hc3 hc4 (.int .u64 (base : Int)) (h 4); go_simp; rw [← e2]; exact f.out undef _ trivial trivial (by simpa [upB, upd] using hs)
   refine En 8 ?_
   exact EN
  ·intro dn xv W hI H; have q7 : xv 7 = .bool false := (H 7 (of_decide_eq_true (by kernel_rfl))).2; have qe : dn 6 = true := (H 6 (of_decide_eq_true (by kernel_rfl))).1; rw [if_pos qe] at hI; have hS := hI; clear H hI qe; simp only [putAll, Act.put, List.setIfInBounds_toArray, List.set_cons_zero, List.set_cons_succ, Nat.reduceAdd, q7]; clear q7; obtain ⟨s1, s2, s3, s4⟩ := hS; obtain ⟨A2, c2, e2, _⟩ := s2.form HFB.out; go_wp2; refine bodyPost_ret (v := .tuple #[.agg #[.int .u64 (base : Int), xv 4], .bool false]) (by rw [e2] at s4 ⊢; simp [results, Try.results42, go_sem, s3, s4]) rfl ?_; exact ⟨s1, xv 4, by rw [HE.out, (ack_no HE.out).2], by rw [(ack_no HE.out).1]; exact s2.mono hB1.size⟩

set_option maxHeartbeats 1000000 in
theorem acked_d (w : World) (base upto : Nat) (A : Option Addr) (c : Nat) (L : List (List UInt8)) (h : Bx w w.heap.size A L) (hb : base < 18446744073709551616) (hu : upto < 18446744073709551616) (hf : Fit L) (hcc : L.length ≤ c) (hcm : c ≤ maxLen)
  (g1 : wmayB base L = true) (g2 : base < upto) (g3 : upto - base ≤ min L.length 8) :
  Calls Try.prog 42 #[.agg #[.int .u64 (base : Int), .slice A L.length c], .int .u64 (upto : Int)] w (AckPost w base L upto) := by
 have hL := hf.1; have H := Lib.hid h; have HF := Lib.hid hf; have hmx : L.length ≤ maxLen := by omega
 have HFB := Lib.hid (fun (x : List UInt8) (hx : x ∈ L) => (show x.length ≤ 140737488355328 by have := HF.out.2 x hx; omega)); clear hf; obtain ⟨W0, HW0⟩ : ∃ W0, Hid (W0 = (w.alloc (.cells #[.int .u64 (base : Int), .slice A L.length c] 68)).alloc (.cells #[.int .u64 0, .slice none 0 0] 68)) := ⟨_, Lib.hid rfl⟩; have HA : Hid (Ak w W0 base A c L) := Lib.hid (by rw [HW0.out]; exact Ak.new w base A c L h); obtain ⟨m, Hm⟩ : ∃ m, Hid (min L.length 8 = m) := ⟨_, Lib.hid rfl⟩; have hm8 : m ≤ 8 := by have := Hm.out; omega
 clear h; have HM := Lib.hid g1; have g4 : upto - base ≤ L.length := by omega
 have HE : Hid (ackB base L upto = true) := Lib.hid (by unfold ackB; rw [g1, decide_eq_true g2, decide_eq_true g3]; rfl); rw [Hm.out] at g3; clear g1; have HD1 : Hid (decide ((upto : Int) ≤ (base : Int)) = false) := Lib.hid (by simp; omega); have HD2 : Hid (decide (upto ≤ base) = false) := Lib.hid (by simp; omega); have i1 : (base : Int) ≤ (upto : Int) := by omega
 have HW5 : Hid (IntKind.u64.wrap ((upto : Int) - (base : Int)) = (upto : Int) - (base : Int)) := Lib.hid (u64_wrap (by omega) (by omega)); have HW6 : Hid (IntKind.u64.wrap (m : Int) = (m : Int)) := Lib.hid (u64_wrap (by omega) (by omega)); have HD3 : Hid (decide ((m : Int) < (upto : Int) - (base : Int)) = false) := Lib.hid (by simp; omega); have HD4 : Hid (decide ((upto : Int) - (base : Int) > (m : Int)) = false) := Lib.hid (by simp; omega); go_enter Try.func42, Try.ntmps42
 go_wp2_with fail
 rw [← HW0.out]; refine wRG (fun dn xv W => Below W0.heap.size W0 W) (fun W W' => Below W.heap.size W W') [xV_ (.agg #[.int .u64 (base : Int), .slice A L.length c]), xV_ (.bool true), xV_ (.bool false), xV_ (.bool false), xV_ (.int .u64 (upto : Int)), xP_ w.heap.size 0, xV_ (.int .u64 (base : Int)), xV_ (.bool false), xV_ (.bool false), xV_ (.bool false), xV_ (.int .u64 (upto : Int)), xP_ w.heap.size 0, xV_ (.int .u64 (base : Int)), xV_ (.int .u64 ((upto : Int) - (base : Int))), xV_ (.agg #[.int .u64 (base : Int), .slice A L.length c]), xV_ (.int .i64 (m : Int)), xV_ (.int .u64 (m : Int)), xV_ (.bool false), xV_ (.bool false)] (fun xv => by simpa using (Below.refl _ W0).drew) ?_ ?_
 ·refine EC 1 rfl (fun g h W F a b c d e H K f => ?_) ?_
  ·have f2 : F.tmps.getD 2 undef = .pointer (some ⟨w.heap.size, 0, none⟩) := (a 2).trans (by kernel_rfl); have hz0 := HA.out.z0; have hc0 := (e.cell (p := ⟨w.heap.size, 0, none⟩) (show w.heap.size < W0.heap.size by omega)).trans HA.out.k1; have hc1 := (e.cell (p := ⟨w.heap.size, 1, none⟩) (show w.heap.size < W0.heap.size by omega)).trans HA.out.k2; clear hz0; clear H c b d a; refine oP rfl ?_; go_simp; exact f.out _ _ rfl (Below.refl _ _) (by simpa [upB, upd] using e)
  refine EC 2 rfl (fun i j W F a b d f g H K h => ?_) ?_
  ·have h0 : j 0 = .agg #[.int .u64 (base : Int), .slice A L.length c] := (H 0 uE).2; have f6 : F.tmps.getD 6 undef = .agg #[.int .u64 (base : Int), .slice A L.length c] := (a 6).trans (Eq.trans (by kernel_rfl) h0); clear H d b f a; refine oP rfl ?_; go_simp; refine (wmay_any W w.heap.size base A c L (HA.out.h0.below (g.mono HA.out.b0.size)) (Nat.le_trans HA.out.b0.size g.size) hb hmx).mono ?_; rintro e W' ⟨rfl, hb⟩; rw [HM.out]; exact h.out _ W' rfl hb (by simpa [upB, upd] using (g.trans (hb.mono g.size)))
  refine EC 3 rfl (fun g h W F a b c d e H K f => ?_) ?_
  ·have f7 := gE (a 7) (by kernel_rfl) (H 1) (by kernel_rfl); clear H c b d a; refine oP rfl ?_; go_simp; exact f.out _ _ rfl (Below.refl _ _) (by simpa [upB, upd] using e)
  refine EC 4 rfl (fun g h W F a b c d e H K f => ?_) ?_
  ·have f8 := gE (a 8) (by kernel_rfl) (H 2) (by kernel_rfl); clear H c b d a; refine oP rfl ?_; go_simp; exact f.out _ _ rfl (Below.refl _ _) (by simpa [upB, upd] using e)
  refine EC 5 rfl (fun g h W F a b c d e H K f => ?_) ?_
  ·have f1 : F.tmps.getD 1 undef = .int .u64 (upto : Int) := (a 1).trans (by kernel_rfl); have f9 := gE (a 9) (by kernel_rfl) (H 3) (by kernel_rfl); clear H c b d a; refine oG rfl (by kernel_rfl) f9 ?_; go_simp; exact f.out _ _ rfl (Below.refl _ _) (by simpa [upB, upd] using e)
  refine EC 6 rfl (fun g h W F a b c d e H K f => ?_) ?_
  ·have f2 : F.tmps.getD 2 undef = .pointer (some ⟨w.heap.size, 0, none⟩) := (a 2).trans (by kernel_rfl); have f9 := gE (a 9) (by kernel_rfl) (H 3) (by kernel_rfl); clear H c b d a; refine oG rfl (by kernel_rfl) f9 ?_; go_simp; exact f.out _ _ rfl (Below.refl _ _) (by simpa [upB, upd] using e)
  refine EC 7 rfl (fun g h W F a b c d e H K f => ?_) ?_
  ·have f11 := gE (a 11) (by kernel_rfl) (H 5) (by kernel_rfl); have f9 := gE (a 9) (by kernel_rfl) (H 3) (by kernel_rfl); have hz0 := HA.out.z0; have hc0 := (e.cell (p := ⟨w.heap.size, 0, none⟩) (show w.heap.size < W0.heap.size by omega)).trans HA.out.k1; have hc1 := (e.cell (p := ⟨w.heap.size, 1, none⟩) (show w.heap.size < W0.heap.size by omega)).trans HA.out.k2; clear hz0; clear H c b d a; refine oG rfl (by kernel_rfl) f9 ?_; go_simp; exact f.out _ _ rfl (Below.refl _ _) (by simpa [upB, upd] using e)
  refine EC 8 rfl (fun g h W F a b c d e H K f => ?_) ?_
  ·have f10 := gE (a 10) (by kernel_rfl) (H 4) (by kernel_rfl); have f12 := gE (a 12) (by kernel_rfl) (H 6) (by kernel_rfl); have f9 := gE (a 9) (by kernel_rfl) (H 3) (by kernel_rfl); clear H c b d a; refine oG rfl (by kernel_rfl) f9 ?_; have d1 := HD1.out; have d2 := HD2.out; go_simp; exact f.out _ _ rfl (Below.refl _ _) (by simpa [upB, upd] using e)
  refine EC 9 rfl (fun g h W F a b c d e H K f => ?_) ?_
  ·have f9 := gE (a 9) (by kernel_rfl) (H 3) (by kernel_rfl); have f13 := gE (a 13) (by kernel_rfl) (H 7) (by kernel_rfl); clear H c b d a; refine oP rfl ?_; go_simp; exact f.out _ _ rfl (Below.refl _ _) (by simpa [upB, upd] using e)
  refine EC 10 rfl (fun g h W F a b c d e H K f => ?_) ?_
  ·have f14 := gE (a 14) (by kernel_rfl) (H 8) (by kernel_rfl); clear H c b d a; refine oP rfl ?_; go_simp; exact f.out _ _ rfl (Below.refl _ _) (by simpa [upB, upd] using e)
  refine EC 11 rfl (fun g h W F a b c d e H K f => ?_) ?_
  ·have f1 : F.tmps.getD 1 undef = .int .u64 (upto : Int) := (a 1).trans (by kernel_rfl); have f15 := gE (a 15) (by kernel_rfl) (H 9) (by kernel_rfl); clear H c b d a; refine oG rfl (by kernel_rfl) f15 ?_; go_simp; exact f.out _ _ rfl (Below.refl _ _) (by simpa [upB, upd] using e)
  refine EC 12 rfl (fun g h W F a b c d e H K f => ?_) ?_
  ·have f2 : F.tmps.getD 2 undef = .pointer (some ⟨w.heap.size, 0, none⟩) := (a 2).trans (by kernel_rfl); have f15 := gE (a 15) (by kernel_rfl) (H 9) (by kernel_rfl); clear H c b d a; refine oG rfl (by kernel_rfl) f15 ?_; go_simp; exact f.out _ _ rfl (Below.refl _ _) (by simpa [upB, upd] using e)
  refine EC 13 rfl (fun g h W F a b c d e H K f => ?_) ?_
  ·have f17 := gE (a 17) (by kernel_rfl) (H 11) (by kernel_rfl); have f15 := gE (a 15) (by kernel_rfl) (H 9) (by kernel_rfl); have hz0 := HA.out.z0; have hc0 := (e.cell (p := ⟨w.heap.size, 0, none⟩) (show w.heap.size < W0.heap.size by omega)).trans HA.out.k1; have hc1 := (e.cell (p := ⟨w.heap.size, 1, none⟩) (show w.heap.size < W0.heap.size by omega)).trans HA.out.k2; clear hz0; clear H c b d a; refine oG rfl (by kernel_rfl) f15 ?_; go_simp; exact f.out _ _ rfl (Below.refl _ _) (by simpa [upB, upd] using e)
  refine EC 14 rfl (fun g h W F a b c d e H K f => ?_) ?_
  ·have f16 := gE (a 16) (by kernel_rfl) (H 10) (by kernel_rfl); have f18 := gE (a 18) (by kernel_rfl) (H 12) (by kernel_rfl); have f15 := gE (a 15) (by kernel_rfl) (H 9) (by kernel_rfl); clear H c b d a; refine oG rfl (by kernel_rfl) f15 ?_; have d5 := HW5.out; go_simp; exact f.out _ _ rfl (Below.refl _ _) (by simpa [upB, upd] using e)
  refine EC 15 rfl (fun g h W F a b c d e H K f => ?_) ?_
  ·have f2 : F.tmps.getD 2 undef = .pointer (some ⟨w.heap.size, 0, none⟩) := (a 2).trans (by kernel_rfl); have f15 := gE (a 15) (by kernel_rfl) (H 9) (by kernel_rfl); have hz0 := HA.out.z0; have hc0 := (e.cell (p := ⟨w.heap.size, 0, none⟩) (show w.heap.size < W0.heap.size by omega)).trans HA.out.k1; have hc1 := (e.cell (p := ⟨w.heap.size, 1, none⟩) (show w.heap.size < W0.heap.size by omega)).trans HA.out.k2; clear hz0; clear H c b d a; refine oG rfl (by kernel_rfl) f15 ?_; go_simp; exact f.out _ _ rfl (Below.refl _ _) (by simpa [upB, upd] using e)
  refine EC 16 rfl (fun i j W F a b d f g H K h => ?_) ?_
  ·have f20 := gE (a 20) (by kernel_rfl) (H 14) (by kernel_rfl); have f15 := gE (a 15) (by kernel_rfl) (H 9) (by kernel_rfl); clear H d b f a; refine oG rfl (by kernel_rfl) f15 ?_; go_simp; refine (dueP_any W (base : Int) A L.length c hmx).mono ?_; rintro e W' ⟨rfl, hb⟩; rw [Hm.out]; exact h.out _ W' rfl hb (by simpa [upB, upd] using (g.trans (hb.mono g.size)))
  refine EC 17 rfl (fun g h W F a b c d e H K f => ?_) ?_
  ·have f21 := gE (a 21) (by kernel_rfl) (H 15) (by kernel_rfl); have f15 := gE (a 15) (by kernel_rfl) (H 9) (by kernel_rfl); clear H c b d a; refine oG rfl (by kernel_rfl) f15 ?_; have d6 := HW6.out; go_simp; exact f.out _ _ rfl (Below.refl _ _) (by simpa [upB, upd] using e)
  refine EC 18 rfl (fun g h W F a b c d e H K f => ?_) ?_
  ·have f19 := gE (a 19) (by kernel_rfl) (H 13) (by kernel_rfl); have f22 := gE (a 22) (by kernel_rfl) (H 16) (by kernel_rfl); have f15 := gE (a 15) (by kernel_rfl) (H 9) (by kernel_rfl); clear H c b d a; refine oG rfl (by kernel_rfl) f15 ?_; have d3 := HD3.out; have d4 := HD4.out; go_simp; exact f.out _ _ rfl (Below.refl _ _) (by simpa [upB, upd] using e)
  refine EC 19 rfl (fun g h W F a b c d e H K f => ?_) ?_
  ·have f15 := gE (a 15) (by kernel_rfl) (H 9) (by kernel_rfl); have f23 := gE (a 23) (by kernel_rfl) (H 17) (by kernel_rfl); clear H c b d a; refine oP rfl ?_; go_simp; exact f.out _ _ rfl (Below.refl _ _) (by simpa [upB, upd] using e)
  exact EN
 ·intro dn xv W hI H; have q18 : xv 18 = .bool false := (H 18 (of_decide_eq_true (by kernel_rfl))).2; have hS : Below W0.heap.size W0 W := hI; clear H hI; simp only [putAll, Act.put, List.setIfInBounds_toArray, List.set_cons_zero, List.set_cons_succ, Nat.reduceAdd, q18]; clear q18; obtain ⟨w1, Hw1⟩ : ∃ w1, Hid (W = w1) := ⟨_, Lib.hid rfl⟩; have hb1 : Below W0.heap.size W0 W := hS; rw [Hw1.out] at hb1 ⊢; clear hS; obtain ⟨hc1, hf1⟩ := bcell hb1; have hz1 := hb1.size; rw [HA.out.z0] at hz1 hc1 hf1; have k1 := (hc1 w.heap.size 0 (by omega)).trans HA.out.k1; have k2 := (hc1 w.heap.size 1 (by omega)).trans HA.out.k2; have k3 := (hc1 (w.heap.size + 1) 0 (by omega)).trans HA.out.k3; have k4 := (hc1 (w.heap.size + 1) 1 (by omega)).trans HA.out.k4; have k5 := (hf1 (w.heap.size + 1) 0 (by omega)).trans HA.out.k5; have k6 := (hf1 (w.heap.size + 1) 1 (by omega)).trans HA.out.k6; have hB1 : Below w.heap.size w w1 := HA.out.b0.trans (hb1.mono HA.out.b0.size); clear hc1 hf1; obtain ⟨A', HA'⟩ : ∃ A', Hid ((if c = upto - base then A else A.map (·.add ((upto - base) * 1))) = A') := ⟨_, Lib.hid rfl⟩; have hsl := run_fromB A L.length c .u64 ((upto : Int) - (base : Int)) (upto - base) (by omega) (by omega) hcc; rw [HA'.out] at hsl; have HX := Lib.hid (H.out.drop (upto - base) c hcc); rw [HA'.out] at HX; obtain ⟨L2, HL2⟩ : ∃ L2, Hid (L.drop (upto - base) = L2) := ⟨_, Lib.hid rfl⟩; have hL2 : L2.length = L.length - (upto - base) := by rw [← HL2.out]; simp
  rw [← hL2] at hsl; have HF2 : Hid (Fit L2) := Lib.hid (by rw [← HL2.out]; exact HF.out.drop _); have HFB2 := Lib.hid (fun (x : List UInt8) (hx : x ∈ L2) => (show x.length ≤ 140737488355328 by have := HF2.out.2 x hx; omega)); rw [HL2.out] at HX; have HLL := Lib.hid hL2; clear hL2
  go_wp2_with fail
  refine (copied_any w1 w.heap.size A' _ L2 (HX.out.below hB1) hB1.size HF2.out).mono ?_; rintro e w2 ⟨v, rfl, ho, hb2⟩; obtain ⟨A2, c2, rfl, _⟩ := ho.form HFB2.out; have hc3 := (hb2.cell (p := ⟨w.heap.size + 1, 0, none⟩) (show w.heap.size + 1 < w1.heap.size by omega)).trans k3; have hc4 := (hb2.cell (p := ⟨w.heap.size + 1, 1, none⟩) (show w.heap.size + 1 < w1.heap.size by omega)).trans k4; have hf3 := (hb2.frozen (p := ⟨w.heap.size + 1, 0, none⟩) (show w.heap.size + 1 < w1.heap.size by omega)).trans k5; have hf4 := (hb2.frozen (p := ⟨w.heap.size + 1, 1, none⟩) (show w.heap.size + 1 < w1.heap.size by omega)).trans k6; obtain ⟨s1, s2, s3, s4⟩ := set2 hB1 hb2 (w.heap.size + 1) (by omega) (by omega) ho hc3 hc4 (.int .u64 (upto : Int)) (.slice A2 L2.length c2); have HS1 := Lib.hid s1; have HS2 := Lib.hid s2; have HS3 := Lib.hid s3; have HS4 := Lib.hid s4; clear s1 s2 s3 s4 ho; go_wp2; refine bodyPost_ret (v := .tuple #[.agg #[.int .u64 (upto : Int), .slice A2 L2.length c2], .bool true]) (by have s3 := HS3.out; have s4 := HS4.out; simp [results, Try.results42, go_sem, s3, s4]) rfl ?_; exact ⟨HS1.out, _, by rw [HE.out, (ack_yes HE.out).2], by rw [(ack_yes HE.out).1, HL2.out]; exact HS2.out.mono hB1.size⟩

theorem acked_any (w : World) (base upto : Nat) (A : Option Addr) (c : Nat) (L : List (List UInt8)) (h : Bx w w.heap.size A L) (hb : base < 18446744073709551616) (hu : upto < 18446744073709551616) (hf : Fit L) (hcc : L.length ≤ c) (hcm : c ≤ maxLen) :
  Calls Try.prog 42 #[.agg #[.int .u64 (base : Int), .slice A L.length c], .int .u64 (upto : Int)] w (AckPost w base L upto) := by
 by_cases g1 : wmayB base L = true
 ·by_cases g2 : upto ≤ base
  ·exact acked_b w base upto A c L h hb hu hf hcc hcm g1 g2
  ·by_cases g3 : upto - base ≤ min L.length 8
   ·exact acked_d w base upto A c L h hb hu hf hcc hcm g1 (by omega) g3
   ·exact acked_c w base upto A c L h hb hu hf hcc hcm g1 (by omega) (by omega)
 ·exact acked_a w base upto A c L h hb hu hf hcc hcm (by simpa using g1)

end Go.Proofs.Ytngegjboenfmeaa
/- The walk of window.Due. -/
namespace Go.Proofs.Ytngegjboenfmeaa
open Go Go.RowKit
set_option linter.unusedVariables false
set_option maxRecDepth 100000

def dueL (base : Nat) (L : List (List UInt8)) : List (List UInt8) := if wmayB base L = true then L.take (min L.length 8) else []
def DuePost (w : World) (base : Nat) (L : List (List UInt8)) (e : Ending) (w' : World) : Prop :=
 Below w.heap.size w w' ∧ w.heap.size + 2 ≤ w'.heap.size ∧ e = .returned (.func (.func 60) #[] #[.pointer (some ⟨w.heap.size + 1, 0, none⟩), .pointer (some ⟨w.heap.size, 0, none⟩)]) ∧
  w'.cell? ⟨w.heap.size, 0, none⟩ = some (.int .u64 (base : Int)) ∧ ∃ v, w'.cell? ⟨w.heap.size + 1, 0, none⟩ = some v ∧ OwnB w' w.heap.size v (dueL base L)
theorem run_toB (A : Option Addr) (n c k : Nat) (h : k ≤ n) (hc : n ≤ c) (W : World) :
  (Instr.slice 66 (.slice A n c) none (some (.int .i64 (k : Int))) none).run Try.prog W = .ok (.slice A k c) W := by
 obtain ⟨i0, hi, hz0, hz1, hz2⟩ := info_parts info_bs; have he : Try.prog.elem 66 = 47 := by kernel_rfl
 rw [run_slice_h W 66 A n c (by kernel_rfl) .i64 (k : Int) (by omega) (by omega), he]; have ha : A.map (fun x => x.add 0) = A := by cases A <;> simp [Addr.add]
 simp [sizeOf, typeInfo, hi, hz1, sliced, ha]
theorem set1 {w w1 W : World} {v : Value} {L : List (List UInt8)} (hB1 : Below w.heap.size w w1) (s1 : Below w1.heap.size w1 W) (g g' : Nat) (hg : w.heap.size ≤ g) (hg2 : g < w1.heap.size) (hne : g' ≠ g) (ho : OwnB W w1.heap.size v L) {a b : Value} (h0 : W.cell? ⟨g, 0, none⟩ = some a) (h1 : W.cell? ⟨g', 0, none⟩ = some b) (x : Value) {n : Nat} (hn : n ≤ W.heap.size) :
  Below w.heap.size w (W.setCell ⟨g, 0, none⟩ x) ∧ OwnB (W.setCell ⟨g, 0, none⟩ x) w1.heap.size v L ∧ (W.setCell ⟨g, 0, none⟩ x).cell? ⟨g, 0, none⟩ = some x ∧ (W.setCell ⟨g, 0, none⟩ x).cell? ⟨g', 0, none⟩ = some b ∧ n ≤ (W.setCell ⟨g, 0, none⟩ x).heap.size := by
 refine ⟨(hB1.trans (s1.mono hB1.size)).setCell hg _, ho.keep fun k hk _ => ?_, ?_, ?_, ?_⟩
 ·rw [Below.heap_setCell _ _ _ k (by simp only; omega)]
 ·exact World.cell?_setCell_same' _ _ _ (by rw [h0]; rfl)
 ·rw [World.cell?_setCell_other _ _ _ _ (fun e => hne (by cases e; rfl))]; exact h1
 ·simp [World.setCell]; exact hn

set_option maxHeartbeats 1000000 in
theorem due_any (w : World) (base : Nat) (A : Option Addr) (c : Nat) (L : List (List UInt8)) (h : Bx w w.heap.size A L) (hb : base < 18446744073709551616) (hf : Fit L) (hcc : L.length ≤ c) (hcm : c ≤ maxLen) :
  Calls Try.prog 38 #[.agg #[.int .u64 (base : Int), .slice A L.length c]] w (DuePost w base L) := by
 have hmx : L.length ≤ maxLen := by omega
 obtain ⟨LT, HLT⟩ : ∃ LT, Hid (L.take (min L.length 8) = LT) := ⟨_, Lib.hid rfl⟩; have HF2 : Hid (Fit LT) := Lib.hid (by rw [← HLT.out]; exact hf.take _); have HFB := Lib.hid (fun (x : List UInt8) (hx : x ∈ LT) => (show x.length ≤ 140737488355328 by have := HF2.out.2 x hx; omega)); have HT : Hid (Bx w w.heap.size A LT) := Lib.hid (by rw [← HLT.out]; exact h.take _); have HM : Hid (min L.length 8 = LT.length) := Lib.hid (by rw [← HLT.out]; simp); have hlt : LT.length ≤ L.length := by have := HM.out; omega
 have hl8 : LT.length ≤ 8 := by have := HM.out; omega
 have HSL := Lib.hid (run_toB A L.length c LT.length hlt hcc); have H := Lib.hid h; obtain ⟨W0, HW0⟩ : ∃ W0, Hid (W0 = (w.alloc (.cells #[.int .u64 (base : Int), .slice A L.length c] 68)).alloc (.cells #[.slice none 0 0] 66)) := ⟨_, Lib.hid rfl⟩; have hb0 : Below w.heap.size w W0 := by rw [HW0.out]; exact ((Below.refl _ _).alloc (Nat.le_refl _) _).alloc (by simp) _
 have hz0 : W0.heap.size = w.heap.size + 2 := by rw [HW0.out]; simp
 have HZ0 := Lib.hid hz0; have k0 : W0.cell? ⟨w.heap.size, 0, none⟩ = some (.int .u64 (base : Int)) ∧ W0.cell? ⟨w.heap.size, 1, none⟩ = some (.slice A L.length c) ∧ W0.cell? ⟨w.heap.size + 1, 0, none⟩ = some (.slice none 0 0) ∧ W0.frozen? ⟨w.heap.size + 1, 0, none⟩ = false := by
  rw [HW0.out]; simp [go_sem]
 have HK0 := Lib.hid k0; have H0 := Lib.hid (h.below hb0); clear k0 hz0 h hf; go_enter Try.func38, Try.ntmps38
 go_wp2_with fail
 rw [← HW0.out]; refine (wmay_any W0 w.heap.size base A c L H0.out hb0.size hb hmx).mono ?_; rintro e w1 ⟨rfl, hb1⟩; obtain ⟨hc1, hf1⟩ := bcell hb1; have hz1 := hb1.size; rw [HZ0.out] at hz1 hc1 hf1; have k1 := (hc1 w.heap.size 0 (by omega)).trans HK0.out.1; have k2 := (hc1 w.heap.size 1 (by omega)).trans HK0.out.2.1; have k3 := (hc1 (w.heap.size + 1) 0 (by omega)).trans HK0.out.2.2.1; have k5 := (hf1 (w.heap.size + 1) 0 (by omega)).trans HK0.out.2.2.2; clear hc1 hf1; have hB1 : Below w.heap.size w w1 := hb0.trans (hb1.mono hb0.size)
 by_cases g1 : wmayB base L = true
 ·have HE : Hid (dueL base L = LT) := Lib.hid (by rw [← HLT.out]; simp [dueL, g1]); rw [g1]; clear g1
  go_wp2_with fail
  have hbel : ∀ (dn : Nat → Bool) (xv : Nat → Value) (W : World), (if dn 6 = true then Below w.heap.size w W ∧ OwnB W w1.heap.size (xv 5) LT ∧ W.cell? ⟨w.heap.size + 1, 0, none⟩ = some (xv 5) ∧ W.cell? ⟨w.heap.size, 0, none⟩ = some (.int .u64 (base : Int)) ∧ w.heap.size + 2 ≤ W.heap.size else if dn 5 = true then Below w1.heap.size w1 W ∧ OwnB W w1.heap.size (xv 5) LT else if dn 3 = true then Below w1.heap.size w1 W else Below w1.heap.size w1 W) → dn 6 = false → Below w1.heap.size w1 W := fun dn xv W h h0 => by
   rw [if_neg (by simp [h0])] at h; split at h
   ·exact h.1
   split at h
   ·exact h
   exact h

  refine wRG (fun dn xv W => if dn 6 = true then Below w.heap.size w W ∧ OwnB W w1.heap.size (xv 5) LT ∧ W.cell? ⟨w.heap.size + 1, 0, none⟩ = some (xv 5) ∧ W.cell? ⟨w.heap.size, 0, none⟩ = some (.int .u64 (base : Int)) ∧ w.heap.size + 2 ≤ W.heap.size else if dn 5 = true then Below w1.heap.size w1 W ∧ OwnB W w1.heap.size (xv 5) LT else if dn 3 = true then Below w1.heap.size w1 W else Below w1.heap.size w1 W) (fun _ _ => True) [xP_ w.heap.size 1, xV_ (.slice A L.length c), xV_ (.agg #[.int .u64 (base : Int), .slice A L.length c]), xV_ (.int .i64 (LT.length : Int)), xV_ (.slice A LT.length c), fun v _ => ∃ A2 c2, v = .slice A2 LT.length c2, fun v _ => True] (fun xv => by simpa using (Below.refl _ w1).drew) ?_ ?_
  ·refine Ep 1 1 w.heap.size 0 ?_
   refine EC 2 rfl (fun g h W F a b c d e H K f => ?_) ?_
   ·have f6 := gE (a 6) (by kernel_rfl) (H 0) (by kernel_rfl); have hb0 := hbel g h W e (c 6 uE); have hc0 := (hb0.cell (p := ⟨w.heap.size, 0, none⟩) (show w.heap.size < w1.heap.size by omega)).trans k1; have hc1 := (hb0.cell (p := ⟨w.heap.size, 1, none⟩) (show w.heap.size < w1.heap.size by omega)).trans k2; clear hb0; clear H c b d a; refine oP rfl ?_; go_simp; exact f.out _ _ rfl trivial e
   refine EC 3 rfl (fun g h W F a b c d e H K f => ?_) ?_
   ·have f1 : F.tmps.getD 1 undef = .pointer (some ⟨w.heap.size, 0, none⟩) := (a 1).trans (by kernel_rfl); have hb0 := hbel g h W e (c 6 uE); have hc0 := (hb0.cell (p := ⟨w.heap.size, 0, none⟩) (show w.heap.size < w1.heap.size by omega)).trans k1; have hc1 := (hb0.cell (p := ⟨w.heap.size, 1, none⟩) (show w.heap.size < w1.heap.size by omega)).trans k2; clear hb0; clear H c b d a; refine oP rfl ?_; go_simp; exact f.out _ _ rfl trivial e
   refine EC 4 rfl (fun i k W F a b d f g H K h => ?_) ?_
   ·have f8 := gE (a 8) (by kernel_rfl) (H 2) (by kernel_rfl); have q5 := d 5 uE; have q6 := d 6 (uM 5 uE); rw [if_neg (by simp [q6]), if_neg (by simp [q5]), if_neg (by simp [b])] at g; have hS := g; clear g d b f a H; refine oP rfl ?_; go_simp; refine (dueP_any W (base : Int) A L.length c hmx).mono ?_; rintro e W' ⟨rfl, hb⟩; rw [HM.out]; have hs : Below w1.heap.size w1 W' := hS.trans (hb.mono hS.size); exact h.out _ W' rfl trivial (by simpa [upB, upd, q5, q6] using hs)
   refine EC 5 rfl (fun g h W F a b c d e H K f => ?_) ?_
   ·have f7 := gE (a 7) (by kernel_rfl) (H 1) (by kernel_rfl); have f9 := gE (a 9) (by kernel_rfl) (H 3) (by kernel_rfl); clear H c b d a; refine oP rfl ?_; have d1 := HSL.out; go_simp; exact f.out _ _ rfl trivial e
   refine EC 6 rfl (fun i j W F a b d f g H K h => ?_) ?_
   ·have f10 := gE (a 10) (by kernel_rfl) (H 4) (by kernel_rfl); have q3 := (H 3 uE).1; have q6 := d 6 uE; rw [if_neg (by simp [q6]), if_neg (by simp [b]), if_pos q3] at g; have hS := g; clear g d b f a H; refine oP rfl ?_; go_simp; refine (copied_any W w.heap.size A c LT (HT.out.below (hB1.trans (hS.mono hB1.size))) (Nat.le_trans hB1.size hS.size) HF2.out).mono ?_; rintro e W' ⟨v, rfl, ho, hb⟩; have hs : Below w1.heap.size w1 W' ∧ OwnB W' w1.heap.size v LT := ⟨hS.trans (hb.mono hS.size), ho.mono hS.size⟩; obtain ⟨A2, c2, e2, _⟩ := ho.form HFB.out; exact h.out v W' ⟨A2, c2, e2⟩ trivial (by simpa [upB, upd, q6] using hs)
   refine EC 7 rfl (fun g h W F a b c d e H K f => ?_) ?_
   ·have f3 : F.tmps.getD 3 undef = .pointer (some ⟨w.heap.size + 1, 0, none⟩) := (a 3).trans (by kernel_rfl); have f11 : F.tmps.getD 11 undef = h 5 := (a 11).trans (by kernel_rfl); have q5 := (H 5 uE).1; rw [if_neg (by simp [b]), if_pos q5] at e; have hS := e; clear e c b d a H; refine oP rfl ?_; obtain ⟨s1, s2⟩ := hS; obtain ⟨A2, c2, e2, _⟩ := s2.form HFB.out; have f11x := f11.trans e2; have hc3 := (s1.cell (p := ⟨w.heap.size + 1, 0, none⟩) (show w.heap.size + 1 < w1.heap.size by omega)).trans k3; have hf3 := (s1.frozen (p := ⟨w.heap.size + 1, 0, none⟩) (show w.heap.size + 1 < w1.heap.size by omega)).trans k5; have hc0 := (s1.cell (p := ⟨w.heap.size, 0, none⟩) (show w.heap.size < w1.heap.size by omega)).trans k1; have hs := set1 hB1 s1 (w.heap.size + 1) w.heap.size (by omega) (by omega) (by omega) s2 hc3 hc0 (h 5) (show w.heap.size + 2 ≤ W.heap.size by have := s1.size; omega); go_simp; rw [← e2]; exact f.out undef _ trivial trivial (by simpa [upB, upd] using hs)
   exact EN
  ·intro dn xv W hI H; have qe : dn 6 = true := (H 6 (of_decide_eq_true (by kernel_rfl))).1; rw [if_pos qe] at hI; have hS := hI; clear H hI qe; simp only [putAll, Act.put, List.setIfInBounds_toArray, List.set_cons_zero, List.set_cons_succ, Nat.reduceAdd]

   obtain ⟨s1, s2, s3, s4, s5⟩ := hS; have HS := Lib.hid s2; have HS1 := Lib.hid s3; clear s2 s3; go_wp2
   go_ret
   exact ⟨s1, s5, rfl, s4, _, HS1.out, by rw [HE.out]; exact HS.out.mono hB1.size⟩
 ·have g1' : wmayB base L = false := by simpa using g1
  have HE : Hid (dueL base L = []) := Lib.hid (by simp [dueL, g1']); rw [g1']; clear g1 g1'; go_wp2
  go_ret
  exact ⟨hB1, hz1, rfl, k1, _, k3, by rw [HE.out]; exact OwnB.nil _ _⟩
end Go.Proofs.Ytngegjboenfmeaa
/- The iterator that window.Due answers: its contract. -/
namespace Go.Proofs.Ytngegjboenfmeaa
open Go Go.RowKit Go.Shelf
set_option linter.unusedVariables false
set_option maxRecDepth 100000
attribute [local go_sem] Oper.semAt_some

/-- what a round is handed: a number, what the body holds, the slice -/
abbrev It := Nat × List UInt8 × Value
def encI (x : It) : Array Value := #[.int .u64 (x.1 : Int), x.2.2]
def prI (x : It) : Nat × List UInt8 := (x.1, x.2.1)
def items (base : Nat) (LT : List (List UInt8)) : List (Nat × List UInt8) := LT.mapIdx fun k l => (base + 1 + k, l)
def AtI (base : Nat) (LT : List (List UInt8)) (k : Nat) (pre : List It) : Prop := pre.map prI = (items base LT).take k
theorem encI_eq (base k : Nat) (l : List UInt8) (v : Value) : encI (base + 1 + k, l, v) = #[.int .u64 ((base : Int) + 1 + (k : Int)), v] := by simp [encI]
theorem items_len (base : Nat) (LT : List (List UInt8)) : (items base LT).length = LT.length := by simp [items]
theorem AtI.zero (base : Nat) (LT : List (List UInt8)) : AtI base LT 0 [] := by simp [AtI]
theorem AtI.len {base : Nat} {LT : List (List UInt8)} {k : Nat} {pre : List It} (h : AtI base LT k pre) (hk : k ≤ LT.length) : pre.length = k := by
 have := congrArg List.length h
 simp [items_len] at this; omega
theorem AtI.succ {base : Nat} {LT : List (List UInt8)} {k : Nat} {pre : List It} (h : AtI base LT k pre) (hk : k < LT.length) (v : Value) : AtI base LT (k + 1) (pre ++ [(base + 1 + k, LT[k], v)]) := by
 unfold AtI at *; rw [List.map_append, h, List.take_succ_eq_append_getElem (by rw [items_len]; exact hk)]; simp [items, prI]
theorem run_equalIn_func_nil (W : World) (d : Nat) (f : Fn) (a b : Array Value) : (Op.equalIn (d + 1) 119 (.func f a b) .nilFunc).run Try.prog W = .ok false W := by
 have h := Try.underlying119; rw [Op.equalIn]; simp [run_underlying h]
theorem run_eql_func_nil (W : World) (f : Fn) (a b : Array Value) : (binOp .eql 119 (.func f a b) .nilFunc).run Try.prog W = .ok (.bool false) W := by
 simp only [binOp]; simp [Op.equal, Op.maxDepth, run_equalIn_func_nil W 9999 f a b]

/-- what lies from lo on and below hi stays; the rest is free -/
structure Mid (lo hi : Nat) (w w' : World) : Prop where
 size : w.heap.size ≤ w'.heap.size
 block : ∀ k, lo ≤ k → k < hi → w'.heap[k]? = w.heap[k]?
theorem Mid.refl (lo hi : Nat) (w : World) : Mid lo hi w w := ⟨Nat.le_refl _, fun _ _ _ => rfl⟩
theorem Mid.trans {lo hi : Nat} {A B C : World} (h : Mid lo hi A B) (k : Mid lo hi B C) : Mid lo hi A C := ⟨Nat.le_trans h.size k.size, fun i h1 h2 => (k.block i h1 h2).trans (h.block i h1 h2)⟩
theorem Mid.of_below {lo hi : Nat} {A B : World} (h : Below hi A B) : Mid lo hi A B := ⟨h.size, fun k _ h2 => h.block k h2⟩
theorem Mid.putObj {lo hi : Nat} (W : World) {l : Nat} (o : Obj) (h : hi ≤ l) : Mid lo hi W (W.putObj l o) :=
 ⟨by simp, fun k _ h2 => World.putObj_heap_other (by omega)⟩
theorem Mid.cell {lo hi : Nat} {A B : World} (h : Mid lo hi A B) {b o : Nat} (h1 : lo ≤ b) (h2 : b < hi) : B.cell? ⟨b, o, none⟩ = A.cell? ⟨b, o, none⟩ := by
 have e := h.block b h1 h2; simp only [World.cell?, e]
theorem OwnB.mid {w w' : World} {base : Nat} {v : Value} {L : List (List UInt8)} (h : OwnB w base v L) (hm : Mid base w.heap.size w w') : OwnB w' base v L := h.keep fun k h1 h2 => hm.block k h1 h2

end Go.Proofs.Ytngegjboenfmeaa
/- The iterator that window.Due answers: its contract, what it hands to a round being new memory (SeqS). -/
namespace Go.Proofs.Ytngegjboenfmeaa
open Go Go.RowKit Go.Shelf
set_option linter.unusedVariables false
set_option maxRecDepth 100000
attribute [local go_sem] Oper.semAt_some

/-- these blocks stay -/
structure MidB (lo hi : Nat) (w w' : World) : Prop where
 block : ∀ k, lo ≤ k → k < hi → w'.heap[k]? = w.heap[k]?
theorem MidB.trans {lo hi : Nat} {A B C : World} (h : MidB lo hi A B) (k : MidB lo hi B C) : MidB lo hi A C := ⟨fun i h1 h2 => (k.block i h1 h2).trans (h.block i h1 h2)⟩
theorem MidB.of_below {lo hi : Nat} {A B : World} (h : Below hi A B) : MidB lo hi A B := ⟨fun k _ h2 => h.block k h2⟩
theorem MidB.putObj {lo hi : Nat} (W : World) {l : Nat} (o : Obj) (h : hi ≤ l) : MidB lo hi W (W.putObj l o) :=
 ⟨fun k h1 h2 => World.putObj_heap_other (by omega)⟩
theorem MidB.cell {lo hi : Nat} {A B : World} (h : MidB lo hi A B) {b o : Nat} (h1 : lo ≤ b) (h2 : b < hi) : B.cell? ⟨b, o, none⟩ = A.cell? ⟨b, o, none⟩ := by
 unfold World.cell?; rw [h.block b h1 h2]
theorem MidB.after {lo : Nat} {w wr W : World} (h : MidB lo w.heap.size w wr) (hb : Below wr.heap.size wr W) : MidB lo w.heap.size w W := ⟨fun k h1 h2 => by
 have e := h.block k h1 h2; rw [Array.getElem?_eq_getElem h2] at e; have hlt := (Array.getElem?_eq_some_iff.1 e).1; rw [hb.block k hlt, e, Array.getElem?_eq_getElem h2]⟩
theorem OwnB.midB {w w' : World} {base : Nat} {v : Value} {L : List (List UInt8)} (h : OwnB w base v L) (hm : MidB base w.heap.size w w') : OwnB w' base v L := h.keep fun k h1 h2 => hm.block k h1 h2
set_option maxHeartbeats 2000000 in
theorem due1_s (n : Nat) (hn : 1 ≤ n) (w : World) (g base : Nat) (LT : List (List UInt8)) (v : Value) (hg : g + 2 ≤ w.heap.size) (k1 : w.cell? ⟨g, 0, none⟩ = some (.int .u64 (base : Int))) (k2 : w.cell? ⟨g + 1, 0, none⟩ = some v)
  (hX : OwnB w g v LT) (hf : Fit LT) (hbl : LT.length = 0 ∨ base + LT.length ≤ 34359738367) :
  SeqS Fence.wide n Try.prog 60 #[.pointer (some ⟨g + 1, 0, none⟩), .pointer (some ⟨g, 0, none⟩)] encI (fun pre x => AtI base LT (pre.length + 1) (pre ++ [x])) (fun x B W => Own W B x.2.2 x.2.1) (MidB g w.heap.size) (AtI base LT LT.length) LT.length w := fun l J J1 W hW hJ hJ1 hY h0 => by
 have HFB := Lib.hid (fun (x : List UInt8) (hx : x ∈ LT) => (show x.length ≤ 140737488355328 by have := hf.2 x hx; omega)); obtain ⟨A, c, rfl, _⟩ := hX.form HFB.out; have HX := Lib.hid hX; have HF := Lib.hid hf; have hL := hf.1; have q1 := (hW.cell (p := ⟨g, 0, none⟩) (show g < w.heap.size by omega)).trans k1; have q2 := (hW.cell (p := ⟨g + 1, 0, none⟩) (show g + 1 < w.heap.size by omega)).trans k2; have HY := Lib.hid hY; have HJ := Lib.hid hJ; have H1 := Lib.hid hJ1; have K1 := Lib.hid k1; clear hX hf k1 k2 hY hJ hJ1; refine callsIn_of_wp Try.func60 rfl trivial ?_ rfl; simp only [Try.ntmps60, List.size_toArray, List.length_cons, List.length_nil, Nat.reduceAdd, Nat.reduceSub, Array.replicate_succ, Array.replicate_zero, List.push_toArray, List.append_toArray, List.nil_append, List.cons_append]; have hnil := fun W => run_eql_func_nil W (.yield l) #[] #[]
 gi_wp2
 gi_loopw [10] (fun i wr => ∃ (k : Nat) (pre : List It), k ≤ LT.length ∧ i = .int .i64 (k : Int) ∧ AtI base LT k pre ∧ J pre wr ∧ MidB g w.heap.size w wr) (fun i _ => LT.length - (intOf i).toNat)
 case atStart => exact ⟨0, [], by omega, rfl, AtI.zero _ _, h0, MidB.of_below hW⟩
 case round =>
  obtain ⟨k, pre, hk, rfl, hat, hJs, hB⟩ := hrel
  by_cases hlt : k < LT.length
  ·obtain ⟨A', c', e0, _, _, hx0⟩ := (HX.out.midB hB).form HFB.out; obtain ⟨rfl, rfl⟩ : A = A' ∧ c = c' := by simp at e0; exact e0
   obtain ⟨b, o, A1, c1, rfl, hbB, hc, r1, r2, r3, hh⟩ := hx0.at_ hlt; clear e0 hx0; have HH := Lib.hid hh; have hle := HF.out.2 LT[k] (List.getElem_mem hlt); have p1 := (hB.cell (o := 0) (Nat.le_refl g) (show g < w.heap.size by omega)).trans K1.out; have hb2 : base + LT.length ≤ 34359738367 := by omega
   have HAT := Lib.hid hat; have HJS := Lib.hid hJs; clear hh hbl hat hJs; obtain ⟨l0, Hl⟩ : ∃ l0, Hid (LT[k] = l0) := ⟨_, Lib.hid rfl⟩; rw [Hl.out] at hc r1 r3 HH hle
   gi_wp2
   have hgw : g < wr.heap.size := World.block_lt_of_cell? wr _ p1; have hpl : pre.length < LT.length := by rw [HAT.out.len hk]; exact hlt
   have x1 : IntKind.u64.wrap ((base : Int) + 1) = (base : Int) + 1 := u64_wrap (by omega) (by omega); have x2 : IntKind.u64.wrap (k : Int) = (k : Int) := u64_wrap (by omega) (by omega); have x3 : IntKind.u64.wrap ((base : Int) + 1 + (k : Int)) = (base : Int) + 1 + (k : Int) := u64_wrap (by omega) (by omega); have HA1 : Hid (∀ v, AtI base LT (pre.length + 1) (pre ++ [(base + 1 + k, l0, v)])) := Lib.hid (fun v => by have h := HAT.out.succ hlt v; rw [Hl.out] at h; rw [HAT.out.len hk]; exact h)
   gi_region_with (first | (refine ⟨trivial, ?_⟩; gi_at_call 44; go_loud (refine (callsIn_wide.2 (clone_any _ wr.heap.size A1 c1 l0 (HH.out.drew) (by simp) (by omega))).mono ?_; rintro e w1 ⟨v1, rfl, ho1, hb1⟩; have p2 := (hb1.cell (p := ⟨g, 0, none⟩) hgw).trans p1; obtain ⟨fn, tm, asg, bdy, hy, hR⟩ := HY.out pre (base + 1 + k, l0, v1) w1 (H1.out pre _ _ w1 (HJ.out pre _ _ HJS.out ((Below.refl _ wr).drew)) hb1 (HA1.out v1) ho1 hpl); rw [encI_eq] at hy; clear HJS)) | (refine hR.mono ?_; clear hR hy; rintro e W3 ⟨rfl, hJ3, hk3⟩))
   all_goals
    have hE := encI_eq base k l0 v1; have HJ3 := Lib.hid hJ3; have HK3 := Lib.hid hk3; clear hJ3 hk3
    gi_wp2
    go_roundw
    case rel =>
     refine ⟨k + 1, pre ++ [(base + 1 + k, l0, v1)], by omega, by simp, ?_, HJ3.out, (hB.after (((Below.refl _ wr).drew).trans hb1)).trans HK3.out⟩; have := HAT.out.succ hlt v1
     rwa [Hl.out] at this
    case measure => simp [intOf]; omega
  ·obtain rfl : k = LT.length := by omega
   gi_wp2
   go_end0
   exact ⟨⟨_, rfl⟩, _, hat, hJs⟩
end Go.Proofs.Ytngegjboenfmeaa
/- A sender of nothing; last of a link of nothing. -/
namespace Go.Proofs.Ytngegjboenfmeaa
open Go Go.RowKit
set_option linter.unusedVariables false
set_option maxRecDepth 100000
set_option linter.unusedSimpArgs false

end Go.Proofs.Ytngegjboenfmeaa
/- Last of a link of nothing; Take of a hello by which a link comes up. -/
namespace Go.Proofs.Ytngegjboenfmeaa
open Go Go.RowKit
set_option linter.unusedVariables false
set_option maxRecDepth 100000
set_option linter.unusedSimpArgs false

/-- a number of nought, somewhere -/
def ZAt (v : Value) (W : World) : Prop := ∃ a, v = .pointer (some ⟨a, 0, none⟩) ∧ a < W.heap.size ∧ W.heap[a]? = some (.cells #[.int .u64 0] 28 (0, 0))
theorem ZAt.below {v : Value} {W W' : World} (h : ZAt v W) (hb : Below W.heap.size W W') : ZAt v W' := by
 obtain ⟨a, e, h1, h2⟩ := h; exact ⟨a, e, Nat.lt_of_lt_of_le h1 hb.size, (hb.block a h1).trans h2⟩
theorem ZAt.new (W : World) : ZAt (.pointer (some ⟨W.heap.size, 0, none⟩)) (W.alloc (.cells #[.int .u64 0] 28)) := ⟨_, rfl, by simp, heap_alloc_new W _⟩
theorem ZAt.set {W : World} {a : Nat} (h : W.heap[a]? = some (.cells #[.int .u64 0] 28 (0, 0))) : Below W.heap.size W (W.setCell ⟨a, 0, none⟩ (.int .u64 0)) := by
 refine ⟨rfl, rfl, rfl, by simp [World.setCell], fun k hk => ?_⟩
 by_cases e : k = a
 ·subst e; simp [World.setCell, Array.getElem?_modify, h]
 ·simp [World.setCell, Array.getElem?_modify, e, Ne.symm e]
end Go.Proofs.Ytngegjboenfmeaa
/- The walk of the laws' own helper 'awake' of layer 12. -/
namespace Go.Proofs.Ytngegjboenfmeaa
open Go Go.RowKit
set_option linter.unusedVariables false
set_option maxRecDepth 100000
set_option linter.unusedSimpArgs false

end Go.Proofs.Ytngegjboenfmeaa
/- Conns and Waits of a link; stands. -/
namespace Go.Proofs.Ytngegjboenfmeaa
open Go Go.RowKit
set_option linter.unusedVariables false
set_option maxRecDepth 100000
set_option linter.unusedSimpArgs false

end Go.Proofs.Ytngegjboenfmeaa
/- The document's hello. -/
namespace Go.Proofs.Ytngegjboenfmeaa
open Go Go.RowKit
set_option linter.unusedVariables false
set_option maxRecDepth 100000
set_option linter.unusedSimpArgs false

end Go.Proofs.Ytngegjboenfmeaa
/- How many ticks after: the link's and the document's. -/
namespace Go.Proofs.Ytngegjboenfmeaa
open Go Go.RowKit
set_option linter.unusedVariables false
set_option maxRecDepth 100000

/-- so many ticks after -/
def ticks (now was : Nat) : Nat := now - was
theorem after_any (w : World) (now was : Nat) (h : now < 18446744073709551616) : Calls Try.prog 34 #[.int .u64 (now : Int), .int .u64 (was : Int)] w fun e w' => e = .returned (.int .u64 (ticks now was : Nat)) ∧ Below w.heap.size w w' := by
 by_cases hl : now < was
 ·have HT : Hid (ticks now was = 0) := Lib.hid (by unfold ticks; omega); go_enter Try.func34, Try.ntmps34
  go_wp2_with fail
  go_ret
  exact ⟨by rw [HT.out]; rfl, Below.refl _ _⟩
 ·obtain ⟨d, hd⟩ : ∃ d : Nat, (now : Int) - (was : Int) = (d : Int) := ⟨now - was, by omega⟩; have HT : Hid (ticks now was = d) := Lib.hid (by unfold ticks; omega); have mw : IntKind.u64.wrap ((now : Int) - (was : Int)) = (d : Int) := by rw [IntKind.wrap_u64]; omega
  have mw2 : ((now : Int) - (was : Int)) % 18446744073709551616 = (d : Int) := by omega
  have mw3 : IntKind.u64.wrap (d : Int) = (d : Int) := by rw [IntKind.wrap_u64]; omega
  go_enter Try.func34, Try.ntmps34
  go_wp2_with fail
  go_ret
  exact ⟨by rw [HT.out]; rfl, Below.refl _ _⟩
end Go.Proofs.Ytngegjboenfmeaa
/- A link, as a plain machine: what it does by each call. No program in sight. -/
namespace Go.Proofs.Ytngegjboenfmeaa
open Go Go.RowKit
set_option linter.unusedVariables false

/-- how a link stands -/
structure LS where
 base : Nat
 box : List (List UInt8)
 got : Nat
 sn : Int
 si : Nat
 peer : Int
 conn : Nat
 inc : Nat
 known : Nat
 up : Bool
 heard : Nat
 sent : Nat
/-- what is told -/
structure Ev where
 kind : Int
 pn : Int
 pi : Nat
 body : List UInt8
def LS.cells (s : LS) (bx : Value) : Array Value := lkCells s.base bx s.got s.sn s.si s.peer s.conn s.inc s.known s.up s.heard s.sent
def Fr.cellsV (f : Fr) (u : Value) : Array Value := #[.int .i64 f.kind, .int .i64 f.fr, .int .i64 f.to, .int .u64 (f.inc : Int), .int .u64 (f.conn : Int), .int .u64 (f.pinc : Int), .int .u64 (f.pconn : Int), .int .u64 (f.ack : Int), .int .u64 (f.seq : Int), u]
def Ev.cellsV (e : Ev) (u : Value) : Array Value := #[.int .i64 e.kind, .int .i64 e.pn, .int .u64 (e.pi : Int), u]
/-- frames, each with its body's value: the row's cells, the bodies -/
def fR_ (LP : List (Fr × Value)) : List Value := LP.flatMap fun p => (p.1.cellsV p.2).toList
def fB_ (LP : List (Fr × Value)) : List (Value × List UInt8) := LP.map fun p => (p.2, p.1.body)
def eR_ (LP : List (Ev × Value)) : List Value := LP.flatMap fun p => (p.1.cellsV p.2).toList
def eB_ (LP : List (Ev × Value)) : List (Value × List UInt8) := LP.map fun p => (p.2, p.1.body)
theorem frRow_snoc (LP : List (Fr × Value)) (p : Fr × Value) : fR_ (LP ++ [p]) = fR_ LP ++ (p.1.cellsV p.2).toList := by simp [fR_]
theorem frBods_snoc (LP : List (Fr × Value)) (p : Fr × Value) : fB_ (LP ++ [p]) = fB_ LP ++ [(p.2, p.1.body)] := by simp [fB_]
theorem evRow_snoc (LP : List (Ev × Value)) (p : Ev × Value) : eR_ (LP ++ [p]) = eR_ LP ++ (p.1.cellsV p.2).toList := by simp [eR_]
theorem evBods_snoc (LP : List (Ev × Value)) (p : Ev × Value) : eB_ (LP ++ [p]) = eB_ LP ++ [(p.2, p.1.body)] := by simp [eB_]

def LS.hello (s : LS) : Fr := ⟨1, s.sn, s.peer, s.si, s.conn, s.inc, s.known, s.got, 0, []⟩
def LS.data (s : LS) (x : Nat × List UInt8) : Fr := ⟨2, s.sn, s.peer, s.si, s.conn, s.inc, s.known, s.got, x.1, x.2⟩
def LS.due (s : LS) : List (Nat × List UInt8) := items s.base (dueL s.base s.box)
def LS.last (s : LS) : Nat := s.base + min s.box.length 8
/-- going down: what it is then, what is told -/
def LS.down (s : LS) : LS := { s with base := 0, box := [], got := 0, up := false }
def LS.ev (s : LS) (kind : Int) (b : List UInt8) : Ev := ⟨kind, s.peer, s.inc, b⟩
/-- numbers that a call wants -/
structure LS.Num (s : LS) : Prop where
 sn : s.sn ≠ 0
 base : s.base + s.box.length ≤ 34359738367
 box : s.box.length ≤ 48
 bodies : ∀ l ∈ s.box, bodyB l = true
 got : s.got ≤ 34359738367
 heard : s.heard < 18446744073709551616
 sent : s.sent < 18446744073709551616
theorem bodyB_len {l : List UInt8} (h : bodyB l = true) : 1 ≤ l.length ∧ l.length ≤ 448 := by
 simpa [bodyB] using h
theorem LS.Num.may {s : LS} (h : s.Num) : wmayB s.base s.box = true := by
 unfold wmayB; rw [decide_eq_true h.box, decide_eq_true h.base]; simpa [List.all_eq_true] using h.bodies
theorem LS.Num.fit {s : LS} (h : s.Num) : Fit s.box := ⟨by have := h.box; omega, fun l hl => by have := (bodyB_len (h.bodies l hl)).2; omega⟩
theorem LS.Num.due {s : LS} (h : s.Num) : dueL s.base s.box = s.box.take (min s.box.length 8) := by simp [dueL, h.may]
theorem LS.Num.small {s : LS} (h : s.Num) : ∀ l ∈ s.box, l.length ≤ 140737488355328 := fun l hl => by have := (bodyB_len (h.bodies l hl)).2; omega
theorem LS.Num.down {s : LS} (h : s.Num) : s.down.Num := ⟨h.sn, by simp [LS.down], by simp [LS.down], by simp [LS.down], by simp [LS.down], h.heard, h.sent⟩

/-- a tick -/
def LS.tick1 (s : LS) (now : Nat) : LS := if s.up && decide (4 ≤ ticks now s.heard) then { s.down with conn := s.conn + 1 } else s
def LS.again (s : LS) (now : Nat) : Bool := s.up && decide (0 < s.box.length) && decide (2 ≤ ticks now s.sent)
def LS.tick (s : LS) (now : Nat) : LS := let t := s.tick1 now; if t.again now then { t with sent := now } else t
def LS.tickF (s : LS) (now : Nat) : List Fr := let t := s.tick1 now; t.hello :: if t.again now then t.due.map t.data else []
def LS.tickE (s : LS) (now : Nat) : List Ev := if s.up && decide (4 ≤ ticks now s.heard) then [s.ev 2 []] else []

/-- a frame that comes: is it looked at? -/
def LS.looks (s : LS) (f : Fr) : Bool := mayB f.kind f.fr f.to f.inc f.conn f.pinc f.pconn f.ack f.seq f.body.length && decide (f.fr = s.peer) && decide (f.to = s.sn) && !(decide (f.inc < s.inc) || (decide (f.inc = s.inc) && decide (f.conn < s.known)))
/-- is it of another connection than the known one? -/
def LS.other (s : LS) (f : Fr) : Bool := decide (f.inc ≠ s.inc) || decide (f.conn ≠ s.known)
def LS.turn (s : LS) (f : Fr) : LS := if s.other f then { s.down with inc := f.inc, known := f.conn } else s
def LS.take1 (s : LS) (now : Nat) (f : Fr) : LS := { s.turn f with heard := now }
def LS.take1E (s : LS) (f : Fr) : List Ev := if s.other f && s.up then [s.ev 2 []] else []
/-- does it know this link? -/
def LS.knows (s : LS) (f : Fr) : Bool := decide (f.pinc = s.si) && decide (f.pconn = s.conn)
def LS.take2E (s : LS) : List Ev := if s.up then [] else [s.ev 1 []]
/-- acknowledged, and taken -/
def LS.take3 (s : LS) (f : Fr) : LS := { s with up := true, base := ackV s.base s.box f.ack, box := ackL s.base s.box f.ack }
def LS.taken (s : LS) (f : Fr) : Bool := decide (f.kind = 2) && takeB s.got f.seq
def LS.take4 (s : LS) (f : Fr) : LS := if s.taken f then { s with got := f.seq } else s
def LS.take4E (s : LS) (f : Fr) : List Ev := if s.taken f then [s.ev 3 f.body] else []
def LS.fresh (s : LS) (last : Nat) : List (Nat × List UInt8) := s.due.filter fun x => decide (last < x.1)
def LS.helloBack (s : LS) (f : Fr) : Bool := decide (f.kind = 2) || !s.up
/-- what it is behind a frame that knows it, and what it answers -/
def LS.take5 (s : LS) (now : Nat) (f : Fr) : LS := let t := (s.take3 f).take4 f; if t.fresh s.last = [] ∨ t.base ≤ s.base then t else { t with sent := now }
def LS.take5F (s : LS) (f : Fr) : List Fr := let t := (s.take3 f).take4 f; (if t.base ≤ s.base then [] else (t.fresh s.last).map t.data) ++ if s.helloBack f then [t.hello] else []
def LS.take (s : LS) (now : Nat) (f : Fr) : LS := if s.looks f then (let t := s.take1 now f; if t.knows f then t.take5 now f else t) else s
def LS.takeF (s : LS) (now : Nat) (f : Fr) : List Fr := if s.looks f then (let t := s.take1 now f; if t.knows f then t.take5F f else [t.hello]) else []
def LS.takeE (s : LS) (now : Nat) (f : Fr) : List Ev := if s.looks f then (let t := s.take1 now f; s.take1E f ++ if t.knows f then t.take2E ++ (t.take3 f).take4E f else []) else []

/-- a body is sent -/
def LS.sendE (s : LS) (b : List UInt8) : Nat := if s.up then pushE s.base s.box b else 7
def LS.send (s : LS) (now : Nat) (b : List UInt8) : LS := if s.sendE b = 0 then { s with box := s.box ++ [b], sent := if s.box.length = 0 then now else s.sent } else s
def LS.sendF (s : LS) (b : List UInt8) : List Fr := if s.sendE b = 0 ∧ s.box.length < 8 then [s.data (s.base + (s.box.length + 1), b)] else []
theorem LS.tick1_no {s : LS} {now : Nat} (h : (s.up && decide (4 ≤ ticks now s.heard)) = false) : s.tick1 now = s ∧ s.tickE now = [] := by simp [LS.tick1, LS.tickE, h]
theorem LS.tick1_yes {s : LS} {now : Nat} (h : (s.up && decide (4 ≤ ticks now s.heard)) = true) : s.tick1 now = { s.down with conn := s.conn + 1 } ∧ s.tickE now = [s.ev 2 []] := by simp only [LS.tick1, LS.tickE, h]; exact ⟨rfl, rfl⟩
theorem LS.Num.tick1 {s : LS} (h : s.Num) (now : Nat) : (s.tick1 now).Num := by
 unfold LS.tick1; split
 ·exact ⟨h.sn, h.down.base, h.down.box, h.down.bodies, h.down.got, h.heard, h.sent⟩
 ·exact h
theorem LS.Num.tick {s : LS} (h : s.Num) {now : Nat} (hn : now < 18446744073709551616) : (s.tick now).Num := by
 have h1 := h.tick1 now; unfold LS.tick; simp only; split
 ·exact ⟨h1.sn, h1.base, h1.box, h1.bodies, h1.got, h1.heard, hn⟩
 ·exact h1
theorem LS.Num.turn {s : LS} (h : s.Num) (f : Fr) : (s.turn f).Num := by
 unfold LS.turn; split
 ·exact ⟨h.sn, h.down.base, h.down.box, h.down.bodies, h.down.got, h.heard, h.sent⟩
 ·exact h
theorem LS.Num.take1 {s : LS} (h : s.Num) {now : Nat} (hn : now < 18446744073709551616) (f : Fr) : (s.take1 now f).Num := by
 have h1 := h.turn f; exact ⟨h1.sn, h1.base, h1.box, h1.bodies, h1.got, hn, h1.sent⟩
theorem LS.Num.take3 {s : LS} (h : s.Num) (f : Fr) : (s.take3 f).Num := by
 have hb := h.base
 by_cases ha : ackB s.base s.box f.ack = true
 ·have ha2 := ha; simp only [ackB, Bool.and_eq_true, decide_eq_true_eq] at ha2; obtain ⟨e1, e2⟩ := ack_yes ha; have hl : (s.take3 f).box = s.box.drop (f.ack - s.base) := e1; have hv : (s.take3 f).base = f.ack := e2; refine ⟨h.sn, ?_, ?_, ?_, h.got, h.heard, h.sent⟩
  ·rw [hl, hv, List.length_drop]; omega
  ·rw [hl, List.length_drop]; have := h.box; omega
  ·rw [hl]; exact fun l hl => h.bodies l (List.mem_of_mem_drop hl)
 ·simp only [Bool.not_eq_true] at ha; obtain ⟨e1, e2⟩ := ack_no ha; have hl : (s.take3 f).box = s.box := e1; have hv : (s.take3 f).base = s.base := e2; exact ⟨h.sn, by rw [hl, hv]; exact hb, by rw [hl]; exact h.box, by rw [hl]; exact h.bodies, h.got, h.heard, h.sent⟩
theorem LS.Num.take4 {s : LS} (h : s.Num) (f : Fr) : (s.take4 f).Num := by
 unfold LS.take4; split
 ·rename_i ht
  simp only [LS.taken, takeB, Bool.and_eq_true, decide_eq_true_eq] at ht; exact ⟨h.sn, h.base, h.box, h.bodies, ht.2.1.2, h.heard, h.sent⟩
 ·exact h
theorem LS.Num.take {s : LS} (h : s.Num) {now : Nat} (hn : now < 18446744073709551616) (f : Fr) : (s.take now f).Num := by
 have h1 := h.take1 hn f; have h4 := (h1.take3 f).take4 f; unfold LS.take; simp only; split
 ·split
  ·unfold LS.take5; simp only; split
   ·exact h4
   ·exact ⟨h4.sn, h4.base, h4.box, h4.bodies, h4.got, h4.heard, hn⟩
  ·exact h1
 ·exact h
theorem mayB_len {kind fr tt : Int} {inc conn pinc pconn ack seq n : Nat} (h : mayB kind fr tt inc conn pinc pconn ack seq n = true) : n ≤ 448 := by
 unfold mayB at h; have := of_decide_eq_true h; omega
theorem map_items {α : Type} {base : Nat} {LT : List (List UInt8)} {xs : List It} (h : AtI base LT LT.length xs) (f : Nat × List UInt8 → α) : xs.map (fun y => f (prI y)) = (items base LT).map f := by
 have e : xs.map prI = items base LT := by rw [h, List.take_of_length_le (by rw [items_len]; exact Nat.le_refl _)]
 rw [← e, List.map_map]; rfl
end Go.Proofs.Ytngegjboenfmeaa
/- Two links and what is between them, as a plain machine; how they lie in memory. -/
namespace Go.Proofs.Ytngegjboenfmeaa
open Go Go.RowKit
set_option linter.unusedVariables false
set_option linter.unusedSimpArgs false

/-- at one of two -/
def atB {α : Type} (f : Bool → α) (i : Bool) (x : α) : Bool → α := fun j => if j = i then x else f j
theorem atB_same {α : Type} (f : Bool → α) (i : Bool) (x : α) : atB f i x i = x := by simp [atB]
theorem atB_other {α : Type} (f : Bool → α) (i : Bool) (x : α) : atB f i x (!i) = f (!i) := by cases i <;> rfl
def side (i : Bool) : Int := if i then 1 else 0
/-- both links, their ticks, what is on its way to each, what was sent and told by each pair, how many bodies -/
structure TW where
 l : Bool → LS
 now : Bool → Nat
 way : Bool → List Fr
 sent : Pr → List (List UInt8)
 told : Pr → List (List UInt8)
 n : Nat
def TW.pr (T : TW) (i : Bool) : Pr := (side i, (T.l i).si, (T.l i).conn, (T.l i).inc, (T.l i).known)
/-- the other side's pair, as this side knows it -/
def TW.rp (T : TW) (i : Bool) : Pr := (1 - side i, (T.l i).inc, (T.l i).known, (T.l i).si, (T.l i).conn)
def tellE (t : Pr → List (List UInt8)) (q : Pr) : List Ev → Pr → List (List UInt8)
 | [] => t
 | e :: E => tellE (if e.kind = 3 then updM t q (t q ++ [e.body]) else t) q E
theorem tellE_snoc (q : Pr) (e : Ev) : ∀ (E : List Ev) (t : Pr → List (List UInt8)), tellE t q (E ++ [e]) = if e.kind = 3 then updM (tellE t q E) q (tellE t q E q ++ [e.body]) else tellE t q E
 | [], t => rfl
 | x :: E, t => tellE_snoc q e E _
/-- frames go on their way, bodies are told -/
def TW.ans (T : TW) (i : Bool) (F : List Fr) (E : List Ev) : TW := { T with way := atB T.way (!i) (T.way (!i) ++ F), told := tellE T.told (T.rp i) E }
def newLk (i : Bool) (si : Nat) : LS := ⟨0, [], 0, side i + 1, si, 2 - side i, 1, 0, 0, false, 0, 0⟩
def TW.life (T : TW) (i : Bool) : TW := { T with l := atB T.l i (newLk i ((T.l i).si + 1)) }
def TW.tick (T : TW) (i : Bool) : TW := let s := T.l i; ({ T with l := atB T.l i (s.tick (T.now i)) } : TW).ans i (s.tickF (T.now i)) (s.tickE (T.now i))
def TW.take (T : TW) (i : Bool) (f : Fr) : TW := let s := T.l i; ({ T with l := atB T.l i (s.take (T.now i) f) } : TW).ans i (s.takeF (T.now i) f) (s.takeE (T.now i) f)
/-- the n-th body, as the harness makes it -/
def bodyN (n : Nat) (i : Bool) : List UInt8 := [UInt8.ofNat n, UInt8.ofNat (n / 256), UInt8.ofNat (if i then 1 else 0)]
def TW.send (T : TW) (i : Bool) : TW :=
 let s := T.l i; let b := bodyN T.n i; let T1 : TW := { T with l := atB T.l i (s.send (T.now i) b) }
 (if s.sendE b = 0 then { T1 with n := T.n + 1, sent := updM T.sent (T1.pr i) (T.sent (T1.pr i) ++ [b]) } else T1).ans i (s.sendF b) []
/-- at most so many are on their way to each -/
def trim (l : List Fr) : List Fr := l.drop (l.length - 300)
def TW.trim (T : TW) : TW := { T with way := fun i => Go.Proofs.Ytngegjboenfmeaa.trim (T.way i) }
/-- an act: what, at which side (odd: the second), the number -/
def TW.act (T : TW) (d : Int) (i : Bool) (k : Nat) : TW :=
 if d = 0 then (({ T with now := atB T.now i (T.now i + k % 4) } : TW).tick i).trim
 else if d = 1 then (T.send i).trim
 else if d = 2 ∨ d = 3 ∨ d = 4 then
  match T.way i with
  | [] => T
  | f0 :: l =>
   let j := k % (l.length + 1)
   let f := (f0 :: l).getD j f0
   let T1 : TW := if d = 3 then T else { T with way := atB T.way i ((f0 :: l).eraseIdx j) }
   (if d = 4 then T1 else T1.take i f).trim
 else if d = 5 then (T.life i).trim
 else T.trim
def TW.start : TW := ⟨fun i => newLk i 1, fun _ => 0, fun _ => [], fun _ => [], fun _ => [], 0⟩

/-- the struct's cells -/
def twC (a0 a1 : Value) (i0 i1 n0 n1 : Nat) (v0 v1 : Value) (bs bt : Nat) (n : Nat) : Array Value := #[a0, a1, .int .u64 (i0 : Int), .int .u64 (i1 : Int), .int .u64 (n0 : Int), .int .u64 (n1 : Int), v0, v1, .map (some bs), .map (some bt), .int .i64 (n : Int), .bool false]
/-- bodies of two kinds, as one -/
theorem sep_bodsJoin {w0 w : World} {Qs : List SP} {LA LB : List (Value × List UInt8)} (h : Sep w0 w (Bods LA :: Bods LB :: Qs)) : Sep w0 w (Bods (LB ++ LA) :: Qs) := by
 obtain ⟨hB, Fs, hl, h1, h2⟩ := h
 match Fs, hl with
 | F1 :: F2 :: Rs, hl =>
  obtain ⟨⟨a1, a2⟩, _, a3⟩ := h1 0 _ F1 rfl rfl; obtain ⟨⟨b1, b2⟩, _, b3⟩ := h1 1 _ F2 rfl rfl; refine ⟨hB, (fun k => F2 k ∨ F1 k) :: Rs, by simpa using hl, ?_, ?_⟩
  ·intro i P F hP hF; cases i with
   | zero =>
    simp only [List.getElem?_cons_zero, Option.some.injEq] at hP hF; subst hP hF; refine ⟨⟨fun k hk => hk.elim (b1 k) (a1 k), fun x hx => ?_⟩, Bods.loc _, fun k hk => hk.elim (b3 k) (a3 k)⟩
    rcases List.mem_append.1 hx with hx | hx
    ·exact ⟨(b2 x hx).1, fun k hk => .inl ((b2 x hx).2 k hk)⟩
    ·exact ⟨(a2 x hx).1, fun k hk => .inr ((a2 x hx).2 k hk)⟩
   | succ i => exact h1 (i + 2) P F hP hF
  ·intro i j F G hij hF hG k hk hk'; cases i with
   | zero =>
    cases j with
    | zero => exact hij rfl
    | succ j =>
     simp only [List.getElem?_cons_zero, Option.some.injEq] at hF; subst hF
     rcases hk with hk | hk
     ·exact h2 1 (j + 2) F2 G (by omega) rfl hG k hk hk'
     ·exact h2 0 (j + 2) F1 G (by omega) rfl hG k hk hk'
   | succ i =>
    cases j with
    | zero =>
     simp only [List.getElem?_cons_zero, Option.some.injEq] at hG; subst hG
     rcases hk' with hk' | hk'
     ·exact h2 (i + 2) 1 F F2 (by omega) hF rfl k hk hk'
     ·exact h2 (i + 2) 0 F F1 (by omega) hF rfl k hk hk'
    | succ j => exact h2 (i + 2) (j + 2) F G (by omega) hF hG k hk hk'
/-- all of it in memory, g being the struct's block -/
def TWL (g a0 a1 : Nat) (b0 b1 v0 v1 : Value) (W0 W1 : List (Fr × Value)) (BB : List (Value × List UInt8)) (bs bt : Nat) (T : TW) (Qs : List SP) : List SP :=
 Ce g 34 (twC (.pointer (some ⟨a0, 0, none⟩)) (.pointer (some ⟨a1, 0, none⟩)) (T.l false).si (T.l true).si (T.now false) (T.now true) v0 v1 bs bt T.n) ::
 Ce a0 72 ((T.l false).cells b0) :: BoxT b0 (T.l false).box :: Ce a1 72 ((T.l true).cells b1) :: BoxT b1 (T.l true).box ::
 RwO 51 10 v0 W0.length (fR_ W0) :: RwO 51 10 v1 W1.length (fR_ W1) :: Bods BB :: MapT bs T.sent :: MapT bt T.told :: Qs
def TwAt (w0 w : World) (g : Nat) (T : TW) (Qs : List SP) : Prop := ∃ a0 a1 b0 b1 v0 v1 W0 W1 BB bs bt, W0.map Prod.fst = T.way false ∧ W1.map Prod.fst = T.way true ∧ (∀ x ∈ fB_ W0, x ∈ BB) ∧ (∀ x ∈ fB_ W1, x ∈ BB) ∧
 Sep w0 w (TWL g a0 a1 b0 b1 v0 v1 W0 W1 BB bs bt T Qs)
end Go.Proofs.Ytngegjboenfmeaa
/- A life and a pair of one of two links. -/
namespace Go.Proofs.Ytngegjboenfmeaa
open Go Go.RowKit Go.Shelf
set_option linter.unusedVariables false
set_option maxRecDepth 100000
set_option linter.unusedSimpArgs false

set_option maxHeartbeats 1600000 in
theorem life0 {w0 w : World} {Qs : List SP} {g i0 i1 n0 n1 bs bt n : Nat} {a0 a1 v0 v1 : Value} (h : Sep w0 w (Ce g 34 (twC a0 a1 i0 i1 n0 n1 v0 v1 bs bt n) :: Qs)) (hi : i0 + 1 ≤ 34359738367) :
  Calls Try.prog 30 #[.pointer (some ⟨g, 0, none⟩), .int .i64 0] w fun e w' => e = .returned (.tuple #[]) ∧ ∃ a,
   Sep w0 w' (Ce g 34 (twC (.pointer (some ⟨a, 0, none⟩)) a1 (i0 + 1) i1 n0 n1 v0 v1 bs bt n) :: Ce a 72 ((newLk false (i0 + 1)).cells (.slice none 0 0)) :: BoxT (.slice none 0 0) [] :: Qs) := by
 have HS0 := Lib.hid (show Sep w0 w (Ce g 34 #[a0, a1, .int .u64 (i0 : Int), .int .u64 (i1 : Int), .int .u64 (n0 : Int), .int .u64 (n1 : Int), v0, v1, .map (some bs), .map (some bt), .int .i64 (n : Int), .bool false] :: Qs) from h); have hw : IntKind.u64.wrap ((i0 : Int) + 1) = (i0 : Int) + 1 := u64_wrapG (by omega) (by omega); have HKI : ∀ (dn : Nat → Bool) (xv : Nat → Value) (W : World), (if dn 10 = true then Sep w0 W (Ce g 34 #[a0, a1, .int .u64 ((i0 : Int) + 1), .int .u64 (i1 : Int), .int .u64 (n0 : Int), .int .u64 (n1 : Int), v0, v1, .map (some bs), .map (some bt), .int .i64 (n : Int), .bool false] :: Qs) else Sep w0 W (Ce g 34 #[a0, a1, .int .u64 (i0 : Int), .int .u64 (i1 : Int), .int .u64 (n0 : Int), .int .u64 (n1 : Int), v0, v1, .map (some bs), .map (some bt), .int .i64 (n : Int), .bool false] :: Qs)) → dn 10 = false → W.cell? ⟨g, 2, none⟩ = some (.int .u64 (i0 : Int)) := fun dn xv W h h0 => by
  rw [if_neg (by simp [h0])] at h; exact cA (i := 0) h rfl 2 rfl
 clear h; go_enter Try.func30, Try.ntmps30
 go_wp2_with fail
 refine wRG (fun dn xv W => if dn 10 = true then Sep w0 W (Ce g 34 #[a0, a1, .int .u64 ((i0 : Int) + 1), .int .u64 (i1 : Int), .int .u64 (n0 : Int), .int .u64 (n1 : Int), v0, v1, .map (some bs), .map (some bt), .int .i64 (n : Int), .bool false] :: Qs) else Sep w0 W (Ce g 34 #[a0, a1, .int .u64 (i0 : Int), .int .u64 (i1 : Int), .int .u64 (n0 : Int), .int .u64 (n1 : Int), v0, v1, .map (some bs), .map (some bt), .int .i64 (n : Int), .bool false] :: Qs)) (fun _ _ => True) [xP_ g 0, xV_ (.int .i64 0), xP_ g 0, xP_ g 2, xP_ g 2, xV_ (.int .u64 (i0 : Int)), xV_ (.int .u64 ((i0 : Int) + 1)), xP_ g 0, xP_ g 2, xP_ g 2, fun v _ => True] (fun xv => by simpa using HS0.out.drew) ?_ ?_
 ·refine Ep 1 0 g 0 ?_
  refine Ei 2 1 (.int .i64 0) ?_
  refine Ee 3 6 0 ?_
  refine Ee 4 8 2 ?_
  refine Eee 5 7 1 9 3 ?_
  refine EC 6 rfl (fun g h W F a b c d e H K f => ?_) ?_
  ·have f10 := gE (a 10) (by kernel_rfl) (H 4) (by kernel_rfl); have k0_2 := HKI g h W e (c 10 (uM 6 uE)); clear H c b d a; refine oP rfl ?_; go_simp; exact f.out _ _ rfl trivial e
  refine Ee 7 11 5 ?_
  refine Ee 8 6 0 ?_
  refine Ee 9 13 7 ?_
  refine Eee 10 7 1 14 8 ?_
  refine EC 11 rfl (fun h j W F a b c d e H K f => ?_) ?_
  ·have f12 := gE (a 12) (by kernel_rfl) (H 6) (by kernel_rfl); have f15 := gE (a 15) (by kernel_rfl) (H 9) (by kernel_rfl); rw [if_neg (by simp [b])] at e; have hS := e; clear e c b d a H; refine oP rfl ?_; have yy := cFz (i := 0) hS rfl 2; have kk := cA (i := 0) hS rfl 2 rfl; have hs : Sep w0 (W.setCell ⟨g, 2, none⟩ (.int .u64 ((i0 : Int) + 1))) (Ce g 34 #[a0, a1, .int .u64 ((i0 : Int) + 1), .int .u64 (i1 : Int), .int .u64 (n0 : Int), .int .u64 (n1 : Int), v0, v1, .map (some bs), .map (some bt), .int .i64 (n : Int), .bool false] :: Qs) := cS (i := 0) hS rfl 2 (.int .u64 ((i0 : Int) + 1)); go_simp; exact f.out undef _ trivial trivial (by simpa [upB, upd] using hs)
  exact EN
 ·intro dn xv W hI H; have qe : dn 10 = true := (H 10 (of_decide_eq_true (by kernel_rfl))).1; rw [if_pos qe] at hI; have hS := hI; clear H hI qe; simp only [putAll, Act.put, List.setIfInBounds_toArray, List.set_cons_zero, List.set_cons_succ, Nat.reduceAdd]; have HS1 := Lib.hid (show Sep w0 W (Ce g 34 #[a0, a1, .int .u64 ((i0 + 1 : Nat) : Int), .int .u64 (i1 : Int), .int .u64 (n0 : Int), .int .u64 (n1 : Int), v0, v1, .map (some bs), .map (some bt), .int .i64 (n : Int), .bool false] :: Qs) from hS); clear hS HKI hw HS0; have k0 := cA (i := 0) HS1.out rfl 2 rfl
  go_wp2_with fail
  refine (newLink_any _ 1 (i0 + 1) 2 (by omega) (by omega) (by omega) hi (by omega) (by omega) (by omega)).mono ?_; rintro e w2 ⟨a, rfl, ha, hc, hb⟩; have HS2 := Lib.hid (sep_boxNil ((HS1.out.add (F := fun k => k = a) hb ⟨hc, fun k => Iff.rfl⟩ (Ce.loc _ _ _) (fun k hk => by rw [hk]; exact ha)).lastFront)); have y0 := cFz (i := 2) HS2.out rfl 0; have k0 := cA (i := 2) HS2.out rfl 0 rfl; have HS3 := Lib.hid (cS (i := 2) HS2.out rfl 0 (.pointer (some ⟨a, 0, none⟩))); clear HS1 hc hb ha
  go_wp2_with fail
  go_end0
  refine ⟨rfl, a, ?_⟩; exact ((HS3.out.tF 1 rfl).tF 2 rfl)
set_option maxHeartbeats 1600000 in
theorem life1 {w0 w : World} {Qs : List SP} {g i0 i1 n0 n1 bs bt n : Nat} {a0 a1 v0 v1 : Value} (h : Sep w0 w (Ce g 34 (twC a0 a1 i0 i1 n0 n1 v0 v1 bs bt n) :: Qs)) (hi : i1 + 1 ≤ 34359738367) :
  Calls Try.prog 30 #[.pointer (some ⟨g, 0, none⟩), .int .i64 1] w fun e w' => e = .returned (.tuple #[]) ∧ ∃ a,
   Sep w0 w' (Ce g 34 (twC a0 (.pointer (some ⟨a, 0, none⟩)) i0 (i1 + 1) n0 n1 v0 v1 bs bt n) :: Ce a 72 ((newLk true (i1 + 1)).cells (.slice none 0 0)) :: BoxT (.slice none 0 0) [] :: Qs) := by
 have HS0 := Lib.hid (show Sep w0 w (Ce g 34 #[a0, a1, .int .u64 (i0 : Int), .int .u64 (i1 : Int), .int .u64 (n0 : Int), .int .u64 (n1 : Int), v0, v1, .map (some bs), .map (some bt), .int .i64 (n : Int), .bool false] :: Qs) from h); have hw : IntKind.u64.wrap ((i1 : Int) + 1) = (i1 : Int) + 1 := u64_wrapG (by omega) (by omega); have HKI : ∀ (dn : Nat → Bool) (xv : Nat → Value) (W : World), (if dn 10 = true then Sep w0 W (Ce g 34 #[a0, a1, .int .u64 (i0 : Int), .int .u64 ((i1 : Int) + 1), .int .u64 (n0 : Int), .int .u64 (n1 : Int), v0, v1, .map (some bs), .map (some bt), .int .i64 (n : Int), .bool false] :: Qs) else Sep w0 W (Ce g 34 #[a0, a1, .int .u64 (i0 : Int), .int .u64 (i1 : Int), .int .u64 (n0 : Int), .int .u64 (n1 : Int), v0, v1, .map (some bs), .map (some bt), .int .i64 (n : Int), .bool false] :: Qs)) → dn 10 = false → W.cell? ⟨g, 3, none⟩ = some (.int .u64 (i1 : Int)) := fun dn xv W h h0 => by
  rw [if_neg (by simp [h0])] at h; exact cA (i := 0) h rfl 3 rfl
 clear h; go_enter Try.func30, Try.ntmps30
 go_wp2_with fail
 refine wRG (fun dn xv W => if dn 10 = true then Sep w0 W (Ce g 34 #[a0, a1, .int .u64 (i0 : Int), .int .u64 ((i1 : Int) + 1), .int .u64 (n0 : Int), .int .u64 (n1 : Int), v0, v1, .map (some bs), .map (some bt), .int .i64 (n : Int), .bool false] :: Qs) else Sep w0 W (Ce g 34 #[a0, a1, .int .u64 (i0 : Int), .int .u64 (i1 : Int), .int .u64 (n0 : Int), .int .u64 (n1 : Int), v0, v1, .map (some bs), .map (some bt), .int .i64 (n : Int), .bool false] :: Qs)) (fun _ _ => True) [xP_ g 0, xV_ (.int .i64 1), xP_ g 0, xP_ g 2, xP_ g 3, xV_ (.int .u64 (i1 : Int)), xV_ (.int .u64 ((i1 : Int) + 1)), xP_ g 0, xP_ g 2, xP_ g 3, fun v _ => True] (fun xv => by simpa using HS0.out.drew) ?_ ?_
 ·refine Ep 1 0 g 0 ?_
  refine Ei 2 1 (.int .i64 1) ?_
  refine Ee 3 6 0 ?_
  refine Ee 4 8 2 ?_
  refine Eee 5 7 1 9 3 ?_
  refine EC 6 rfl (fun g h W F a b c d e H K f => ?_) ?_
  ·have f10 := gE (a 10) (by kernel_rfl) (H 4) (by kernel_rfl); have k0_3 := HKI g h W e (c 10 (uM 6 uE)); clear H c b d a; refine oP rfl ?_; go_simp; exact f.out _ _ rfl trivial e
  refine Ee 7 11 5 ?_
  refine Ee 8 6 0 ?_
  refine Ee 9 13 7 ?_
  refine Eee 10 7 1 14 8 ?_
  refine EC 11 rfl (fun h j W F a b c d e H K f => ?_) ?_
  ·have f12 := gE (a 12) (by kernel_rfl) (H 6) (by kernel_rfl); have f15 := gE (a 15) (by kernel_rfl) (H 9) (by kernel_rfl); rw [if_neg (by simp [b])] at e; have hS := e; clear e c b d a H; refine oP rfl ?_; have yy := cFz (i := 0) hS rfl 3; have kk := cA (i := 0) hS rfl 3 rfl; have hs : Sep w0 (W.setCell ⟨g, 3, none⟩ (.int .u64 ((i1 : Int) + 1))) (Ce g 34 #[a0, a1, .int .u64 (i0 : Int), .int .u64 ((i1 : Int) + 1), .int .u64 (n0 : Int), .int .u64 (n1 : Int), v0, v1, .map (some bs), .map (some bt), .int .i64 (n : Int), .bool false] :: Qs) := cS (i := 0) hS rfl 3 (.int .u64 ((i1 : Int) + 1)); go_simp; exact f.out undef _ trivial trivial (by simpa [upB, upd] using hs)
  exact EN
 ·intro dn xv W hI H; have qe : dn 10 = true := (H 10 (of_decide_eq_true (by kernel_rfl))).1; rw [if_pos qe] at hI; have hS := hI; clear H hI qe; simp only [putAll, Act.put, List.setIfInBounds_toArray, List.set_cons_zero, List.set_cons_succ, Nat.reduceAdd]; have HS1 := Lib.hid (show Sep w0 W (Ce g 34 #[a0, a1, .int .u64 (i0 : Int), .int .u64 ((i1 + 1 : Nat) : Int), .int .u64 (n0 : Int), .int .u64 (n1 : Int), v0, v1, .map (some bs), .map (some bt), .int .i64 (n : Int), .bool false] :: Qs) from hS); clear hS HKI hw HS0; have k0 := cA (i := 0) HS1.out rfl 3 rfl
  go_wp2_with fail
  refine (newLink_any _ 2 (i1 + 1) 1 (by omega) (by omega) (by omega) hi (by omega) (by omega) (by omega)).mono ?_; rintro e w2 ⟨a, rfl, ha, hc, hb⟩; have HS2 := Lib.hid (sep_boxNil ((HS1.out.add (F := fun k => k = a) hb ⟨hc, fun k => Iff.rfl⟩ (Ce.loc _ _ _) (fun k hk => by rw [hk]; exact ha)).lastFront)); have y0 := cFz (i := 2) HS2.out rfl 1; have k0 := cA (i := 2) HS2.out rfl 1 rfl; have HS3 := Lib.hid (cS (i := 2) HS2.out rfl 1 (.pointer (some ⟨a, 0, none⟩))); clear HS1 hc hb ha
  go_wp2_with fail
  go_end0
  refine ⟨rfl, a, ?_⟩; exact ((HS3.out.tF 1 rfl).tF 2 rfl)
end Go.Proofs.Ytngegjboenfmeaa
/- The pair of one of two links. -/
namespace Go.Proofs.Ytngegjboenfmeaa
open Go Go.RowKit Go.Shelf
set_option linter.unusedVariables false
set_option maxRecDepth 100000
set_option linter.unusedSimpArgs false

set_option maxHeartbeats 3200000 in
theorem of0 (w : World) {g i0 i1 n0 n1 bs bt n a0 a1 : Nat} {v0 v1 : Value} (hg : w.heap[g]? = some (.cells (twC (.pointer (some ⟨a0, 0, none⟩)) (.pointer (some ⟨a1, 0, none⟩)) i0 i1 n0 n1 v0 v1 bs bt n) 34 (0, 0)))
  {base : Nat} {bx : Value} {got : Nat} {sn : Int} {si : Nat} {peer : Int} {conn inc known : Nat} {up : Bool} {heard sent : Nat} (hl : w.heap[a0]? = some (.cells (lkCells base bx got sn si peer conn inc known up heard sent) 72 (0, 0))) (hsn : sn ≠ 0) :
  Calls Try.prog 28 #[.pointer (some ⟨g, 0, none⟩), .int .i64 0] w fun e w' => e = .returned (prV (0, i0, conn, inc, known)) ∧ Below w.heap.size w w' := by
 have HG := Lib.hid (lt_of_heap hg); have HA := Lib.hid (lt_of_heap hl); have HL := Lib.hid hl; have HSN := Lib.hid hsn; have HC0 : Hid (w.cell? ⟨g, 0, none⟩ = some (.pointer (some ⟨a0, 0, none⟩))) := Lib.hid (by rw [cell_of_row w g 0 _ _ _ hg]; rfl); have HC2 : Hid (w.cell? ⟨g, 2, none⟩ = some (.int .u64 (i0 : Int))) := Lib.hid (by rw [cell_of_row w g 2 _ _ _ hg]; rfl); have HS0 := Lib.hid (show Sep w (w.alloc (.cells #[.int .i64 0, .int .u64 0, .int .u64 0, .int .u64 0, .int .u64 0] 81)) [Ce w.heap.size 81 #[.int .i64 0, .int .u64 0, .int .u64 0, .int .u64 0, .int .u64 0]] from sep_ce (Sep.nil w) _ _); have HB : ∀ (dn : Nat → Bool) (xv : Nat → Value) (W : World), (if dn 18 = true then Sep w W [Ce w.heap.size 81 #[.int .i64 0, .int .u64 (i0 : Int), .int .u64 (conn : Int), .int .u64 (inc : Int), .int .u64 (known : Int)]] else Sep w W [Ce w.heap.size 81 #[.int .i64 0, .int .u64 0, .int .u64 0, .int .u64 0, .int .u64 0]]) → Below w.heap.size w W := fun dn xv W h => by
  split at h <;> exact h.bel
 clear hg hl hsn; go_enter Try.func28, Try.ntmps28; have k0 := (HS0.out.bel.cell (p := ⟨g, 0, none⟩) HG.out).trans HC0.out
 go_wp2_with fail
 refine (conns_any _ a0 base bx got sn si peer conn inc known up heard sent HSN.out ((HS0.out.bel.block a0 HA.out).trans HL.out)).mono ?_; rintro e w1 ⟨rfl, hb⟩; have HS1 := Lib.hid (HS0.out.grow hb); clear HS0 k0 hb
 go_wp2_with fail
 refine wRG (fun dn xv W => if dn 18 = true then Sep w W [Ce w.heap.size 81 #[.int .i64 0, .int .u64 (i0 : Int), .int .u64 (conn : Int), .int .u64 (inc : Int), .int .u64 (known : Int)]] else Sep w W [Ce w.heap.size 81 #[.int .i64 0, .int .u64 0, .int .u64 0, .int .u64 0, .int .u64 0]]) (fun _ _ => True) [xV_ (.int .i64 0), xP_ g 0, xV_ (.int .i64 0), xP_ g 0, xP_ g 2, xP_ g 2, xV_ (.int .u64 (i0 : Int)), xV_ (.int .u64 (conn : Int)), xP_ g 0, xV_ (.int .i64 0), xP_ g 0, xP_ g 0, xP_ g 0, xP_ a0 0, xV_ (.agg #[.int .i64 peer, .int .u64 (inc : Int)]), xV_ (.int .u64 (inc : Int)), xV_ (.int .u64 (known : Int)), xV_ (.agg #[.int .i64 0, .int .u64 (i0 : Int), .int .u64 (conn : Int), .int .u64 (inc : Int), .int .u64 (known : Int)]), fun v _ => True] (fun xv => by simpa using HS1.out.drew) ?_ ?_
 ·refine Ei 1 1 (.int .i64 0) ?_
  refine Ep 2 0 g 0 ?_
  refine Ei 3 1 (.int .i64 0) ?_
  refine Ee 4 18 1 ?_
  refine Ee 5 20 3 ?_
  refine Eee 6 19 2 21 4 ?_
  refine EC 7 rfl (fun h i W F a b c d e H K f => ?_) ?_
  ·have f22 := gE (a 22) (by kernel_rfl) (H 5) (by kernel_rfl); have hB := HB h i W e; have k2 := (hB.cell (p := ⟨g, 2, none⟩) HG.out).trans HC2.out; clear H c b d a; refine oP rfl ?_; go_simp; exact f.out _ _ rfl trivial e
  refine Ei 8 5 (.int .u64 (conn : Int)) ?_
  refine Ep 9 0 g 0 ?_
  refine Ei 10 1 (.int .i64 0) ?_
  refine Ee 11 25 8 ?_
  refine Ee 12 27 10 ?_
  refine Eee 13 26 9 28 11 ?_
  refine EC 14 rfl (fun h i W F a b c d e H K f => ?_) ?_
  ·have f29 := gE (a 29) (by kernel_rfl) (H 12) (by kernel_rfl); have hB := HB h i W e; have k0 := (hB.cell (p := ⟨g, 0, none⟩) HG.out).trans HC0.out; clear H c b d a; refine oP rfl ?_; go_simp; exact f.out _ _ rfl trivial e
  refine EC 15 rfl (fun h i W F a b c d f H K g => ?_) ?_
  ·have f30 := gE (a 30) (by kernel_rfl) (H 13) (by kernel_rfl); have hB := HB h i W f; have q18 := c 18 (uM 17 (uM 15 uE)); have hS : Sep w W [Ce w.heap.size 81 #[.int .i64 0, .int .u64 0, .int .u64 0, .int .u64 0, .int .u64 0]] := by simpa [q18] using f
   clear H c b d a; refine oP rfl ?_; go_simp; refine (peer_any W a0 base bx got sn si peer conn inc known up heard sent HSN.out ((hB.block a0 HA.out).trans HL.out)).mono ?_; rintro e W' ⟨rfl, hb⟩; have hs : Sep w W' [Ce w.heap.size 81 #[.int .i64 0, .int .u64 0, .int .u64 0, .int .u64 0, .int .u64 0]] := hS.grow hb; exact g.out _ W' rfl trivial (by simpa [upB, upd, q18] using hs)
  refine Ee 16 31 14 ?_
  refine Ei 17 6 (.int .u64 (known : Int)) ?_
  refine EC 18 rfl (fun g h W F a b c d e H K f => ?_) ?_
  ·have f17 := gE (a 17) (by kernel_rfl) (H 0) (by kernel_rfl); have f23 := gE (a 23) (by kernel_rfl) (H 6) (by kernel_rfl); have f24 := gE (a 24) (by kernel_rfl) (H 7) (by kernel_rfl); have f32 := gE (a 32) (by kernel_rfl) (H 15) (by kernel_rfl); have f33 := gE (a 33) (by kernel_rfl) (H 16) (by kernel_rfl); clear H c b d a; refine oP rfl ?_; have g17 := f17; have g23 := f23; have g24 := f24; have g32 := f32; have g33 := f33; rw [Array.getD_eq_getD_getElem?] at g17 g23 g24 g32 g33; go_simp; exact f.out _ _ rfl trivial e
  refine EC 19 rfl (fun g h W F a b c d e H K f => ?_) ?_
  ·have f4 : F.tmps.getD 4 undef = .pointer (some ⟨w.heap.size, 0, none⟩) := (a 4).trans (by kernel_rfl); have f34 := gE (a 34) (by kernel_rfl) (H 17) (by kernel_rfl); rw [if_neg (by simp [b])] at e; have hS := e; clear e c b d a H; refine oP rfl ?_; have hs := cS (i := 0) (cS (i := 0) (cS (i := 0) (cS (i := 0) (cS (i := 0) hS rfl 0 (.int .i64 0)) rfl 1 (.int .u64 (i0 : Int))) rfl 2 (.int .u64 (conn : Int))) rfl 3 (.int .u64 (inc : Int))) rfl 4 (.int .u64 (known : Int)); have y0 := cFz (i := 0) hS rfl 0; have y1 := cFz (i := 0) hS rfl 1; have y2 := cFz (i := 0) hS rfl 2; have y3 := cFz (i := 0) hS rfl 3; have y4 := cFz (i := 0) hS rfl 4; have z0 := cA (i := 0) hS rfl 0 rfl; have z1 := cA (i := 0) hS rfl 1 rfl; have z2 := cA (i := 0) hS rfl 2 rfl; have z3 := cA (i := 0) hS rfl 3 rfl; have z4 := cA (i := 0) hS rfl 4 rfl; have hs : Sep w (((((W.setCell ⟨w.heap.size, 0, none⟩ (.int .i64 0)).setCell ⟨w.heap.size, 1, none⟩ (.int .u64 (i0 : Int))).setCell ⟨w.heap.size, 2, none⟩ (.int .u64 (conn : Int))).setCell ⟨w.heap.size, 3, none⟩ (.int .u64 (inc : Int))).setCell ⟨w.heap.size, 4, none⟩ (.int .u64 (known : Int))) [Ce w.heap.size 81 #[.int .i64 0, .int .u64 (i0 : Int), .int .u64 (conn : Int), .int .u64 (inc : Int), .int .u64 (known : Int)]] := hs; go_simp; exact f.out undef _ trivial trivial (by simpa [upB, upd] using hs)
  exact EN
 ·intro dn xv W hI H; have qe : dn 18 = true := (H 18 (of_decide_eq_true (by kernel_rfl))).1; rw [if_pos qe] at hI; have hS := hI; clear H hI qe; simp only [putAll, Act.put, List.setIfInBounds_toArray, List.set_cons_zero, List.set_cons_succ, Nat.reduceAdd]; have HS2 := Lib.hid hS; clear hS HS1
  go_wp2_with fail
  have k0 := cA (i := 0) HS2.out rfl 0 rfl; have k1 := cA (i := 0) HS2.out rfl 1 rfl; have k2 := cA (i := 0) HS2.out rfl 2 rfl; have k3 := cA (i := 0) HS2.out rfl 3 rfl; have k4 := cA (i := 0) HS2.out rfl 4 rfl; refine bodyPost_ret (v := .agg #[.int .i64 0, .int .u64 (i0 : Int), .int .u64 (conn : Int), .int .u64 (inc : Int), .int .u64 (known : Int)]) (by simp [results, Try.results28, go_sem, k0, k1, k2, k3, k4]) rfl ?_; exact ⟨rfl, HS2.out.bel⟩
set_option maxHeartbeats 3200000 in
theorem of1 (w : World) {g i0 i1 n0 n1 bs bt n a0 a1 : Nat} {v0 v1 : Value} (hg : w.heap[g]? = some (.cells (twC (.pointer (some ⟨a0, 0, none⟩)) (.pointer (some ⟨a1, 0, none⟩)) i0 i1 n0 n1 v0 v1 bs bt n) 34 (0, 0)))
  {base : Nat} {bx : Value} {got : Nat} {sn : Int} {si : Nat} {peer : Int} {conn inc known : Nat} {up : Bool} {heard sent : Nat} (hl : w.heap[a1]? = some (.cells (lkCells base bx got sn si peer conn inc known up heard sent) 72 (0, 0))) (hsn : sn ≠ 0) :
  Calls Try.prog 28 #[.pointer (some ⟨g, 0, none⟩), .int .i64 1] w fun e w' => e = .returned (prV (1, i1, conn, inc, known)) ∧ Below w.heap.size w w' := by
 have HG := Lib.hid (lt_of_heap hg); have HA := Lib.hid (lt_of_heap hl); have HL := Lib.hid hl; have HSN := Lib.hid hsn; have HC1 : Hid (w.cell? ⟨g, 1, none⟩ = some (.pointer (some ⟨a1, 0, none⟩))) := Lib.hid (by rw [cell_of_row w g 1 _ _ _ hg]; rfl); have HC3 : Hid (w.cell? ⟨g, 3, none⟩ = some (.int .u64 (i1 : Int))) := Lib.hid (by rw [cell_of_row w g 3 _ _ _ hg]; rfl); have HS0 := Lib.hid (show Sep w (w.alloc (.cells #[.int .i64 0, .int .u64 0, .int .u64 0, .int .u64 0, .int .u64 0] 81)) [Ce w.heap.size 81 #[.int .i64 0, .int .u64 0, .int .u64 0, .int .u64 0, .int .u64 0]] from sep_ce (Sep.nil w) _ _); have HB : ∀ (dn : Nat → Bool) (xv : Nat → Value) (W : World), (if dn 18 = true then Sep w W [Ce w.heap.size 81 #[.int .i64 1, .int .u64 (i1 : Int), .int .u64 (conn : Int), .int .u64 (inc : Int), .int .u64 (known : Int)]] else Sep w W [Ce w.heap.size 81 #[.int .i64 0, .int .u64 0, .int .u64 0, .int .u64 0, .int .u64 0]]) → Below w.heap.size w W := fun dn xv W h => by
  split at h <;> exact h.bel
 clear hg hl hsn; go_enter Try.func28, Try.ntmps28; have k0 := (HS0.out.bel.cell (p := ⟨g, 1, none⟩) HG.out).trans HC1.out
 go_wp2_with fail
 refine (conns_any _ a1 base bx got sn si peer conn inc known up heard sent HSN.out ((HS0.out.bel.block a1 HA.out).trans HL.out)).mono ?_; rintro e w1 ⟨rfl, hb⟩; have HS1 := Lib.hid (HS0.out.grow hb); clear HS0 k0 hb
 go_wp2_with fail
 refine wRG (fun dn xv W => if dn 18 = true then Sep w W [Ce w.heap.size 81 #[.int .i64 1, .int .u64 (i1 : Int), .int .u64 (conn : Int), .int .u64 (inc : Int), .int .u64 (known : Int)]] else Sep w W [Ce w.heap.size 81 #[.int .i64 0, .int .u64 0, .int .u64 0, .int .u64 0, .int .u64 0]]) (fun _ _ => True) [xV_ (.int .i64 1), xP_ g 0, xV_ (.int .i64 1), xP_ g 0, xP_ g 2, xP_ g 3, xV_ (.int .u64 (i1 : Int)), xV_ (.int .u64 (conn : Int)), xP_ g 0, xV_ (.int .i64 1), xP_ g 0, xP_ g 0, xP_ g 1, xP_ a1 0, xV_ (.agg #[.int .i64 peer, .int .u64 (inc : Int)]), xV_ (.int .u64 (inc : Int)), xV_ (.int .u64 (known : Int)), xV_ (.agg #[.int .i64 1, .int .u64 (i1 : Int), .int .u64 (conn : Int), .int .u64 (inc : Int), .int .u64 (known : Int)]), fun v _ => True] (fun xv => by simpa using HS1.out.drew) ?_ ?_
 ·refine Ei 1 1 (.int .i64 1) ?_
  refine Ep 2 0 g 0 ?_
  refine Ei 3 1 (.int .i64 1) ?_
  refine Ee 4 18 1 ?_
  refine Ee 5 20 3 ?_
  refine Eee 6 19 2 21 4 ?_
  refine EC 7 rfl (fun h i W F a b c d e H K f => ?_) ?_
  ·have f22 := gE (a 22) (by kernel_rfl) (H 5) (by kernel_rfl); have hB := HB h i W e; have k3 := (hB.cell (p := ⟨g, 3, none⟩) HG.out).trans HC3.out; clear H c b d a; refine oP rfl ?_; go_simp; exact f.out _ _ rfl trivial e
  refine Ei 8 5 (.int .u64 (conn : Int)) ?_
  refine Ep 9 0 g 0 ?_
  refine Ei 10 1 (.int .i64 1) ?_
  refine Ee 11 25 8 ?_
  refine Ee 12 27 10 ?_
  refine Eee 13 26 9 28 11 ?_
  refine EC 14 rfl (fun h i W F a b c d e H K f => ?_) ?_
  ·have f29 := gE (a 29) (by kernel_rfl) (H 12) (by kernel_rfl); have hB := HB h i W e; have k1 := (hB.cell (p := ⟨g, 1, none⟩) HG.out).trans HC1.out; clear H c b d a; refine oP rfl ?_; go_simp; exact f.out _ _ rfl trivial e
  refine EC 15 rfl (fun h i W F a b c d f H K g => ?_) ?_
  ·have f30 := gE (a 30) (by kernel_rfl) (H 13) (by kernel_rfl); have hB := HB h i W f; have q18 := c 18 (uM 17 (uM 15 uE)); have hS : Sep w W [Ce w.heap.size 81 #[.int .i64 0, .int .u64 0, .int .u64 0, .int .u64 0, .int .u64 0]] := by simpa [q18] using f
   clear H c b d a; refine oP rfl ?_; go_simp; refine (peer_any W a1 base bx got sn si peer conn inc known up heard sent HSN.out ((hB.block a1 HA.out).trans HL.out)).mono ?_; rintro e W' ⟨rfl, hb⟩; have hs : Sep w W' [Ce w.heap.size 81 #[.int .i64 0, .int .u64 0, .int .u64 0, .int .u64 0, .int .u64 0]] := hS.grow hb; exact g.out _ W' rfl trivial (by simpa [upB, upd, q18] using hs)
  refine Ee 16 31 14 ?_
  refine Ei 17 6 (.int .u64 (known : Int)) ?_
  refine EC 18 rfl (fun g h W F a b c d e H K f => ?_) ?_
  ·have f17 := gE (a 17) (by kernel_rfl) (H 0) (by kernel_rfl); have f23 := gE (a 23) (by kernel_rfl) (H 6) (by kernel_rfl); have f24 := gE (a 24) (by kernel_rfl) (H 7) (by kernel_rfl); have f32 := gE (a 32) (by kernel_rfl) (H 15) (by kernel_rfl); have f33 := gE (a 33) (by kernel_rfl) (H 16) (by kernel_rfl); clear H c b d a; refine oP rfl ?_; have g17 := f17; have g23 := f23; have g24 := f24; have g32 := f32; have g33 := f33; rw [Array.getD_eq_getD_getElem?] at g17 g23 g24 g32 g33; go_simp; exact f.out _ _ rfl trivial e
  refine EC 19 rfl (fun g h W F a b c d e H K f => ?_) ?_
  ·have f4 : F.tmps.getD 4 undef = .pointer (some ⟨w.heap.size, 0, none⟩) := (a 4).trans (by kernel_rfl); have f34 := gE (a 34) (by kernel_rfl) (H 17) (by kernel_rfl); rw [if_neg (by simp [b])] at e; have hS := e; clear e c b d a H; refine oP rfl ?_; have hs := cS (i := 0) (cS (i := 0) (cS (i := 0) (cS (i := 0) (cS (i := 0) hS rfl 0 (.int .i64 1)) rfl 1 (.int .u64 (i1 : Int))) rfl 2 (.int .u64 (conn : Int))) rfl 3 (.int .u64 (inc : Int))) rfl 4 (.int .u64 (known : Int)); have y0 := cFz (i := 0) hS rfl 0; have y1 := cFz (i := 0) hS rfl 1; have y2 := cFz (i := 0) hS rfl 2; have y3 := cFz (i := 0) hS rfl 3; have y4 := cFz (i := 0) hS rfl 4; have z0 := cA (i := 0) hS rfl 0 rfl; have z1 := cA (i := 0) hS rfl 1 rfl; have z2 := cA (i := 0) hS rfl 2 rfl; have z3 := cA (i := 0) hS rfl 3 rfl; have z4 := cA (i := 0) hS rfl 4 rfl; have hs : Sep w (((((W.setCell ⟨w.heap.size, 0, none⟩ (.int .i64 1)).setCell ⟨w.heap.size, 1, none⟩ (.int .u64 (i1 : Int))).setCell ⟨w.heap.size, 2, none⟩ (.int .u64 (conn : Int))).setCell ⟨w.heap.size, 3, none⟩ (.int .u64 (inc : Int))).setCell ⟨w.heap.size, 4, none⟩ (.int .u64 (known : Int))) [Ce w.heap.size 81 #[.int .i64 1, .int .u64 (i1 : Int), .int .u64 (conn : Int), .int .u64 (inc : Int), .int .u64 (known : Int)]] := hs; go_simp; exact f.out undef _ trivial trivial (by simpa [upB, upd] using hs)
  exact EN
 ·intro dn xv W hI H; have qe : dn 18 = true := (H 18 (of_decide_eq_true (by kernel_rfl))).1; rw [if_pos qe] at hI; have hS := hI; clear H hI qe; simp only [putAll, Act.put, List.setIfInBounds_toArray, List.set_cons_zero, List.set_cons_succ, Nat.reduceAdd]; have HS2 := Lib.hid hS; clear hS HS1
  go_wp2_with fail
  have k0 := cA (i := 0) HS2.out rfl 0 rfl; have k1 := cA (i := 0) HS2.out rfl 1 rfl; have k2 := cA (i := 0) HS2.out rfl 2 rfl; have k3 := cA (i := 0) HS2.out rfl 3 rfl; have k4 := cA (i := 0) HS2.out rfl 4 rfl; refine bodyPost_ret (v := .agg #[.int .i64 1, .int .u64 (i1 : Int), .int .u64 (conn : Int), .int .u64 (inc : Int), .int .u64 (known : Int)]) (by simp [results, Try.results28, go_sem, k0, k1, k2, k3, k4]) rfl ?_; exact ⟨rfl, HS2.out.bel⟩
end Go.Proofs.Ytngegjboenfmeaa
/- Frames go on their way, bodies are told: answer of two links' harness. -/
namespace Go.Proofs.Ytngegjboenfmeaa
open Go Go.RowKit Go.Shelf
set_option linter.unusedVariables false
set_option maxRecDepth 100000
set_option linter.unusedSimpArgs false

theorem rH {w0 w : World} {Ps : List SP} {i : Nat} {e : TypeId} {size n c : Nat} {A : Option Addr} {xs : List Value} (h : Sep w0 w Ps) (hi : Ps[i]? = some (Rw e size (.slice A n c) n xs)) : Has w w.heap.size A xs := by
 obtain ⟨A', c', e, _, _, hh⟩ := sep_rwForm h hi; simp only [Value.slice.injEq] at e; rw [e.1]; exact hh
theorem hK4 {w : World} {B b o j : Nat} {xs : List Value} {u : Value} (h : Has w B (some ⟨b, o, none⟩) xs) (hj : xs[j]? = some u) : w.cell? ⟨b, o + j, none⟩ = some u := by
 obtain ⟨b', o', e, _, hc⟩ := h j u hj; injection e with e; injection e with e1 e2; rw [e1, e2]; exact hc
theorem flat_at {α β : Type} {f : α → List β} {n : Nat} (hf : ∀ a, (f a).length = n) : ∀ (L : List α) (k : Nat) (a : α) (r : Nat), L[k]? = some a → r < n → (L.flatMap f)[k * n + r]? = (f a)[r]?
 | [], k, a, r, h, _ => by simp at h
 | x :: L, 0, a, r, h, hr => by
  simp only [List.getElem?_cons_zero, Option.some.injEq] at h; subst h; rw [List.flatMap_cons, Nat.zero_mul, Nat.zero_add, List.getElem?_append_left (by rw [hf]; exact hr)]
 | x :: L, k + 1, a, r, h, hr => by
  simp only [List.getElem?_cons_succ] at h; rw [List.flatMap_cons, List.getElem?_append_right (by rw [hf, Nat.add_mul]; omega), hf, show (k + 1) * n + r - n = k * n + r by rw [Nat.add_mul]; omega]; exact flat_at hf L k a r h hr
theorem evRow_at {LE : List (Ev × Value)} {k : Nat} {p : Ev × Value} {r : Nat} {v : Value} (h : LE[k]? = some p) (hr : r < 4) (hv : (p.1.cellsV p.2).toList[r]? = some v := by rfl) : (eR_ LE)[k * 4 + r]? = some v := by
 rw [eR_, flat_at (n := 4) (fun _ => rfl) LE k p r h hr]; exact hv
theorem tellE_len (q : Pr) : ∀ (E : List Ev) (t : Pr → List (List UInt8)) (p : Pr), (tellE t q E p).length ≤ (t p).length + E.length
 | [], t, p => Nat.le_refl _
 | e :: E, t, p => by
  have h := tellE_len q E (if e.kind = 3 then updM t q (t q ++ [e.body]) else t) p; refine Nat.le_trans h ?_; split
  ·unfold updM; split
   ·rename_i h1; subst h1; simp only [List.length_append, List.length_cons, List.length_nil]; omega
   ·simp only [List.length_cons]; omega
  ·simp only [List.length_cons]; omega
set_option maxHeartbeats 6400000 in
theorem answer0 {w0 w : World} {Qs : List SP} {g a0 a1 i0 i1 n0 n1 bs bt n : Nat} {v0 v1 vA vF vE : Value} {m : Nat} {xs : List Value} {LE : List (Ev × Value)} {base : Nat} {bx : Value} {got : Nat} {sn : Int} {si : Nat} {peer : Int} {conn inc known : Nat} {up : Bool} {heard sent nw : Nat} {ys : List Value} {told : Pr → List (List UInt8)}
  (h : Sep w0 w (Rw 51 10 vF m xs :: Rw 49 4 vE LE.length (eR_ LE) :: Bods (eB_ LE) :: Ce g 34 (twC (.pointer (some ⟨a0, 0, none⟩)) (.pointer (some ⟨a1, 0, none⟩)) i0 i1 n0 n1 v0 vA bs bt n) :: Ce a0 72 (lkCells base bx got sn si peer conn inc known up heard sent) :: RwO 51 10 vA nw ys :: MapT bt told :: Qs))
  (hx1 : ∀ u ∈ xs, u.oneCell' = true) (hsn : sn ≠ 0) (hq : prOk (1, inc, known, i0, conn)) (hnw : nw + m ≤ 1000000000000) (hmE : LE.length ≤ 1000000000) (htl : ∀ p, (told p).length + LE.length ≤ 1000000000000) :
  Calls Try.prog 31 #[.pointer (some ⟨g, 0, none⟩), .int .i64 0, .agg #[vF, vE]] w fun e w' => e = .returned (.tuple #[]) ∧ ∃ v',
   Sep w0 w' (Ce g 34 (twC (.pointer (some ⟨a0, 0, none⟩)) (.pointer (some ⟨a1, 0, none⟩)) i0 i1 n0 n1 v0 v' bs bt n) :: Ce a0 72 (lkCells base bx got sn si peer conn inc known up heard sent) :: RwO 51 10 v' (nw + m) (ys ++ xs) :: MapT bt (tellE told (1, inc, known, i0, conn) (LE.map Prod.fst)) :: Qs) := by
 obtain ⟨AF, cF, rfl, hcF, hcF2, _⟩ := sep_rwForm (i := 0) h rfl; obtain ⟨AE, cE, rfl, hcE, hcE2, hasE⟩ := sep_rwForm (i := 1) h rfl; obtain ⟨AV, cV, rfl, hcV, hcV2, _⟩ := sep_rwoForm (i := 5) h rfl; have HLX : Hid (xs.length = m * 10) := Lib.hid (by obtain ⟨F, q, _⟩ := h.get (i := 0) rfl; exact q.1); have HX1 := Lib.hid hx1; have HSN := Lib.hid hsn; have HQ := Lib.hid hq; have HTT := Lib.hid htl; obtain ⟨mE, HmE⟩ : ∃ x, Hid (LE.length = x) := ⟨_, Lib.hid rfl⟩; rw [HmE.out] at h hcE hmE; have HS0 := Lib.hid (show Sep w0 (w.alloc (.cells #[.slice AF m cF, .slice AE mE cE] 43)) (Ce (w.heap.size) 43 #[.slice AF m cF, .slice AE mE cE] :: Rw 51 10 (.slice AF m cF) m xs :: Rw 49 4 (.slice AE mE cE) mE (eR_ LE) :: Bods (eB_ LE) :: Ce g 34 #[.pointer (some ⟨a0, 0, none⟩), .pointer (some ⟨a1, 0, none⟩), .int .u64 (i0 : Int), .int .u64 (i1 : Int), .int .u64 (n0 : Int), .int .u64 (n1 : Int), v0, .slice AV nw cV, .map (some bs), .map (some bt), .int .i64 (n : Int), .bool false] :: Ce a0 72 #[.int .u64 (base : Int), bx, .int .u64 (got : Int), .int .i64 sn, .int .u64 (si : Int), .int .i64 peer, .int .u64 (conn : Int), .int .u64 (inc : Int), .int .u64 (known : Int), .bool up, .int .u64 (heard : Int), .int .u64 (sent : Int)] :: RwO 51 10 (.slice AV nw cV) nw ys :: MapT bt told :: Qs) from sep_ceF h _ _); have HKV : ∀ (dn : Nat → Bool) (xv : Nat → Value) (W : World), (if dn 16 = true then ∃ v, Sep w0 W (Ce (w.heap.size) 43 #[.slice AF m cF, .slice AE mE cE] :: Rw 51 10 (.slice AF m cF) m xs :: Rw 49 4 (.slice AE mE cE) mE (eR_ LE) :: Bods (eB_ LE) :: Ce g 34 #[.pointer (some ⟨a0, 0, none⟩), .pointer (some ⟨a1, 0, none⟩), .int .u64 (i0 : Int), .int .u64 (i1 : Int), .int .u64 (n0 : Int), .int .u64 (n1 : Int), v0, v, .map (some bs), .map (some bt), .int .i64 (n : Int), .bool false] :: Ce a0 72 #[.int .u64 (base : Int), bx, .int .u64 (got : Int), .int .i64 sn, .int .u64 (si : Int), .int .i64 peer, .int .u64 (conn : Int), .int .u64 (inc : Int), .int .u64 (known : Int), .bool up, .int .u64 (heard : Int), .int .u64 (sent : Int)] :: RwO 51 10 v (nw + m) (ys ++ xs) :: MapT bt told :: Qs) else if dn 12 = true then Sep w0 W (Ce (w.heap.size) 43 #[.slice AF m cF, .slice AE mE cE] :: Rw 51 10 (.slice AF m cF) m xs :: Rw 49 4 (.slice AE mE cE) mE (eR_ LE) :: Bods (eB_ LE) :: Ce g 34 #[.pointer (some ⟨a0, 0, none⟩), .pointer (some ⟨a1, 0, none⟩), .int .u64 (i0 : Int), .int .u64 (i1 : Int), .int .u64 (n0 : Int), .int .u64 (n1 : Int), v0, .slice AV nw cV, .map (some bs), .map (some bt), .int .i64 (n : Int), .bool false] :: Ce a0 72 #[.int .u64 (base : Int), bx, .int .u64 (got : Int), .int .i64 sn, .int .u64 (si : Int), .int .i64 peer, .int .u64 (conn : Int), .int .u64 (inc : Int), .int .u64 (known : Int), .bool up, .int .u64 (heard : Int), .int .u64 (sent : Int)] :: RwO 51 10 (xv 12) (nw + m) (ys ++ xs) :: MapT bt told :: Qs) else Sep w0 W (Ce (w.heap.size) 43 #[.slice AF m cF, .slice AE mE cE] :: Rw 51 10 (.slice AF m cF) m xs :: Rw 49 4 (.slice AE mE cE) mE (eR_ LE) :: Bods (eB_ LE) :: Ce g 34 #[.pointer (some ⟨a0, 0, none⟩), .pointer (some ⟨a1, 0, none⟩), .int .u64 (i0 : Int), .int .u64 (i1 : Int), .int .u64 (n0 : Int), .int .u64 (n1 : Int), v0, .slice AV nw cV, .map (some bs), .map (some bt), .int .i64 (n : Int), .bool false] :: Ce a0 72 #[.int .u64 (base : Int), bx, .int .u64 (got : Int), .int .i64 sn, .int .u64 (si : Int), .int .i64 peer, .int .u64 (conn : Int), .int .u64 (inc : Int), .int .u64 (known : Int), .bool up, .int .u64 (heard : Int), .int .u64 (sent : Int)] :: RwO 51 10 (.slice AV nw cV) nw ys :: MapT bt told :: Qs)) → dn 16 = false → W.cell? ⟨g, 7, none⟩ = some (.slice AV nw cV) := fun dn xv W h h0 => by
  rw [if_neg (by simp [h0])] at h; split at h <;> exact cA (i := 4) h rfl 7 rfl
 have HKA : ∀ (dn : Nat → Bool) (xv : Nat → Value) (W : World), (if dn 16 = true then ∃ v, Sep w0 W (Ce (w.heap.size) 43 #[.slice AF m cF, .slice AE mE cE] :: Rw 51 10 (.slice AF m cF) m xs :: Rw 49 4 (.slice AE mE cE) mE (eR_ LE) :: Bods (eB_ LE) :: Ce g 34 #[.pointer (some ⟨a0, 0, none⟩), .pointer (some ⟨a1, 0, none⟩), .int .u64 (i0 : Int), .int .u64 (i1 : Int), .int .u64 (n0 : Int), .int .u64 (n1 : Int), v0, v, .map (some bs), .map (some bt), .int .i64 (n : Int), .bool false] :: Ce a0 72 #[.int .u64 (base : Int), bx, .int .u64 (got : Int), .int .i64 sn, .int .u64 (si : Int), .int .i64 peer, .int .u64 (conn : Int), .int .u64 (inc : Int), .int .u64 (known : Int), .bool up, .int .u64 (heard : Int), .int .u64 (sent : Int)] :: RwO 51 10 v (nw + m) (ys ++ xs) :: MapT bt told :: Qs) else if dn 12 = true then Sep w0 W (Ce (w.heap.size) 43 #[.slice AF m cF, .slice AE mE cE] :: Rw 51 10 (.slice AF m cF) m xs :: Rw 49 4 (.slice AE mE cE) mE (eR_ LE) :: Bods (eB_ LE) :: Ce g 34 #[.pointer (some ⟨a0, 0, none⟩), .pointer (some ⟨a1, 0, none⟩), .int .u64 (i0 : Int), .int .u64 (i1 : Int), .int .u64 (n0 : Int), .int .u64 (n1 : Int), v0, .slice AV nw cV, .map (some bs), .map (some bt), .int .i64 (n : Int), .bool false] :: Ce a0 72 #[.int .u64 (base : Int), bx, .int .u64 (got : Int), .int .i64 sn, .int .u64 (si : Int), .int .i64 peer, .int .u64 (conn : Int), .int .u64 (inc : Int), .int .u64 (known : Int), .bool up, .int .u64 (heard : Int), .int .u64 (sent : Int)] :: RwO 51 10 (xv 12) (nw + m) (ys ++ xs) :: MapT bt told :: Qs) else Sep w0 W (Ce (w.heap.size) 43 #[.slice AF m cF, .slice AE mE cE] :: Rw 51 10 (.slice AF m cF) m xs :: Rw 49 4 (.slice AE mE cE) mE (eR_ LE) :: Bods (eB_ LE) :: Ce g 34 #[.pointer (some ⟨a0, 0, none⟩), .pointer (some ⟨a1, 0, none⟩), .int .u64 (i0 : Int), .int .u64 (i1 : Int), .int .u64 (n0 : Int), .int .u64 (n1 : Int), v0, .slice AV nw cV, .map (some bs), .map (some bt), .int .i64 (n : Int), .bool false] :: Ce a0 72 #[.int .u64 (base : Int), bx, .int .u64 (got : Int), .int .i64 sn, .int .u64 (si : Int), .int .i64 peer, .int .u64 (conn : Int), .int .u64 (inc : Int), .int .u64 (known : Int), .bool up, .int .u64 (heard : Int), .int .u64 (sent : Int)] :: RwO 51 10 (.slice AV nw cV) nw ys :: MapT bt told :: Qs)) → W.cell? ⟨w.heap.size, 0, none⟩ = some (.slice AF m cF) := fun dn xv W h => by
  split at h
  ·obtain ⟨_, h⟩ := h; exact cA (i := 0) h rfl 0 rfl
  split at h <;> exact cA (i := 0) h rfl 0 rfl
 clear h hx1 hsn hq htl hasE; rw [HmE.out]; go_enter Try.func31, Try.ntmps31
 go_wp2_with fail
 refine wRG (fun dn xv W => if dn 16 = true then ∃ v, Sep w0 W (Ce (w.heap.size) 43 #[.slice AF m cF, .slice AE mE cE] :: Rw 51 10 (.slice AF m cF) m xs :: Rw 49 4 (.slice AE mE cE) mE (eR_ LE) :: Bods (eB_ LE) :: Ce g 34 #[.pointer (some ⟨a0, 0, none⟩), .pointer (some ⟨a1, 0, none⟩), .int .u64 (i0 : Int), .int .u64 (i1 : Int), .int .u64 (n0 : Int), .int .u64 (n1 : Int), v0, v, .map (some bs), .map (some bt), .int .i64 (n : Int), .bool false] :: Ce a0 72 #[.int .u64 (base : Int), bx, .int .u64 (got : Int), .int .i64 sn, .int .u64 (si : Int), .int .i64 peer, .int .u64 (conn : Int), .int .u64 (inc : Int), .int .u64 (known : Int), .bool up, .int .u64 (heard : Int), .int .u64 (sent : Int)] :: RwO 51 10 v (nw + m) (ys ++ xs) :: MapT bt told :: Qs) else if dn 12 = true then Sep w0 W (Ce (w.heap.size) 43 #[.slice AF m cF, .slice AE mE cE] :: Rw 51 10 (.slice AF m cF) m xs :: Rw 49 4 (.slice AE mE cE) mE (eR_ LE) :: Bods (eB_ LE) :: Ce g 34 #[.pointer (some ⟨a0, 0, none⟩), .pointer (some ⟨a1, 0, none⟩), .int .u64 (i0 : Int), .int .u64 (i1 : Int), .int .u64 (n0 : Int), .int .u64 (n1 : Int), v0, .slice AV nw cV, .map (some bs), .map (some bt), .int .i64 (n : Int), .bool false] :: Ce a0 72 #[.int .u64 (base : Int), bx, .int .u64 (got : Int), .int .i64 sn, .int .u64 (si : Int), .int .i64 peer, .int .u64 (conn : Int), .int .u64 (inc : Int), .int .u64 (known : Int), .bool up, .int .u64 (heard : Int), .int .u64 (sent : Int)] :: RwO 51 10 (xv 12) (nw + m) (ys ++ xs) :: MapT bt told :: Qs) else Sep w0 W (Ce (w.heap.size) 43 #[.slice AF m cF, .slice AE mE cE] :: Rw 51 10 (.slice AF m cF) m xs :: Rw 49 4 (.slice AE mE cE) mE (eR_ LE) :: Bods (eB_ LE) :: Ce g 34 #[.pointer (some ⟨a0, 0, none⟩), .pointer (some ⟨a1, 0, none⟩), .int .u64 (i0 : Int), .int .u64 (i1 : Int), .int .u64 (n0 : Int), .int .u64 (n1 : Int), v0, .slice AV nw cV, .map (some bs), .map (some bt), .int .i64 (n : Int), .bool false] :: Ce a0 72 #[.int .u64 (base : Int), bx, .int .u64 (got : Int), .int .i64 sn, .int .u64 (si : Int), .int .i64 peer, .int .u64 (conn : Int), .int .u64 (inc : Int), .int .u64 (known : Int), .bool up, .int .u64 (heard : Int), .int .u64 (sent : Int)] :: RwO 51 10 (.slice AV nw cV) nw ys :: MapT bt told :: Qs)) (fun _ _ => True) [xP_ g 0, xV_ (.int .i64 0), xV_ (.int .i64 1), xP_ g 0, xV_ (.int .i64 0), xV_ (.int .i64 1), xP_ g 0, xP_ g 6, xP_ g 7, xV_ (.slice AV nw cV), xP_ w.heap.size 0, xV_ (.slice AF m cF), fun v _ => True, xP_ g 0, xP_ g 6, xP_ g 7, fun v _ => True] (fun xv => by simpa using HS0.out.drew) ?_ ?_
 ·refine Ep 1 0 g 0 ?_
  refine Ei 2 1 (.int .i64 0) ?_
  refine Ee 3 10 1 ?_
  refine Ep 4 0 g 0 ?_
  refine Ei 5 1 (.int .i64 0) ?_
  refine Ee 6 13 4 ?_
  refine Ee 7 12 3 ?_
  refine Ee 8 15 6 ?_
  refine Eee 9 14 5 16 7 ?_
  refine EC 10 rfl (fun g h W F a b c d e H K f => ?_) ?_
  ·have f17 := gE (a 17) (by kernel_rfl) (H 8) (by kernel_rfl); have kk := HKV g h W e (c 16 (uM 12 uE)); clear H c b d a; refine oP rfl ?_; go_simp; exact f.out _ _ rfl trivial e
  refine Ep 11 5 w.heap.size 0 ?_
  refine Eek 12 19 10 (fun g h W e => HKA g h W e) ?_
  refine EC 13 rfl (fun h j W F a b c d e H K f => ?_) ?_
  ·have f18 := gE (a 18) (by kernel_rfl) (H 9) (by kernel_rfl); have f20 := gE (a 20) (by kernel_rfl) (H 11) (by kernel_rfl); have q16 := c 16 uE; rw [if_neg (by simp [q16]), if_neg (by simp [b])] at e; have hS := e; clear e c b d a H; refine oP rfl ?_; refine sep_opAppO rowFrames (i := 6) (s := .tmp 18) (x := .tmp 20) (m := m) (news := xs) (by rfl) f18 f20 hS rfl HLX.out (rH (i := 1) hS rfl) HX1.out (by unfold maxLen; omega) (by omega) ?_; intro v W' hs0; have hs : Sep w0 W' (Ce (w.heap.size) 43 #[.slice AF m cF, .slice AE mE cE] :: Rw 51 10 (.slice AF m cF) m xs :: Rw 49 4 (.slice AE mE cE) mE (eR_ LE) :: Bods (eB_ LE) :: Ce g 34 #[.pointer (some ⟨a0, 0, none⟩), .pointer (some ⟨a1, 0, none⟩), .int .u64 (i0 : Int), .int .u64 (i1 : Int), .int .u64 (n0 : Int), .int .u64 (n1 : Int), v0, .slice AV nw cV, .map (some bs), .map (some bt), .int .i64 (n : Int), .bool false] :: Ce a0 72 #[.int .u64 (base : Int), bx, .int .u64 (got : Int), .int .i64 sn, .int .u64 (si : Int), .int .i64 peer, .int .u64 (conn : Int), .int .u64 (inc : Int), .int .u64 (known : Int), .bool up, .int .u64 (heard : Int), .int .u64 (sent : Int)] :: RwO 51 10 v (nw + m) (ys ++ xs) :: MapT bt told :: Qs) := hs0; exact f.out v W' trivial trivial (by simpa [upB, upd, q16] using hs)
  refine Ee 14 9 0 ?_
  refine Ee 15 22 13 ?_
  refine Eee 16 11 2 23 14 ?_
  refine EC 17 rfl (fun h j W F a b c d e H K f => ?_) ?_
  ·have f21 : F.tmps.getD 21 undef = j 12 := (a 21).trans (by kernel_rfl); have f24 := gE (a 24) (by kernel_rfl) (H 15) (by kernel_rfl); have q12 := (H 12 uE).1; rw [if_neg (by simp [b]), if_pos q12] at e; have hS := e; clear e c b d a H; refine oP rfl ?_; obtain ⟨A2, c2, e2, _⟩ := sep_rwoForm (i := 6) hS rfl; have hc3 := cA (i := 4) hS rfl 7 rfl; have hf3 := cFz (i := 4) hS rfl 7; rw [e2] at hS; have hs0 := cS (i := 4) hS rfl 7 (.slice A2 (nw + m) c2); have hs : ∃ v, Sep w0 (W.setCell ⟨g, 7, none⟩ (.slice A2 (nw + m) c2)) (Ce (w.heap.size) 43 #[.slice AF m cF, .slice AE mE cE] :: Rw 51 10 (.slice AF m cF) m xs :: Rw 49 4 (.slice AE mE cE) mE (eR_ LE) :: Bods (eB_ LE) :: Ce g 34 #[.pointer (some ⟨a0, 0, none⟩), .pointer (some ⟨a1, 0, none⟩), .int .u64 (i0 : Int), .int .u64 (i1 : Int), .int .u64 (n0 : Int), .int .u64 (n1 : Int), v0, v, .map (some bs), .map (some bt), .int .i64 (n : Int), .bool false] :: Ce a0 72 #[.int .u64 (base : Int), bx, .int .u64 (got : Int), .int .i64 sn, .int .u64 (si : Int), .int .i64 peer, .int .u64 (conn : Int), .int .u64 (inc : Int), .int .u64 (known : Int), .bool up, .int .u64 (heard : Int), .int .u64 (sent : Int)] :: RwO 51 10 v (nw + m) (ys ++ xs) :: MapT bt told :: Qs) := ⟨_, hs0⟩; clear hs0; go_simp; exact f.out undef _ trivial trivial (by simpa [upB, upd] using hs)
  exact EN
 ·intro dn xv W hI H; have qe : dn 16 = true := (H 16 (of_decide_eq_true (by kernel_rfl))).1; rw [if_pos qe] at hI; have hS := hI; clear H hI qe; simp only [putAll, Act.put, List.setIfInBounds_toArray, List.set_cons_zero, List.set_cons_succ, Nat.reduceAdd]; obtain ⟨v, hS⟩ := hS; obtain ⟨A2, c2, rfl, _⟩ := sep_rwoForm (i := 6) hS rfl; have HS1 := Lib.hid (show Sep w0 W (MapT bt told :: (Ce (w.heap.size) 43 #[.slice AF m cF, .slice AE mE cE] :: Rw 49 4 (.slice AE mE cE) mE (eR_ LE) :: Bods (eB_ LE) :: Ce g 34 #[.pointer (some ⟨a0, 0, none⟩), .pointer (some ⟨a1, 0, none⟩), .int .u64 (i0 : Int), .int .u64 (i1 : Int), .int .u64 (n0 : Int), .int .u64 (n1 : Int), v0, .slice A2 (nw + m) c2, .map (some bs), .map (some bt), .int .i64 (n : Int), .bool false] :: Ce a0 72 #[.int .u64 (base : Int), bx, .int .u64 (got : Int), .int .i64 sn, .int .u64 (si : Int), .int .i64 peer, .int .u64 (conn : Int), .int .u64 (inc : Int), .int .u64 (known : Int), .bool up, .int .u64 (heard : Int), .int .u64 (sent : Int)] :: RwO 51 10 (.slice A2 (nw + m) c2) (nw + m) (ys ++ xs) :: Qs)) from (hS.tF 7 rfl).drop 2); clear hS HKV HKA HS0
  go_wp2_with fail
  go_loopw [6] (fun iv wr => ∃ k t, k ≤ mE ∧ iv = .int .i64 (k : Int) ∧ Hid (t = tellE told (1, inc, known, i0, conn) ((LE.map Prod.fst).take k)) ∧ Hid (Sep w0 wr (MapT bt t :: (Ce (w.heap.size) 43 #[.slice AF m cF, .slice AE mE cE] :: Rw 49 4 (.slice AE mE cE) mE (eR_ LE) :: Bods (eB_ LE) :: Ce g 34 #[.pointer (some ⟨a0, 0, none⟩), .pointer (some ⟨a1, 0, none⟩), .int .u64 (i0 : Int), .int .u64 (i1 : Int), .int .u64 (n0 : Int), .int .u64 (n1 : Int), v0, .slice A2 (nw + m) c2, .map (some bs), .map (some bt), .int .i64 (n : Int), .bool false] :: Ce a0 72 #[.int .u64 (base : Int), bx, .int .u64 (got : Int), .int .i64 sn, .int .u64 (si : Int), .int .i64 peer, .int .u64 (conn : Int), .int .u64 (inc : Int), .int .u64 (known : Int), .bool up, .int .u64 (heard : Int), .int .u64 (sent : Int)] :: RwO 51 10 (.slice A2 (nw + m) c2) (nw + m) (ys ++ xs) :: Qs)))) (fun iv _ => mE - (intOf iv).toNat)
  case atStart => exact ⟨0, told, Nat.zero_le _, rfl, Lib.hid rfl, HS1⟩
  case round =>
   obtain ⟨k, t, hk, rfl, HT, HS2⟩ := hrel; have k1 := cA (v := .slice AE mE cE) (i := 1) HS2.out rfl 1 rfl
   by_cases hkm : k < mE
   ·have hlt : decide (k < mE) = true := decide_eq_true hkm; obtain ⟨p, hp⟩ : ∃ p, LE[k]? = some p := ⟨_, List.getElem?_eq_getElem (by rw [HmE.out]; exact hkm)⟩; obtain ⟨⟨kind, pn, pi, y⟩, u⟩ := p; have HP := Lib.hid hp; obtain ⟨AY, cY, rfl, _, _, _⟩ := sep_bodsAt (i := 3) HS2.out rfl (u := u) (l := y) (List.mem_map.2 ⟨_, List.mem_of_getElem? hp, rfl⟩); have HYM : Hid ((.slice AY y.length cY, y) ∈ eB_ LE) := Lib.hid (List.mem_map.2 ⟨_, List.mem_of_getElem? hp, rfl⟩); have hE0 : (eR_ LE)[k * 4 + 0]? = some (.int .i64 kind) := evRow_at hp (by omega); have HE3 : Hid ((eR_ LE)[k * 4 + 3]? = some (.slice AY y.length cY)) := Lib.hid (evRow_at hp (by omega)); obtain ⟨be, oe, rfl, _, _⟩ := (rH (i := 2) HS2.out rfl) _ _ hE0; have ke := hK4 (rH (i := 2) HS2.out rfl) hE0; rw [Nat.add_zero] at ke; have hT1 : tellE told (1, inc, known, i0, conn) ((LE.map Prod.fst).take (k + 1)) = if kind = 3 then updM t (1, inc, known, i0, conn) (t (1, inc, known, i0, conn) ++ [y]) else t := by
     rw [List.take_add_one, List.getElem?_map, hp, HT.out]; exact tellE_snoc _ _ _ _
    have HT1 := Lib.hid hT1; clear hp hE0 hT1
    by_cases hk3 : kind = 3
    ·subst hk3; have HT2 : Hid (updM t (1, inc, known, i0, conn) (t (1, inc, known, i0, conn) ++ [y]) = tellE told (1, inc, known, i0, conn) ((LE.map Prod.fst).take (k + 1))) := Lib.hid (by rw [HT1.out, if_pos rfl]); have HTL : Hid ((t (1, inc, known, i0, conn)).length ≤ 1000000000000) := Lib.hid (by
      have h1 := tellE_len (1, inc, known, i0, conn) ((LE.map Prod.fst).take k) told (1, inc, known, i0, conn); have h2 := HTT.out (1, inc, known, i0, conn); rw [← HT.out] at h1; have h3 : ((LE.map Prod.fst).take k).length ≤ LE.length := by rw [List.length_take, List.length_map]; omega
      omega)
     go_wp2_with fail
     refine (of0 _ (cH (i := 4) HS2.out rfl) (cH (i := 5) HS2.out rfl) HSN.out).mono ?_; rintro e w3 ⟨rfl, hb⟩; have h4 := sep_ceF (HS2.out.grow hb) #[.int .i64 0, .int .u64 0, .int .u64 0, .int .u64 0, .int .u64 0] 81; have ya0 := cFz (i := 0) h4 rfl 0; have za0 := cA (i := 0) h4 rfl 0 rfl; have ya1 := cFz (i := 0) h4 rfl 1; have za1 := cA (i := 0) h4 rfl 1 rfl; have ya2 := cFz (i := 0) h4 rfl 2; have za2 := cA (i := 0) h4 rfl 2 rfl; have ya3 := cFz (i := 0) h4 rfl 3; have za3 := cA (i := 0) h4 rfl 3 rfl; have ya4 := cFz (i := 0) h4 rfl 4; have za4 := cA (i := 0) h4 rfl 4 rfl; have HS4 := Lib.hid (show Sep w0 (w3.alloc (.cells #[.int .i64 0, .int .u64 (i0 : Int), .int .u64 (conn : Int), .int .u64 (inc : Int), .int .u64 (known : Int)] 81)) (Ce w3.heap.size 81 #[.int .i64 0, .int .u64 (i0 : Int), .int .u64 (conn : Int), .int .u64 (inc : Int), .int .u64 (known : Int)] :: MapT bt t :: (Ce (w.heap.size) 43 #[.slice AF m cF, .slice (some ⟨be, oe, none⟩) mE cE] :: Rw 49 4 (.slice (some ⟨be, oe, none⟩) mE cE) mE (eR_ LE) :: Bods (eB_ LE) :: Ce g 34 #[.pointer (some ⟨a0, 0, none⟩), .pointer (some ⟨a1, 0, none⟩), .int .u64 (i0 : Int), .int .u64 (i1 : Int), .int .u64 (n0 : Int), .int .u64 (n1 : Int), v0, .slice A2 (nw + m) c2, .map (some bs), .map (some bt), .int .i64 (n : Int), .bool false] :: Ce a0 72 #[.int .u64 (base : Int), bx, .int .u64 (got : Int), .int .i64 sn, .int .u64 (si : Int), .int .i64 peer, .int .u64 (conn : Int), .int .u64 (inc : Int), .int .u64 (known : Int), .bool up, .int .u64 (heard : Int), .int .u64 (sent : Int)] :: RwO 51 10 (.slice A2 (nw + m) c2) (nw + m) (ys ++ xs) :: Qs)) from sep_ceF (HS2.out.grow hb) _ _); have h5 := sep_ceF HS4.out #[.int .i64 0, .int .u64 0, .int .u64 0, .int .u64 0, .int .u64 0] 81; have h6 := sep_ceF HS4.out #[.int .i64 1, .int .u64 (inc : Int), .int .u64 (known : Int), .int .u64 (i0 : Int), .int .u64 (conn : Int)] 81; simp only [World.size_setCell, World.size_alloc] at h5 h6; have yb0 := cFz (i := 0) h5 rfl 0; have zb0 := cA (i := 0) h5 rfl 0 rfl; have yb1 := cFz (i := 0) h5 rfl 1; have zb1 := cA (i := 0) h5 rfl 1 rfl; have yb2 := cFz (i := 0) h5 rfl 2; have zb2 := cA (i := 0) h5 rfl 2 rfl; have yb3 := cFz (i := 0) h5 rfl 3; have zb3 := cA (i := 0) h5 rfl 3 rfl; have yb4 := cFz (i := 0) h5 rfl 4; have zb4 := cA (i := 0) h5 rfl 4 rfl; have HS6 := Lib.hid (show Sep w0 ((w3.alloc (.cells #[.int .i64 0, .int .u64 (i0 : Int), .int .u64 (conn : Int), .int .u64 (inc : Int), .int .u64 (known : Int)] 81)).alloc (.cells #[.int .i64 1, .int .u64 (inc : Int), .int .u64 (known : Int), .int .u64 (i0 : Int), .int .u64 (conn : Int)] 81)) (MapT bt t :: (Ce (w3.heap.size + 1) 81 #[.int .i64 1, .int .u64 (inc : Int), .int .u64 (known : Int), .int .u64 (i0 : Int), .int .u64 (conn : Int)] :: Ce w3.heap.size 81 #[.int .i64 0, .int .u64 (i0 : Int), .int .u64 (conn : Int), .int .u64 (inc : Int), .int .u64 (known : Int)] :: (Ce (w.heap.size) 43 #[.slice AF m cF, .slice (some ⟨be, oe, none⟩) mE cE] :: Rw 49 4 (.slice (some ⟨be, oe, none⟩) mE cE) mE (eR_ LE) :: Bods (eB_ LE) :: Ce g 34 #[.pointer (some ⟨a0, 0, none⟩), .pointer (some ⟨a1, 0, none⟩), .int .u64 (i0 : Int), .int .u64 (i1 : Int), .int .u64 (n0 : Int), .int .u64 (n1 : Int), v0, .slice A2 (nw + m) c2, .map (some bs), .map (some bt), .int .i64 (n : Int), .bool false] :: Ce a0 72 #[.int .u64 (base : Int), bx, .int .u64 (got : Int), .int .i64 sn, .int .u64 (si : Int), .int .i64 peer, .int .u64 (conn : Int), .int .u64 (inc : Int), .int .u64 (known : Int), .bool up, .int .u64 (heard : Int), .int .u64 (sent : Int)] :: RwO 51 10 (.slice A2 (nw + m) c2) (nw + m) (ys ++ xs) :: Qs))) from h6.tF 2 rfl)
     have k4_0 := cA (i := 0) HS4.out rfl 0 rfl; have k4_1 := cA (i := 0) HS4.out rfl 1 rfl; have k4_2 := cA (i := 0) HS4.out rfl 2 rfl; have k4_3 := cA (i := 0) HS4.out rfl 3 rfl; have k4_4 := cA (i := 0) HS4.out rfl 4 rfl; clear h4 h5 h6 HS4 HS2 k1 ke; simp only [prV]
     go_wp2_with fail
     refine wRG (fun dn xv W => MapSt bt t ((1, inc, known, i0, conn)) y (dn 12) (dn 13) (dn 14) (dn 15) (dn 16) (dn 17) (xv 12) (xv 13) (xv 14) (xv 15) (xv 16) w0 W (Ce (w3.heap.size + 1) 81 #[.int .i64 1, .int .u64 (inc : Int), .int .u64 (known : Int), .int .u64 (i0 : Int), .int .u64 (conn : Int)] :: Ce w3.heap.size 81 #[.int .i64 0, .int .u64 (i0 : Int), .int .u64 (conn : Int), .int .u64 (inc : Int), .int .u64 (known : Int)] :: (Ce (w.heap.size) 43 #[.slice AF m cF, .slice (some ⟨be, oe, none⟩) mE cE] :: Rw 49 4 (.slice (some ⟨be, oe, none⟩) mE cE) mE (eR_ LE) :: Bods (eB_ LE) :: Ce g 34 #[.pointer (some ⟨a0, 0, none⟩), .pointer (some ⟨a1, 0, none⟩), .int .u64 (i0 : Int), .int .u64 (i1 : Int), .int .u64 (n0 : Int), .int .u64 (n1 : Int), v0, .slice A2 (nw + m) c2, .map (some bs), .map (some bt), .int .i64 (n : Int), .bool false] :: Ce a0 72 #[.int .u64 (base : Int), bx, .int .u64 (got : Int), .int .i64 sn, .int .u64 (si : Int), .int .i64 peer, .int .u64 (conn : Int), .int .u64 (inc : Int), .int .u64 (known : Int), .bool up, .int .u64 (heard : Int), .int .u64 (sent : Int)] :: RwO 51 10 (.slice A2 (nw + m) c2) (nw + m) (ys ++ xs) :: Qs))) (fun _ _ => True) [xP_ g 0, xP_ g 0, xP_ g 9, xV_ (.map (some bt)), xV_ (.agg #[.int .i64 1, .int .u64 (inc : Int), .int .u64 (known : Int), .int .u64 (i0 : Int), .int .u64 (conn : Int)]), xP_ w.heap.size 1, xV_ (.slice (some ⟨be, oe, none⟩) mE cE), xV_ (.int .i64 (k : Int)), xP_ be (oe + k * 4), xP_ be (oe + k * 4 + 3), xV_ (.slice AY y.length cY), xV_ (.string ⟨y.toArray⟩), fun v _ => True, fun v _ => True, fun v _ => True, fun v _ => True, fun v _ => True, fun v _ => True] (fun xv => (MapSt.start (q := (1, inc, known, i0, conn)) (y := y) (x12 := xv 12) (x13 := xv 13) (x14 := xv 14) (x15 := xv 15) (x16 := xv 16) HS6.out.drew)) ?_ ?_
     ·refine Ep 1 0 g 0 ?_
      refine Ee 2 53 0 ?_
      refine Ee 3 54 1 ?_
      refine EC 4 rfl (fun g h W F a b c d e H K f => ?_) ?_
      ·have f55 := gE (a 55) (by kernel_rfl) (H 2) (by kernel_rfl); have hr := MapSt.rst e; have kk := cA (i := 5) hr rfl 9 rfl; clear H c b d a; refine oP rfl ?_; go_simp; exact f.out _ _ rfl trivial e
      refine EC 5 rfl (fun g h W F a b c d e H K f => ?_) ?_
      ·have f8 : F.tmps.getD 8 undef = .pointer (some ⟨w3.heap.size + 1, 0, none⟩) := (a 8).trans (by kernel_rfl); have hr := MapSt.rst e; have kq0 := cA (i := 0) hr rfl 0 rfl; have kq1 := cA (i := 0) hr rfl 1 rfl; have kq2 := cA (i := 0) hr rfl 2 rfl; have kq3 := cA (i := 0) hr rfl 3 rfl; have kq4 := cA (i := 0) hr rfl 4 rfl; clear H c b d a; refine oP rfl ?_; go_simp; exact f.out _ _ rfl trivial e
      refine Ep 6 5 w.heap.size 0 ?_
      refine EC 7 rfl (fun g h W F a b c d e H K f => ?_) ?_
      ·have f59 := gE (a 59) (by kernel_rfl) (H 5) (by kernel_rfl); have hr := MapSt.rst e; have kk := cA (i := 2) hr rfl 1 rfl; clear H c b d a; refine oP rfl ?_; go_simp; exact f.out _ _ rfl trivial e
      refine Ei 8 6 (.int .i64 (k : Int)) ?_
      refine Eee 9 60 6 61 7 ?_
      refine Ee 10 62 8 ?_
      refine EC 11 rfl (fun g h W F a b c d e H K f => ?_) ?_
      ·have f63 := gE (a 63) (by kernel_rfl) (H 9) (by kernel_rfl); have hr := MapSt.rst e; have kk := hK4 (rH (i := 3) hr rfl) HE3.out; rw [← Nat.add_assoc] at kk; clear H c b d a; refine oP rfl ?_; go_simp; exact f.out _ _ rfl trivial e
      refine EC 12 rfl (fun h j W F a b d e f H K g => ?_) ?_
      ·have f64 := gE (a 64) (by kernel_rfl) (H 10) (by kernel_rfl); have hr := MapSt.rst f; have ky := run_str (c := cY) (sep_reads (i := 4) hr rfl (reads_bods HYM.out)); clear H d b e a; refine oP rfl ?_; go_simp; exact g.out _ _ rfl trivial f
      refine EC 13 rfl (fun g h W F a b c d e H K f => ?_) ?_
      ·have f65 := gE (a 65) (by kernel_rfl) (H 11) (by kernel_rfl); have q15 := c 15 uE; have q17 := c 17 (uM 15 uE); rw [b, q15, q17] at e; have hs := e.made; clear H c b d a; refine oP rfl ?_; have g65 := f65; rw [Array.getD_eq_getD_getElem?] at g65; go_simp; exact f.out _ _ trivial trivial (by simpa [upB, upd, q15, q17] using hs)
      refine EC 14 rfl (fun g h W F a b c d e H K f => ?_) ?_
      ·have f56 := gE (a 56) (by kernel_rfl) (H 3) (by kernel_rfl); have f57 := gE (a 57) (by kernel_rfl) (H 4) (by kernel_rfl); have q14 := c 14 uE; have q16 := c 16 uE; have q15 := c 15 (uM 14 uE); have q17 := c 17 (uM 16 uE); rw [b, q14, q15, q16, q17] at e; obtain ⟨u, st, W', hrun, hs⟩ := e.entry HQ.out; simp only [prV] at hrun; clear H c b d a; refine oP rfl ?_; go_simp; exact f.out _ _ trivial trivial (by simpa [upB, upd, q14, q15, q16, q17] using hs)
      refine EC 15 rfl (fun g h W F a b c d e H K f => ?_) ?_
      ·have f67 : F.tmps.getD 67 undef = h 13 := (a 67).trans (by kernel_rfl); have q13 := (H 13 uE).1; have q15 := c 15 uE; have q17 := c 17 (uM 15 uE); rw [b, q13, q15, q17] at e; obtain ⟨u, st, e13, hs⟩ := e.ext0; have g67 := f67.trans e13; clear H c b d a; refine oP rfl ?_; go_simp; exact f.out _ _ trivial trivial (by simpa [upB, upd, q13, q15, q17] using hs)
      refine EC 16 rfl (fun g h W F a b c d e H K f => ?_) ?_
      ·have f58 : F.tmps.getD 58 undef = h 14 := (a 58).trans (by kernel_rfl); have f66 : F.tmps.getD 66 undef = h 12 := (a 66).trans (by kernel_rfl); have q12 := (H 12 uE).1; have q14 := (H 14 uE).1; have q13 := (H 13 (uM 14 uE)).1; have q17 := c 17 uE; rw [b, q12, q13, q14, q17] at e; clear H c b d a; refine oP rfl ?_; refine e.app (s := .tmp 58) (x := .tmp 66) (by rfl) f58 f66 HTL.out ?_; intro v W' hs; exact f.out v W' trivial trivial (by simpa [upB, upd, q12, q13, q14, q17] using hs)
      refine EC 17 rfl (fun g h W F a b c d e H K f => ?_) ?_
      ·have f67 : F.tmps.getD 67 undef = h 13 := (a 67).trans (by kernel_rfl); have q13 := (H 13 uE).1; have q17 := c 17 uE; rw [b, q13, q17] at e; obtain ⟨u, st, e13, hs⟩ := e.ext1; have g67 := f67.trans e13; clear H c b d a; refine oP rfl ?_; go_simp; exact f.out _ _ trivial trivial (by simpa [upB, upd, q13, q17] using hs)
      refine EC 18 rfl (fun g h W F a b c d e H K f => ?_) ?_
      ·have f56 := gE (a 56) (by kernel_rfl) (H 3) (by kernel_rfl); have f68 : F.tmps.getD 68 undef = h 15 := (a 68).trans (by kernel_rfl); have f69 : F.tmps.getD 69 undef = h 16 := (a 69).trans (by kernel_rfl); have q13 := (H 13 (uM 16 uE)).1; have q15 := (H 15 uE).1; have q16 := (H 16 uE).1; rw [b, q13, q15, q16] at e; obtain ⟨W', hrun, hs⟩ := e.stored; clear H c b d a; refine oP rfl ?_; go_simp; exact f.out undef _ trivial trivial (by simpa [upB, upd, q13, q15, q16] using hs)
      exact EN
     ·intro dn xv W hI H; have q17 := (H 17 (of_decide_eq_true (by kernel_rfl))).1; rw [q17] at hI; have hS := MapSt.done hI; clear H hI; simp only [putAll, Act.put, List.setIfInBounds_toArray, List.set_cons_zero, List.set_cons_succ, Nat.reduceAdd]; have HS7 := Lib.hid ((hS.drop 1).drop 1); clear hS HS6
      go_wp2_with fail
      go_roundw
      case rel => exact ⟨k + 1, _, by omega, by go_num, HT2, HS7⟩
      case measure => simp [intOf]; omega
    ·have hk4 : (kind == 3) = false := by simpa using hk3
     have HT2 : Hid (t = tellE told (1, inc, known, i0, conn) ((LE.map Prod.fst).take (k + 1))) := Lib.hid (by rw [HT1.out, if_neg hk3]); clear hk3
     go_wp2_with fail
     go_roundw
     case rel => exact ⟨k + 1, t, by omega, by go_num, HT2, HS2⟩
     case measure => simp [intOf]; omega
   ·have hlt : decide (k < mE) = false := decide_eq_false hkm; have hkk : k = mE := by omega
    have HKK := Lib.hid hkk; clear hkm hkk
    go_wp2_with fail
    go_end0
    refine ⟨rfl, .slice A2 (nw + m) c2, ?_⟩; have h1 := HS2.out; have ht := HT.out; rw [HKK.out, ← HmE.out, List.take_of_length_le (by simp)] at ht; rw [ht] at h1; have h2 := ((h1.drop 1).drop 1).drop 1; exact ((((h2).tF 0 rfl).tF 3 rfl).tF 3 rfl).tF 3 rfl
set_option maxHeartbeats 6400000 in
theorem answer1 {w0 w : World} {Qs : List SP} {g a0 a1 i0 i1 n0 n1 bs bt n : Nat} {v0 v1 vA vF vE : Value} {m : Nat} {xs : List Value} {LE : List (Ev × Value)} {base : Nat} {bx : Value} {got : Nat} {sn : Int} {si : Nat} {peer : Int} {conn inc known : Nat} {up : Bool} {heard sent nw : Nat} {ys : List Value} {told : Pr → List (List UInt8)}
  (h : Sep w0 w (Rw 51 10 vF m xs :: Rw 49 4 vE LE.length (eR_ LE) :: Bods (eB_ LE) :: Ce g 34 (twC (.pointer (some ⟨a0, 0, none⟩)) (.pointer (some ⟨a1, 0, none⟩)) i0 i1 n0 n1 vA v1 bs bt n) :: Ce a1 72 (lkCells base bx got sn si peer conn inc known up heard sent) :: RwO 51 10 vA nw ys :: MapT bt told :: Qs))
  (hx1 : ∀ u ∈ xs, u.oneCell' = true) (hsn : sn ≠ 0) (hq : prOk (0, inc, known, i1, conn)) (hnw : nw + m ≤ 1000000000000) (hmE : LE.length ≤ 1000000000) (htl : ∀ p, (told p).length + LE.length ≤ 1000000000000) :
  Calls Try.prog 31 #[.pointer (some ⟨g, 0, none⟩), .int .i64 1, .agg #[vF, vE]] w fun e w' => e = .returned (.tuple #[]) ∧ ∃ v',
   Sep w0 w' (Ce g 34 (twC (.pointer (some ⟨a0, 0, none⟩)) (.pointer (some ⟨a1, 0, none⟩)) i0 i1 n0 n1 v' v1 bs bt n) :: Ce a1 72 (lkCells base bx got sn si peer conn inc known up heard sent) :: RwO 51 10 v' (nw + m) (ys ++ xs) :: MapT bt (tellE told (0, inc, known, i1, conn) (LE.map Prod.fst)) :: Qs) := by
 obtain ⟨AF, cF, rfl, hcF, hcF2, _⟩ := sep_rwForm (i := 0) h rfl; obtain ⟨AE, cE, rfl, hcE, hcE2, hasE⟩ := sep_rwForm (i := 1) h rfl; obtain ⟨AV, cV, rfl, hcV, hcV2, _⟩ := sep_rwoForm (i := 5) h rfl; have HLX : Hid (xs.length = m * 10) := Lib.hid (by obtain ⟨F, q, _⟩ := h.get (i := 0) rfl; exact q.1); have HX1 := Lib.hid hx1; have HSN := Lib.hid hsn; have HQ := Lib.hid hq; have HTT := Lib.hid htl; obtain ⟨mE, HmE⟩ : ∃ x, Hid (LE.length = x) := ⟨_, Lib.hid rfl⟩; rw [HmE.out] at h hcE hmE; have HS0 := Lib.hid (show Sep w0 (w.alloc (.cells #[.slice AF m cF, .slice AE mE cE] 43)) (Ce (w.heap.size) 43 #[.slice AF m cF, .slice AE mE cE] :: Rw 51 10 (.slice AF m cF) m xs :: Rw 49 4 (.slice AE mE cE) mE (eR_ LE) :: Bods (eB_ LE) :: Ce g 34 #[.pointer (some ⟨a0, 0, none⟩), .pointer (some ⟨a1, 0, none⟩), .int .u64 (i0 : Int), .int .u64 (i1 : Int), .int .u64 (n0 : Int), .int .u64 (n1 : Int), .slice AV nw cV, v1, .map (some bs), .map (some bt), .int .i64 (n : Int), .bool false] :: Ce a1 72 #[.int .u64 (base : Int), bx, .int .u64 (got : Int), .int .i64 sn, .int .u64 (si : Int), .int .i64 peer, .int .u64 (conn : Int), .int .u64 (inc : Int), .int .u64 (known : Int), .bool up, .int .u64 (heard : Int), .int .u64 (sent : Int)] :: RwO 51 10 (.slice AV nw cV) nw ys :: MapT bt told :: Qs) from sep_ceF h _ _); have HKV : ∀ (dn : Nat → Bool) (xv : Nat → Value) (W : World), (if dn 16 = true then ∃ v, Sep w0 W (Ce (w.heap.size) 43 #[.slice AF m cF, .slice AE mE cE] :: Rw 51 10 (.slice AF m cF) m xs :: Rw 49 4 (.slice AE mE cE) mE (eR_ LE) :: Bods (eB_ LE) :: Ce g 34 #[.pointer (some ⟨a0, 0, none⟩), .pointer (some ⟨a1, 0, none⟩), .int .u64 (i0 : Int), .int .u64 (i1 : Int), .int .u64 (n0 : Int), .int .u64 (n1 : Int), v, v1, .map (some bs), .map (some bt), .int .i64 (n : Int), .bool false] :: Ce a1 72 #[.int .u64 (base : Int), bx, .int .u64 (got : Int), .int .i64 sn, .int .u64 (si : Int), .int .i64 peer, .int .u64 (conn : Int), .int .u64 (inc : Int), .int .u64 (known : Int), .bool up, .int .u64 (heard : Int), .int .u64 (sent : Int)] :: RwO 51 10 v (nw + m) (ys ++ xs) :: MapT bt told :: Qs) else if dn 12 = true then Sep w0 W (Ce (w.heap.size) 43 #[.slice AF m cF, .slice AE mE cE] :: Rw 51 10 (.slice AF m cF) m xs :: Rw 49 4 (.slice AE mE cE) mE (eR_ LE) :: Bods (eB_ LE) :: Ce g 34 #[.pointer (some ⟨a0, 0, none⟩), .pointer (some ⟨a1, 0, none⟩), .int .u64 (i0 : Int), .int .u64 (i1 : Int), .int .u64 (n0 : Int), .int .u64 (n1 : Int), .slice AV nw cV, v1, .map (some bs), .map (some bt), .int .i64 (n : Int), .bool false] :: Ce a1 72 #[.int .u64 (base : Int), bx, .int .u64 (got : Int), .int .i64 sn, .int .u64 (si : Int), .int .i64 peer, .int .u64 (conn : Int), .int .u64 (inc : Int), .int .u64 (known : Int), .bool up, .int .u64 (heard : Int), .int .u64 (sent : Int)] :: RwO 51 10 (xv 12) (nw + m) (ys ++ xs) :: MapT bt told :: Qs) else Sep w0 W (Ce (w.heap.size) 43 #[.slice AF m cF, .slice AE mE cE] :: Rw 51 10 (.slice AF m cF) m xs :: Rw 49 4 (.slice AE mE cE) mE (eR_ LE) :: Bods (eB_ LE) :: Ce g 34 #[.pointer (some ⟨a0, 0, none⟩), .pointer (some ⟨a1, 0, none⟩), .int .u64 (i0 : Int), .int .u64 (i1 : Int), .int .u64 (n0 : Int), .int .u64 (n1 : Int), .slice AV nw cV, v1, .map (some bs), .map (some bt), .int .i64 (n : Int), .bool false] :: Ce a1 72 #[.int .u64 (base : Int), bx, .int .u64 (got : Int), .int .i64 sn, .int .u64 (si : Int), .int .i64 peer, .int .u64 (conn : Int), .int .u64 (inc : Int), .int .u64 (known : Int), .bool up, .int .u64 (heard : Int), .int .u64 (sent : Int)] :: RwO 51 10 (.slice AV nw cV) nw ys :: MapT bt told :: Qs)) → dn 16 = false → W.cell? ⟨g, 6, none⟩ = some (.slice AV nw cV) := fun dn xv W h h0 => by
  rw [if_neg (by simp [h0])] at h; split at h <;> exact cA (i := 4) h rfl 6 rfl
 have HKA : ∀ (dn : Nat → Bool) (xv : Nat → Value) (W : World), (if dn 16 = true then ∃ v, Sep w0 W (Ce (w.heap.size) 43 #[.slice AF m cF, .slice AE mE cE] :: Rw 51 10 (.slice AF m cF) m xs :: Rw 49 4 (.slice AE mE cE) mE (eR_ LE) :: Bods (eB_ LE) :: Ce g 34 #[.pointer (some ⟨a0, 0, none⟩), .pointer (some ⟨a1, 0, none⟩), .int .u64 (i0 : Int), .int .u64 (i1 : Int), .int .u64 (n0 : Int), .int .u64 (n1 : Int), v, v1, .map (some bs), .map (some bt), .int .i64 (n : Int), .bool false] :: Ce a1 72 #[.int .u64 (base : Int), bx, .int .u64 (got : Int), .int .i64 sn, .int .u64 (si : Int), .int .i64 peer, .int .u64 (conn : Int), .int .u64 (inc : Int), .int .u64 (known : Int), .bool up, .int .u64 (heard : Int), .int .u64 (sent : Int)] :: RwO 51 10 v (nw + m) (ys ++ xs) :: MapT bt told :: Qs) else if dn 12 = true then Sep w0 W (Ce (w.heap.size) 43 #[.slice AF m cF, .slice AE mE cE] :: Rw 51 10 (.slice AF m cF) m xs :: Rw 49 4 (.slice AE mE cE) mE (eR_ LE) :: Bods (eB_ LE) :: Ce g 34 #[.pointer (some ⟨a0, 0, none⟩), .pointer (some ⟨a1, 0, none⟩), .int .u64 (i0 : Int), .int .u64 (i1 : Int), .int .u64 (n0 : Int), .int .u64 (n1 : Int), .slice AV nw cV, v1, .map (some bs), .map (some bt), .int .i64 (n : Int), .bool false] :: Ce a1 72 #[.int .u64 (base : Int), bx, .int .u64 (got : Int), .int .i64 sn, .int .u64 (si : Int), .int .i64 peer, .int .u64 (conn : Int), .int .u64 (inc : Int), .int .u64 (known : Int), .bool up, .int .u64 (heard : Int), .int .u64 (sent : Int)] :: RwO 51 10 (xv 12) (nw + m) (ys ++ xs) :: MapT bt told :: Qs) else Sep w0 W (Ce (w.heap.size) 43 #[.slice AF m cF, .slice AE mE cE] :: Rw 51 10 (.slice AF m cF) m xs :: Rw 49 4 (.slice AE mE cE) mE (eR_ LE) :: Bods (eB_ LE) :: Ce g 34 #[.pointer (some ⟨a0, 0, none⟩), .pointer (some ⟨a1, 0, none⟩), .int .u64 (i0 : Int), .int .u64 (i1 : Int), .int .u64 (n0 : Int), .int .u64 (n1 : Int), .slice AV nw cV, v1, .map (some bs), .map (some bt), .int .i64 (n : Int), .bool false] :: Ce a1 72 #[.int .u64 (base : Int), bx, .int .u64 (got : Int), .int .i64 sn, .int .u64 (si : Int), .int .i64 peer, .int .u64 (conn : Int), .int .u64 (inc : Int), .int .u64 (known : Int), .bool up, .int .u64 (heard : Int), .int .u64 (sent : Int)] :: RwO 51 10 (.slice AV nw cV) nw ys :: MapT bt told :: Qs)) → W.cell? ⟨w.heap.size, 0, none⟩ = some (.slice AF m cF) := fun dn xv W h => by
  split at h
  ·obtain ⟨_, h⟩ := h; exact cA (i := 0) h rfl 0 rfl
  split at h <;> exact cA (i := 0) h rfl 0 rfl
 clear h hx1 hsn hq htl hasE; rw [HmE.out]; go_enter Try.func31, Try.ntmps31
 go_wp2_with fail
 refine wRG (fun dn xv W => if dn 16 = true then ∃ v, Sep w0 W (Ce (w.heap.size) 43 #[.slice AF m cF, .slice AE mE cE] :: Rw 51 10 (.slice AF m cF) m xs :: Rw 49 4 (.slice AE mE cE) mE (eR_ LE) :: Bods (eB_ LE) :: Ce g 34 #[.pointer (some ⟨a0, 0, none⟩), .pointer (some ⟨a1, 0, none⟩), .int .u64 (i0 : Int), .int .u64 (i1 : Int), .int .u64 (n0 : Int), .int .u64 (n1 : Int), v, v1, .map (some bs), .map (some bt), .int .i64 (n : Int), .bool false] :: Ce a1 72 #[.int .u64 (base : Int), bx, .int .u64 (got : Int), .int .i64 sn, .int .u64 (si : Int), .int .i64 peer, .int .u64 (conn : Int), .int .u64 (inc : Int), .int .u64 (known : Int), .bool up, .int .u64 (heard : Int), .int .u64 (sent : Int)] :: RwO 51 10 v (nw + m) (ys ++ xs) :: MapT bt told :: Qs) else if dn 12 = true then Sep w0 W (Ce (w.heap.size) 43 #[.slice AF m cF, .slice AE mE cE] :: Rw 51 10 (.slice AF m cF) m xs :: Rw 49 4 (.slice AE mE cE) mE (eR_ LE) :: Bods (eB_ LE) :: Ce g 34 #[.pointer (some ⟨a0, 0, none⟩), .pointer (some ⟨a1, 0, none⟩), .int .u64 (i0 : Int), .int .u64 (i1 : Int), .int .u64 (n0 : Int), .int .u64 (n1 : Int), .slice AV nw cV, v1, .map (some bs), .map (some bt), .int .i64 (n : Int), .bool false] :: Ce a1 72 #[.int .u64 (base : Int), bx, .int .u64 (got : Int), .int .i64 sn, .int .u64 (si : Int), .int .i64 peer, .int .u64 (conn : Int), .int .u64 (inc : Int), .int .u64 (known : Int), .bool up, .int .u64 (heard : Int), .int .u64 (sent : Int)] :: RwO 51 10 (xv 12) (nw + m) (ys ++ xs) :: MapT bt told :: Qs) else Sep w0 W (Ce (w.heap.size) 43 #[.slice AF m cF, .slice AE mE cE] :: Rw 51 10 (.slice AF m cF) m xs :: Rw 49 4 (.slice AE mE cE) mE (eR_ LE) :: Bods (eB_ LE) :: Ce g 34 #[.pointer (some ⟨a0, 0, none⟩), .pointer (some ⟨a1, 0, none⟩), .int .u64 (i0 : Int), .int .u64 (i1 : Int), .int .u64 (n0 : Int), .int .u64 (n1 : Int), .slice AV nw cV, v1, .map (some bs), .map (some bt), .int .i64 (n : Int), .bool false] :: Ce a1 72 #[.int .u64 (base : Int), bx, .int .u64 (got : Int), .int .i64 sn, .int .u64 (si : Int), .int .i64 peer, .int .u64 (conn : Int), .int .u64 (inc : Int), .int .u64 (known : Int), .bool up, .int .u64 (heard : Int), .int .u64 (sent : Int)] :: RwO 51 10 (.slice AV nw cV) nw ys :: MapT bt told :: Qs)) (fun _ _ => True) [xP_ g 0, xV_ (.int .i64 1), xV_ (.int .i64 0), xP_ g 0, xV_ (.int .i64 1), xV_ (.int .i64 0), xP_ g 0, xP_ g 6, xP_ g 6, xV_ (.slice AV nw cV), xP_ w.heap.size 0, xV_ (.slice AF m cF), fun v _ => True, xP_ g 0, xP_ g 6, xP_ g 6, fun v _ => True] (fun xv => by simpa using HS0.out.drew) ?_ ?_
 ·refine Ep 1 0 g 0 ?_
  refine Ei 2 1 (.int .i64 1) ?_
  refine Ee 3 10 1 ?_
  refine Ep 4 0 g 0 ?_
  refine Ei 5 1 (.int .i64 1) ?_
  refine Ee 6 13 4 ?_
  refine Ee 7 12 3 ?_
  refine Ee 8 15 6 ?_
  refine Eee 9 14 5 16 7 ?_
  refine EC 10 rfl (fun g h W F a b c d e H K f => ?_) ?_
  ·have f17 := gE (a 17) (by kernel_rfl) (H 8) (by kernel_rfl); have kk := HKV g h W e (c 16 (uM 12 uE)); clear H c b d a; refine oP rfl ?_; go_simp; exact f.out _ _ rfl trivial e
  refine Ep 11 5 w.heap.size 0 ?_
  refine Eek 12 19 10 (fun g h W e => HKA g h W e) ?_
  refine EC 13 rfl (fun h j W F a b c d e H K f => ?_) ?_
  ·have f18 := gE (a 18) (by kernel_rfl) (H 9) (by kernel_rfl); have f20 := gE (a 20) (by kernel_rfl) (H 11) (by kernel_rfl); have q16 := c 16 uE; rw [if_neg (by simp [q16]), if_neg (by simp [b])] at e; have hS := e; clear e c b d a H; refine oP rfl ?_; refine sep_opAppO rowFrames (i := 6) (s := .tmp 18) (x := .tmp 20) (m := m) (news := xs) (by rfl) f18 f20 hS rfl HLX.out (rH (i := 1) hS rfl) HX1.out (by unfold maxLen; omega) (by omega) ?_; intro v W' hs0; have hs : Sep w0 W' (Ce (w.heap.size) 43 #[.slice AF m cF, .slice AE mE cE] :: Rw 51 10 (.slice AF m cF) m xs :: Rw 49 4 (.slice AE mE cE) mE (eR_ LE) :: Bods (eB_ LE) :: Ce g 34 #[.pointer (some ⟨a0, 0, none⟩), .pointer (some ⟨a1, 0, none⟩), .int .u64 (i0 : Int), .int .u64 (i1 : Int), .int .u64 (n0 : Int), .int .u64 (n1 : Int), .slice AV nw cV, v1, .map (some bs), .map (some bt), .int .i64 (n : Int), .bool false] :: Ce a1 72 #[.int .u64 (base : Int), bx, .int .u64 (got : Int), .int .i64 sn, .int .u64 (si : Int), .int .i64 peer, .int .u64 (conn : Int), .int .u64 (inc : Int), .int .u64 (known : Int), .bool up, .int .u64 (heard : Int), .int .u64 (sent : Int)] :: RwO 51 10 v (nw + m) (ys ++ xs) :: MapT bt told :: Qs) := hs0; exact f.out v W' trivial trivial (by simpa [upB, upd, q16] using hs)
  refine Ee 14 9 0 ?_
  refine Ee 15 22 13 ?_
  refine Eee 16 11 2 23 14 ?_
  refine EC 17 rfl (fun h j W F a b c d e H K f => ?_) ?_
  ·have f21 : F.tmps.getD 21 undef = j 12 := (a 21).trans (by kernel_rfl); have f24 := gE (a 24) (by kernel_rfl) (H 15) (by kernel_rfl); have q12 := (H 12 uE).1; rw [if_neg (by simp [b]), if_pos q12] at e; have hS := e; clear e c b d a H; refine oP rfl ?_; obtain ⟨A2, c2, e2, _⟩ := sep_rwoForm (i := 6) hS rfl; have hc3 := cA (i := 4) hS rfl 6 rfl; have hf3 := cFz (i := 4) hS rfl 6; rw [e2] at hS; have hs0 := cS (i := 4) hS rfl 6 (.slice A2 (nw + m) c2); have hs : ∃ v, Sep w0 (W.setCell ⟨g, 6, none⟩ (.slice A2 (nw + m) c2)) (Ce (w.heap.size) 43 #[.slice AF m cF, .slice AE mE cE] :: Rw 51 10 (.slice AF m cF) m xs :: Rw 49 4 (.slice AE mE cE) mE (eR_ LE) :: Bods (eB_ LE) :: Ce g 34 #[.pointer (some ⟨a0, 0, none⟩), .pointer (some ⟨a1, 0, none⟩), .int .u64 (i0 : Int), .int .u64 (i1 : Int), .int .u64 (n0 : Int), .int .u64 (n1 : Int), v, v1, .map (some bs), .map (some bt), .int .i64 (n : Int), .bool false] :: Ce a1 72 #[.int .u64 (base : Int), bx, .int .u64 (got : Int), .int .i64 sn, .int .u64 (si : Int), .int .i64 peer, .int .u64 (conn : Int), .int .u64 (inc : Int), .int .u64 (known : Int), .bool up, .int .u64 (heard : Int), .int .u64 (sent : Int)] :: RwO 51 10 v (nw + m) (ys ++ xs) :: MapT bt told :: Qs) := ⟨_, hs0⟩; clear hs0; go_simp; exact f.out undef _ trivial trivial (by simpa [upB, upd] using hs)
  exact EN
 ·intro dn xv W hI H; have qe : dn 16 = true := (H 16 (of_decide_eq_true (by kernel_rfl))).1; rw [if_pos qe] at hI; have hS := hI; clear H hI qe; simp only [putAll, Act.put, List.setIfInBounds_toArray, List.set_cons_zero, List.set_cons_succ, Nat.reduceAdd]; obtain ⟨v, hS⟩ := hS; obtain ⟨A2, c2, rfl, _⟩ := sep_rwoForm (i := 6) hS rfl; have HS1 := Lib.hid (show Sep w0 W (MapT bt told :: (Ce (w.heap.size) 43 #[.slice AF m cF, .slice AE mE cE] :: Rw 49 4 (.slice AE mE cE) mE (eR_ LE) :: Bods (eB_ LE) :: Ce g 34 #[.pointer (some ⟨a0, 0, none⟩), .pointer (some ⟨a1, 0, none⟩), .int .u64 (i0 : Int), .int .u64 (i1 : Int), .int .u64 (n0 : Int), .int .u64 (n1 : Int), .slice A2 (nw + m) c2, v1, .map (some bs), .map (some bt), .int .i64 (n : Int), .bool false] :: Ce a1 72 #[.int .u64 (base : Int), bx, .int .u64 (got : Int), .int .i64 sn, .int .u64 (si : Int), .int .i64 peer, .int .u64 (conn : Int), .int .u64 (inc : Int), .int .u64 (known : Int), .bool up, .int .u64 (heard : Int), .int .u64 (sent : Int)] :: RwO 51 10 (.slice A2 (nw + m) c2) (nw + m) (ys ++ xs) :: Qs)) from (hS.tF 7 rfl).drop 2); clear hS HKV HKA HS0
  go_wp2_with fail
  go_loopw [6] (fun iv wr => ∃ k t, k ≤ mE ∧ iv = .int .i64 (k : Int) ∧ Hid (t = tellE told (0, inc, known, i1, conn) ((LE.map Prod.fst).take k)) ∧ Hid (Sep w0 wr (MapT bt t :: (Ce (w.heap.size) 43 #[.slice AF m cF, .slice AE mE cE] :: Rw 49 4 (.slice AE mE cE) mE (eR_ LE) :: Bods (eB_ LE) :: Ce g 34 #[.pointer (some ⟨a0, 0, none⟩), .pointer (some ⟨a1, 0, none⟩), .int .u64 (i0 : Int), .int .u64 (i1 : Int), .int .u64 (n0 : Int), .int .u64 (n1 : Int), .slice A2 (nw + m) c2, v1, .map (some bs), .map (some bt), .int .i64 (n : Int), .bool false] :: Ce a1 72 #[.int .u64 (base : Int), bx, .int .u64 (got : Int), .int .i64 sn, .int .u64 (si : Int), .int .i64 peer, .int .u64 (conn : Int), .int .u64 (inc : Int), .int .u64 (known : Int), .bool up, .int .u64 (heard : Int), .int .u64 (sent : Int)] :: RwO 51 10 (.slice A2 (nw + m) c2) (nw + m) (ys ++ xs) :: Qs)))) (fun iv _ => mE - (intOf iv).toNat)
  case atStart => exact ⟨0, told, Nat.zero_le _, rfl, Lib.hid rfl, HS1⟩
  case round =>
   obtain ⟨k, t, hk, rfl, HT, HS2⟩ := hrel; have k1 := cA (v := .slice AE mE cE) (i := 1) HS2.out rfl 1 rfl
   by_cases hkm : k < mE
   ·have hlt : decide (k < mE) = true := decide_eq_true hkm; obtain ⟨p, hp⟩ : ∃ p, LE[k]? = some p := ⟨_, List.getElem?_eq_getElem (by rw [HmE.out]; exact hkm)⟩; obtain ⟨⟨kind, pn, pi, y⟩, u⟩ := p; have HP := Lib.hid hp; obtain ⟨AY, cY, rfl, _, _, _⟩ := sep_bodsAt (i := 3) HS2.out rfl (u := u) (l := y) (List.mem_map.2 ⟨_, List.mem_of_getElem? hp, rfl⟩); have HYM : Hid ((.slice AY y.length cY, y) ∈ eB_ LE) := Lib.hid (List.mem_map.2 ⟨_, List.mem_of_getElem? hp, rfl⟩); have hE0 : (eR_ LE)[k * 4 + 0]? = some (.int .i64 kind) := evRow_at hp (by omega); have HE3 : Hid ((eR_ LE)[k * 4 + 3]? = some (.slice AY y.length cY)) := Lib.hid (evRow_at hp (by omega)); obtain ⟨be, oe, rfl, _, _⟩ := (rH (i := 2) HS2.out rfl) _ _ hE0; have ke := hK4 (rH (i := 2) HS2.out rfl) hE0; rw [Nat.add_zero] at ke; have hT1 : tellE told (0, inc, known, i1, conn) ((LE.map Prod.fst).take (k + 1)) = if kind = 3 then updM t (0, inc, known, i1, conn) (t (0, inc, known, i1, conn) ++ [y]) else t := by
     rw [List.take_add_one, List.getElem?_map, hp, HT.out]; exact tellE_snoc _ _ _ _
    have HT1 := Lib.hid hT1; clear hp hE0 hT1
    by_cases hk3 : kind = 3
    ·subst hk3; have HT2 : Hid (updM t (0, inc, known, i1, conn) (t (0, inc, known, i1, conn) ++ [y]) = tellE told (0, inc, known, i1, conn) ((LE.map Prod.fst).take (k + 1))) := Lib.hid (by rw [HT1.out, if_pos rfl]); have HTL : Hid ((t (0, inc, known, i1, conn)).length ≤ 1000000000000) := Lib.hid (by
      have h1 := tellE_len (0, inc, known, i1, conn) ((LE.map Prod.fst).take k) told (0, inc, known, i1, conn); have h2 := HTT.out (0, inc, known, i1, conn); rw [← HT.out] at h1; have h3 : ((LE.map Prod.fst).take k).length ≤ LE.length := by rw [List.length_take, List.length_map]; omega
      omega)
     go_wp2_with fail
     refine (of1 _ (cH (i := 4) HS2.out rfl) (cH (i := 5) HS2.out rfl) HSN.out).mono ?_; rintro e w3 ⟨rfl, hb⟩; have h4 := sep_ceF (HS2.out.grow hb) #[.int .i64 0, .int .u64 0, .int .u64 0, .int .u64 0, .int .u64 0] 81; have ya0 := cFz (i := 0) h4 rfl 0; have za0 := cA (i := 0) h4 rfl 0 rfl; have ya1 := cFz (i := 0) h4 rfl 1; have za1 := cA (i := 0) h4 rfl 1 rfl; have ya2 := cFz (i := 0) h4 rfl 2; have za2 := cA (i := 0) h4 rfl 2 rfl; have ya3 := cFz (i := 0) h4 rfl 3; have za3 := cA (i := 0) h4 rfl 3 rfl; have ya4 := cFz (i := 0) h4 rfl 4; have za4 := cA (i := 0) h4 rfl 4 rfl; have HS4 := Lib.hid (show Sep w0 (w3.alloc (.cells #[.int .i64 1, .int .u64 (i1 : Int), .int .u64 (conn : Int), .int .u64 (inc : Int), .int .u64 (known : Int)] 81)) (Ce w3.heap.size 81 #[.int .i64 1, .int .u64 (i1 : Int), .int .u64 (conn : Int), .int .u64 (inc : Int), .int .u64 (known : Int)] :: MapT bt t :: (Ce (w.heap.size) 43 #[.slice AF m cF, .slice (some ⟨be, oe, none⟩) mE cE] :: Rw 49 4 (.slice (some ⟨be, oe, none⟩) mE cE) mE (eR_ LE) :: Bods (eB_ LE) :: Ce g 34 #[.pointer (some ⟨a0, 0, none⟩), .pointer (some ⟨a1, 0, none⟩), .int .u64 (i0 : Int), .int .u64 (i1 : Int), .int .u64 (n0 : Int), .int .u64 (n1 : Int), .slice A2 (nw + m) c2, v1, .map (some bs), .map (some bt), .int .i64 (n : Int), .bool false] :: Ce a1 72 #[.int .u64 (base : Int), bx, .int .u64 (got : Int), .int .i64 sn, .int .u64 (si : Int), .int .i64 peer, .int .u64 (conn : Int), .int .u64 (inc : Int), .int .u64 (known : Int), .bool up, .int .u64 (heard : Int), .int .u64 (sent : Int)] :: RwO 51 10 (.slice A2 (nw + m) c2) (nw + m) (ys ++ xs) :: Qs)) from sep_ceF (HS2.out.grow hb) _ _); have h5 := sep_ceF HS4.out #[.int .i64 0, .int .u64 0, .int .u64 0, .int .u64 0, .int .u64 0] 81; have h6 := sep_ceF HS4.out #[.int .i64 0, .int .u64 (inc : Int), .int .u64 (known : Int), .int .u64 (i1 : Int), .int .u64 (conn : Int)] 81; simp only [World.size_setCell, World.size_alloc] at h5 h6; have yb0 := cFz (i := 0) h5 rfl 0; have zb0 := cA (i := 0) h5 rfl 0 rfl; have yb1 := cFz (i := 0) h5 rfl 1; have zb1 := cA (i := 0) h5 rfl 1 rfl; have yb2 := cFz (i := 0) h5 rfl 2; have zb2 := cA (i := 0) h5 rfl 2 rfl; have yb3 := cFz (i := 0) h5 rfl 3; have zb3 := cA (i := 0) h5 rfl 3 rfl; have yb4 := cFz (i := 0) h5 rfl 4; have zb4 := cA (i := 0) h5 rfl 4 rfl; have HS6 := Lib.hid (show Sep w0 ((w3.alloc (.cells #[.int .i64 1, .int .u64 (i1 : Int), .int .u64 (conn : Int), .int .u64 (inc : Int), .int .u64 (known : Int)] 81)).alloc (.cells #[.int .i64 0, .int .u64 (inc : Int), .int .u64 (known : Int), .int .u64 (i1 : Int), .int .u64 (conn : Int)] 81)) (MapT bt t :: (Ce (w3.heap.size + 1) 81 #[.int .i64 0, .int .u64 (inc : Int), .int .u64 (known : Int), .int .u64 (i1 : Int), .int .u64 (conn : Int)] :: Ce w3.heap.size 81 #[.int .i64 1, .int .u64 (i1 : Int), .int .u64 (conn : Int), .int .u64 (inc : Int), .int .u64 (known : Int)] :: (Ce (w.heap.size) 43 #[.slice AF m cF, .slice (some ⟨be, oe, none⟩) mE cE] :: Rw 49 4 (.slice (some ⟨be, oe, none⟩) mE cE) mE (eR_ LE) :: Bods (eB_ LE) :: Ce g 34 #[.pointer (some ⟨a0, 0, none⟩), .pointer (some ⟨a1, 0, none⟩), .int .u64 (i0 : Int), .int .u64 (i1 : Int), .int .u64 (n0 : Int), .int .u64 (n1 : Int), .slice A2 (nw + m) c2, v1, .map (some bs), .map (some bt), .int .i64 (n : Int), .bool false] :: Ce a1 72 #[.int .u64 (base : Int), bx, .int .u64 (got : Int), .int .i64 sn, .int .u64 (si : Int), .int .i64 peer, .int .u64 (conn : Int), .int .u64 (inc : Int), .int .u64 (known : Int), .bool up, .int .u64 (heard : Int), .int .u64 (sent : Int)] :: RwO 51 10 (.slice A2 (nw + m) c2) (nw + m) (ys ++ xs) :: Qs))) from h6.tF 2 rfl)
     have k4_0 := cA (i := 0) HS4.out rfl 0 rfl; have k4_1 := cA (i := 0) HS4.out rfl 1 rfl; have k4_2 := cA (i := 0) HS4.out rfl 2 rfl; have k4_3 := cA (i := 0) HS4.out rfl 3 rfl; have k4_4 := cA (i := 0) HS4.out rfl 4 rfl; clear h4 h5 h6 HS4 HS2 k1 ke; simp only [prV]
     go_wp2_with fail
     refine wRG (fun dn xv W => MapSt bt t ((0, inc, known, i1, conn)) y (dn 12) (dn 13) (dn 14) (dn 15) (dn 16) (dn 17) (xv 12) (xv 13) (xv 14) (xv 15) (xv 16) w0 W (Ce (w3.heap.size + 1) 81 #[.int .i64 0, .int .u64 (inc : Int), .int .u64 (known : Int), .int .u64 (i1 : Int), .int .u64 (conn : Int)] :: Ce w3.heap.size 81 #[.int .i64 1, .int .u64 (i1 : Int), .int .u64 (conn : Int), .int .u64 (inc : Int), .int .u64 (known : Int)] :: (Ce (w.heap.size) 43 #[.slice AF m cF, .slice (some ⟨be, oe, none⟩) mE cE] :: Rw 49 4 (.slice (some ⟨be, oe, none⟩) mE cE) mE (eR_ LE) :: Bods (eB_ LE) :: Ce g 34 #[.pointer (some ⟨a0, 0, none⟩), .pointer (some ⟨a1, 0, none⟩), .int .u64 (i0 : Int), .int .u64 (i1 : Int), .int .u64 (n0 : Int), .int .u64 (n1 : Int), .slice A2 (nw + m) c2, v1, .map (some bs), .map (some bt), .int .i64 (n : Int), .bool false] :: Ce a1 72 #[.int .u64 (base : Int), bx, .int .u64 (got : Int), .int .i64 sn, .int .u64 (si : Int), .int .i64 peer, .int .u64 (conn : Int), .int .u64 (inc : Int), .int .u64 (known : Int), .bool up, .int .u64 (heard : Int), .int .u64 (sent : Int)] :: RwO 51 10 (.slice A2 (nw + m) c2) (nw + m) (ys ++ xs) :: Qs))) (fun _ _ => True) [xP_ g 0, xP_ g 0, xP_ g 9, xV_ (.map (some bt)), xV_ (.agg #[.int .i64 0, .int .u64 (inc : Int), .int .u64 (known : Int), .int .u64 (i1 : Int), .int .u64 (conn : Int)]), xP_ w.heap.size 1, xV_ (.slice (some ⟨be, oe, none⟩) mE cE), xV_ (.int .i64 (k : Int)), xP_ be (oe + k * 4), xP_ be (oe + k * 4 + 3), xV_ (.slice AY y.length cY), xV_ (.string ⟨y.toArray⟩), fun v _ => True, fun v _ => True, fun v _ => True, fun v _ => True, fun v _ => True, fun v _ => True] (fun xv => (MapSt.start (q := (0, inc, known, i1, conn)) (y := y) (x12 := xv 12) (x13 := xv 13) (x14 := xv 14) (x15 := xv 15) (x16 := xv 16) HS6.out.drew)) ?_ ?_
     ·refine Ep 1 0 g 0 ?_
      refine Ee 2 53 0 ?_
      refine Ee 3 54 1 ?_
      refine EC 4 rfl (fun g h W F a b c d e H K f => ?_) ?_
      ·have f55 := gE (a 55) (by kernel_rfl) (H 2) (by kernel_rfl); have hr := MapSt.rst e; have kk := cA (i := 5) hr rfl 9 rfl; clear H c b d a; refine oP rfl ?_; go_simp; exact f.out _ _ rfl trivial e
      refine EC 5 rfl (fun g h W F a b c d e H K f => ?_) ?_
      ·have f8 : F.tmps.getD 8 undef = .pointer (some ⟨w3.heap.size + 1, 0, none⟩) := (a 8).trans (by kernel_rfl); have hr := MapSt.rst e; have kq0 := cA (i := 0) hr rfl 0 rfl; have kq1 := cA (i := 0) hr rfl 1 rfl; have kq2 := cA (i := 0) hr rfl 2 rfl; have kq3 := cA (i := 0) hr rfl 3 rfl; have kq4 := cA (i := 0) hr rfl 4 rfl; clear H c b d a; refine oP rfl ?_; go_simp; exact f.out _ _ rfl trivial e
      refine Ep 6 5 w.heap.size 0 ?_
      refine EC 7 rfl (fun g h W F a b c d e H K f => ?_) ?_
      ·have f59 := gE (a 59) (by kernel_rfl) (H 5) (by kernel_rfl); have hr := MapSt.rst e; have kk := cA (i := 2) hr rfl 1 rfl; clear H c b d a; refine oP rfl ?_; go_simp; exact f.out _ _ rfl trivial e
      refine Ei 8 6 (.int .i64 (k : Int)) ?_
      refine Eee 9 60 6 61 7 ?_
      refine Ee 10 62 8 ?_
      refine EC 11 rfl (fun g h W F a b c d e H K f => ?_) ?_
      ·have f63 := gE (a 63) (by kernel_rfl) (H 9) (by kernel_rfl); have hr := MapSt.rst e; have kk := hK4 (rH (i := 3) hr rfl) HE3.out; rw [← Nat.add_assoc] at kk; clear H c b d a; refine oP rfl ?_; go_simp; exact f.out _ _ rfl trivial e
      refine EC 12 rfl (fun h j W F a b d e f H K g => ?_) ?_
      ·have f64 := gE (a 64) (by kernel_rfl) (H 10) (by kernel_rfl); have hr := MapSt.rst f; have ky := run_str (c := cY) (sep_reads (i := 4) hr rfl (reads_bods HYM.out)); clear H d b e a; refine oP rfl ?_; go_simp; exact g.out _ _ rfl trivial f
      refine EC 13 rfl (fun g h W F a b c d e H K f => ?_) ?_
      ·have f65 := gE (a 65) (by kernel_rfl) (H 11) (by kernel_rfl); have q15 := c 15 uE; have q17 := c 17 (uM 15 uE); rw [b, q15, q17] at e; have hs := e.made; clear H c b d a; refine oP rfl ?_; have g65 := f65; rw [Array.getD_eq_getD_getElem?] at g65; go_simp; exact f.out _ _ trivial trivial (by simpa [upB, upd, q15, q17] using hs)
      refine EC 14 rfl (fun g h W F a b c d e H K f => ?_) ?_
      ·have f56 := gE (a 56) (by kernel_rfl) (H 3) (by kernel_rfl); have f57 := gE (a 57) (by kernel_rfl) (H 4) (by kernel_rfl); have q14 := c 14 uE; have q16 := c 16 uE; have q15 := c 15 (uM 14 uE); have q17 := c 17 (uM 16 uE); rw [b, q14, q15, q16, q17] at e; obtain ⟨u, st, W', hrun, hs⟩ := e.entry HQ.out; simp only [prV] at hrun; clear H c b d a; refine oP rfl ?_; go_simp; exact f.out _ _ trivial trivial (by simpa [upB, upd, q14, q15, q16, q17] using hs)
      refine EC 15 rfl (fun g h W F a b c d e H K f => ?_) ?_
      ·have f67 : F.tmps.getD 67 undef = h 13 := (a 67).trans (by kernel_rfl); have q13 := (H 13 uE).1; have q15 := c 15 uE; have q17 := c 17 (uM 15 uE); rw [b, q13, q15, q17] at e; obtain ⟨u, st, e13, hs⟩ := e.ext0; have g67 := f67.trans e13; clear H c b d a; refine oP rfl ?_; go_simp; exact f.out _ _ trivial trivial (by simpa [upB, upd, q13, q15, q17] using hs)
      refine EC 16 rfl (fun g h W F a b c d e H K f => ?_) ?_
      ·have f58 : F.tmps.getD 58 undef = h 14 := (a 58).trans (by kernel_rfl); have f66 : F.tmps.getD 66 undef = h 12 := (a 66).trans (by kernel_rfl); have q12 := (H 12 uE).1; have q14 := (H 14 uE).1; have q13 := (H 13 (uM 14 uE)).1; have q17 := c 17 uE; rw [b, q12, q13, q14, q17] at e; clear H c b d a; refine oP rfl ?_; refine e.app (s := .tmp 58) (x := .tmp 66) (by rfl) f58 f66 HTL.out ?_; intro v W' hs; exact f.out v W' trivial trivial (by simpa [upB, upd, q12, q13, q14, q17] using hs)
      refine EC 17 rfl (fun g h W F a b c d e H K f => ?_) ?_
      ·have f67 : F.tmps.getD 67 undef = h 13 := (a 67).trans (by kernel_rfl); have q13 := (H 13 uE).1; have q17 := c 17 uE; rw [b, q13, q17] at e; obtain ⟨u, st, e13, hs⟩ := e.ext1; have g67 := f67.trans e13; clear H c b d a; refine oP rfl ?_; go_simp; exact f.out _ _ trivial trivial (by simpa [upB, upd, q13, q17] using hs)
      refine EC 18 rfl (fun g h W F a b c d e H K f => ?_) ?_
      ·have f56 := gE (a 56) (by kernel_rfl) (H 3) (by kernel_rfl); have f68 : F.tmps.getD 68 undef = h 15 := (a 68).trans (by kernel_rfl); have f69 : F.tmps.getD 69 undef = h 16 := (a 69).trans (by kernel_rfl); have q13 := (H 13 (uM 16 uE)).1; have q15 := (H 15 uE).1; have q16 := (H 16 uE).1; rw [b, q13, q15, q16] at e; obtain ⟨W', hrun, hs⟩ := e.stored; clear H c b d a; refine oP rfl ?_; go_simp; exact f.out undef _ trivial trivial (by simpa [upB, upd, q13, q15, q16] using hs)
      exact EN
     ·intro dn xv W hI H; have q17 := (H 17 (of_decide_eq_true (by kernel_rfl))).1; rw [q17] at hI; have hS := MapSt.done hI; clear H hI; simp only [putAll, Act.put, List.setIfInBounds_toArray, List.set_cons_zero, List.set_cons_succ, Nat.reduceAdd]; have HS7 := Lib.hid ((hS.drop 1).drop 1); clear hS HS6
      go_wp2_with fail
      go_roundw
      case rel => exact ⟨k + 1, _, by omega, by go_num, HT2, HS7⟩
      case measure => simp [intOf]; omega
    ·have hk4 : (kind == 3) = false := by simpa using hk3
     have HT2 : Hid (t = tellE told (0, inc, known, i1, conn) ((LE.map Prod.fst).take (k + 1))) := Lib.hid (by rw [HT1.out, if_neg hk3]); clear hk3
     go_wp2_with fail
     go_roundw
     case rel => exact ⟨k + 1, t, by omega, by go_num, HT2, HS2⟩
     case measure => simp [intOf]; omega
   ·have hlt : decide (k < mE) = false := decide_eq_false hkm; have hkk : k = mE := by omega
    have HKK := Lib.hid hkk; clear hkm hkk
    go_wp2_with fail
    go_end0
    refine ⟨rfl, .slice A2 (nw + m) c2, ?_⟩; have h1 := HS2.out; have ht := HT.out; rw [HKK.out, ← HmE.out, List.take_of_length_le (by simp)] at ht; rw [ht] at h1; have h2 := ((h1.drop 1).drop 1).drop 1; exact ((((h2).tF 0 rfl).tF 3 rfl).tF 3 rfl).tF 3 rfl
end Go.Proofs.Ytngegjboenfmeaa
/- Blocks that stay, as a thing that lies apart; a loop's books let go. No program in sight. -/
namespace Go.Proofs.Ytngegjboenfmeaa
open Go Go.RowKit
set_option linter.unusedVariables false

/-- blocks that are as they were -/
def Fx (lo hi : Nat) (X : World) : SP := fun w F => (∀ k, F k ↔ lo ≤ k ∧ k < hi) ∧ ∀ k, lo ≤ k → k < hi → w.heap[k]? = X.heap[k]? ∧ k < w.heap.size
theorem Fx.loc (lo hi : Nat) (X : World) : Loc (Fx lo hi X) where
 keep := by
  rintro w w' F ⟨h0, h1⟩ hk; exact ⟨h0, fun k a b => ⟨(hk k ((h0 k).2 ⟨a, b⟩)).trans (h1 k a b).1, lt_keep (h1 k a b).2 (hk k ((h0 k).2 ⟨a, b⟩))⟩⟩
 lt := by
  rintro w F ⟨h0, h1⟩ k hk; exact (h1 k ((h0 k).1 hk).1 ((h0 k).1 hk).2).2
theorem sep_fx {w0 w X : World} {Ps : List SP} (h : Sep w0 w Ps) (hb : Below w.heap.size w X) : Sep w0 X (Fx w.heap.size X.heap.size X :: Ps) :=
 (h.add (F := fun k => w.heap.size ≤ k ∧ k < X.heap.size) hb ⟨fun k => Iff.rfl, fun k a b => ⟨rfl, b⟩⟩ (Fx.loc _ _ _) (fun k hk => hk.1)).lastFront
theorem mid_fx {w0 w1 W W' X : World} {Ps Qs : List SP} {i j lo hi : Nat} (h : Sep w0 W Ps) (hI : Ps[i]? = some (Fx lo hi X)) (h' : Sep w1 W' Qs) (hj : Qs[j]? = some (Fx lo hi X)) : MidB lo hi W W' := by
 obtain ⟨F, _, h1⟩ := h.get hI; obtain ⟨G, _, h2⟩ := h'.get hj; exact ⟨fun k a b => (h2 k a b).1.trans (h1 k a b).1.symm⟩
theorem sep_bkGone {w0 w : World} {Ps : List SP} {D : Nat} {r : Loop} (h : Sep w0 w (Bk D r :: Ps)) : Sep w0 (w.putObj D (.deferred none)) Ps := by
 obtain ⟨F, ⟨h1, h2, hF⟩, hL, hlt, hk⟩ := h.upd (i := 0) rfl; have hl := lt_of_obj h1; exact (hk (w.putObj D (.deferred none)) (Fx (D + 1) (D + 1) w) (fun _ => False) ⟨rfl, rfl, rfl, by simp, fun k _ hnF => World.putObj_heap_other (fun e => hnF ((hF k).2 (.inl e))), fun k hk => hk.elim⟩
  ⟨fun k => ⟨fun h => h.elim, fun h => by omega⟩, fun k a b => by omega⟩ (Fx.loc _ _ _)).popF
theorem sep_bkAt' {w0 w : World} {Ps : List SP} {i D : Nat} {r : Loop} (h : Sep w0 w Ps) (hi : Ps[i]? = some (Bk D r)) : w.heap[D]? = some (.deferred (some [])) := by
 obtain ⟨F, h1, h2, _⟩ := h.get hi; exact h1
end Go.Proofs.Ytngegjboenfmeaa
/- The chapter's first example of the statements over window: awake. -/
namespace Go.Proofs.Ytngegjboenfmeaa
open Go Go.RowKit Go.Shelf
set_option linter.unusedVariables false
set_option maxRecDepth 100000
attribute [local go_sem] Oper.semAt_some

/-- a function whose body holds a range over a function -/
theorem calls_marks (n : Nat) {f : FuncId} {fn : Func} {c : Code} {args : Array Value} {w : World} {R : Ending → World → Prop} (hf : Try.prog.funcs[f]? = some fn) (hb : fn.body = some c)
  (h : c.wp Try.prog (bodyPostM Fence.wide n Try.prog fn R) { tmps := args ++ Array.replicate (fn.ntmps - args.size) undef, defers := [] } w) : Calls Try.prog f args w R :=
 callsIn_wide.1 (callsIn_of_wp_marks (n := n) hf hb trivial (wpIn_wide.2 h) rfl)

end Go.Proofs.Ytngegjboenfmeaa
