/- The walks of package window's small functions and of the document's: bodies in memory, slices.Clone, may, copied, due, Take. -/
import Derived.Test.YtngegjboenfmeaaBytes
import Derived.Deep.CutBlock
import Derived.Deep.DeepCutAuto
namespace Go.Proofs.Ytngegjboenfmeaa
open Go Go.RowKit
set_option linter.unusedVariables false
set_option maxRecDepth 100000

/-- bodies in memory: the cells at A are slices that hold L -/
def Bx (w : World) (B : Nat) (A : Option Addr) (L : List (List UInt8)) : Prop := ∃ vs, Has w B A vs ∧ Parts w B vs L
theorem Bx.below {w w' : World} {B : Nat} {A : Option Addr} {L : List (List UInt8)} (h : Bx w B A L) (hb : Below B w w') : Bx w' B A L := by
  obtain ⟨vs, h1, h2⟩ := h
  exact ⟨vs, h1.below hb, h2.below hb⟩
theorem Sl.more {w : World} {B B' n : Nat} {v : Value} {xs : List Value} (h : Sl w B n v xs) (hB : B ≤ B') : Sl w B' n v xs := by
  obtain ⟨A, m, c, h1, h2, h3, h4, h5, h6⟩ := h
  exact ⟨A, m, c, h1, h2, h3, h4, h5, h6.more hB⟩
theorem Bx.more {w : World} {B B' : Nat} {A : Option Addr} {L : List (List UInt8)} (h : Bx w B A L) (hB : B ≤ B') : Bx w B' A L := by
  obtain ⟨vs, h1, h2⟩ := h
  exact ⟨vs, h1.more hB, h2.1, fun i v l hv hl => (h2.2 i v l hv hl).more hB⟩
theorem Bx.nil {w : World} {B : Nat} {A : Option Addr} : Bx w B A [] := ⟨[], Has.nil, Parts.nil⟩
/-- a body of it -/
theorem Bx.at_ {w : World} {B : Nat} {A : Option Addr} {L : List (List UInt8)} (h : Bx w B A L) {k : Nat} (hk : k < L.length) :
    ∃ b o A1 c1, A = some ⟨b, o, none⟩ ∧ b < B ∧ w.cell? ⟨b, o + k, none⟩ = some (.slice A1 (L[k]).length c1) ∧ (L[k]).length ≤ c1 ∧ c1 ≤ maxLen ∧ (L[k]).length ≤ 140737488355328 ∧ Has w B A1 (us L[k]) := by
  obtain ⟨vs, h1, h2⟩ := h
  have hl := h2.1
  obtain ⟨b, o, rfl, hb, hc⟩ := h1.at_ (show k < vs.length by omega)
  obtain ⟨A1, c1, hv, hr⟩ := h2.at_ (show k < vs.length by omega)
  rw [hv] at hc
  exact ⟨b, o, A1, c1, rfl, hb, hc, hr⟩
theorem Parts.take {w : World} {B : Nat} {vs : List Value} {L : List (List UInt8)} (h : Parts w B vs L) (k : Nat) : Parts w B (vs.take k) (L.take k) :=
  ⟨by have := h.1; simp; omega, fun i v l hv hl => by
    rw [List.getElem?_take] at hv hl
    split at hv
    · rw [if_pos ‹_›] at hl; exact h.2 i v l hv hl
    · cases hv⟩
theorem Parts.drop {w : World} {B : Nat} {vs : List Value} {L : List (List UInt8)} (h : Parts w B vs L) (k : Nat) : Parts w B (vs.drop k) (L.drop k) :=
  ⟨by have := h.1; simp; omega, fun i v l hv hl => by
    rw [List.getElem?_drop] at hv hl
    exact h.2 _ v l hv hl⟩
theorem Bx.take {w : World} {B : Nat} {A : Option Addr} {L : List (List UInt8)} (h : Bx w B A L) (k : Nat) : Bx w B A (L.take k) := by
  obtain ⟨vs, h1, h2⟩ := h
  exact ⟨_, h1.take k, h2.take k⟩
theorem Bx.drop {w : World} {B : Nat} {A : Option Addr} {L : List (List UInt8)} (h : Bx w B A L) (k cap : Nat) (hc : L.length ≤ cap) : Bx w B (if cap = k then A else A.map (·.add (k * 1))) (L.drop k) := by
  obtain ⟨vs, h1, h2⟩ := h
  have := h1.drop k 1 cap (by have := h2.1; omega)
  rw [Nat.mul_one] at this ⊢
  exact ⟨_, this, h2.drop k⟩

theorem info_bs : (Try.prog.info? 47).map (fun i => (i.zero, i.size, i.bytes)) = some (some (.slice none 0 0), 1, 24) := by kernel_rfl

/-- bodies of the call's own -/
def OwnB (w : World) (base : Nat) (v : Value) (L : List (List UInt8)) : Prop :=
  ∃ vs, vs.length = L.length ∧ w.ownsRow base 47 1 v L.length vs ∧ ∀ (i : Nat) (u : Value) (l : List UInt8), vs[i]? = some u → L[i]? = some l → Own w base u l ∧ ∀ g, u.ownBlock = some g → v.ownBlock ≠ some g
theorem OwnB.nil (w : World) (base : Nat) : OwnB w base (.slice none 0 0) [] := ⟨[], rfl, World.ownsRow_nil w base _ 1, fun i u l h => by simp at h⟩
theorem own_lt {w : World} {base : Nat} {v : Value} {l : List UInt8} {g : Nat} (h : Own w base v l) (hg : v.ownBlock = some g) : base ≤ g ∧ g < w.heap.size := by
  have := World.ownsRow.lt h g hg
  exact this
theorem row_keep {w w' : World} {base e n : Nat} {v : Value} {xs : List Value} (h : w.ownsRow base e 1 v n xs) (hk : ∀ k, v.ownBlock = some k → w'.heap[k]? = w.heap[k]?) : w'.ownsRow base e 1 v n xs := by
  refine ⟨h.1, ?_⟩
  rcases h.2 with h0 | ⟨g, cap, cur, rfl, h2, h3, h4⟩
  · exact .inl h0
  · exact .inr ⟨g, cap, cur, rfl, h2, by rw [hk g rfl]; exact h3, h4⟩
theorem OwnB.keep {w w' : World} {base : Nat} {v : Value} {L : List (List UInt8)} (h : OwnB w base v L) (hk : ∀ k, base ≤ k → k < w.heap.size → w'.heap[k]? = w.heap[k]?) : OwnB w' base v L := by
  obtain ⟨vs, h1, h2, h3⟩ := h
  refine ⟨vs, h1, row_keep h2 fun k hv => ?_, fun i u l hu hl => ⟨?_, (h3 i u l hu hl).2⟩⟩
  · have := World.ownsRow.lt h2 k hv
    exact hk k this.1 this.2
  · refine row_keep (h3 i u l hu hl).1 fun k hv => ?_
    have := own_lt (h3 i u l hu hl).1 hv
    exact hk k this.1 this.2
theorem OwnB.below {w w' : World} {base : Nat} {v : Value} {L : List (List UInt8)} (h : OwnB w base v L) (hb : Below w.heap.size w w') : OwnB w' base v L :=
  h.keep fun k _ hk => hb.block k hk
theorem OwnB.form {w : World} {base : Nat} {v : Value} {L : List (List UInt8)} (h : OwnB w base v L) (hL : ∀ l ∈ L, l.length ≤ 140737488355328) : ∃ A c, v = .slice A L.length c ∧ L.length ≤ c ∧ c ≤ maxLen ∧ Bx w w.heap.size A L := by
  obtain ⟨vs, h1, h2, h3⟩ := h
  have hp : Parts w w.heap.size vs L := ⟨h1, fun i u l hu hl => by
    obtain ⟨A, c, rfl, ha, hb, hc⟩ := (h3 i u l hu hl).1.form
    exact Sl.mk' hc ha hb (hL l (List.mem_of_getElem? hl))⟩
  have h2' := h2
  rcases h2.2 with ⟨rfl, hn⟩ | ⟨g, cap, cur, rfl, _, _, hnc, hm, _⟩
  · refine ⟨none, 0, by rw [hn], by omega, by unfold maxLen; omega, vs, ?_, hp⟩
    rw [List.eq_nil_of_length_eq_zero (show vs.length = 0 by omega)]
    exact Has.nil
  · exact ⟨_, cap, rfl, hnc, hm, vs, Has.of_own h2', hp⟩
theorem OwnB.mono {w : World} {b b' : Nat} {v : Value} {L : List (List UInt8)} (h : OwnB w b v L) (hb : b' ≤ b) : OwnB w b' v L := by
  obtain ⟨vs, h1, h2, h3⟩ := h
  refine ⟨vs, h1, ⟨h2.1, ?_⟩, fun i u l hu hl => ⟨own_mono (h3 i u l hu hl).1 hb, (h3 i u l hu hl).2⟩⟩
  rcases h2.2 with h0 | ⟨g, cap, cur, h1, h2, h3⟩
  · exact .inl h0
  · exact .inr ⟨g, cap, cur, h1, Nat.le_trans hb h2, h3⟩

/-- what is new lies apart from what was there -/
theorem apart_new {w w' : World} {base : Nat} {v u : Value} {L : List (List UInt8)} {l : List UInt8} (h : OwnB w base v L) (hu : Own w' w.heap.size u l) : ∀ g, u.ownBlock = some g → v.ownBlock ≠ some g := by
  intro g hg hv
  obtain ⟨vs, _, h2, _⟩ := h
  have h1 := (World.ownsRow.lt h2 g hv).2
  have h3 := (own_lt hu hg).1
  omega
/-- a body is put behind bodies of the call's own -/
theorem run_appB {w : World} {ty : TypeId} {base B c : Nat} {v u : Value} {A : Option Addr} {L : List (List UInt8)} {l : List UInt8}
    (hown : OwnB w base v L) (hu : Own w base u l) (hap : ∀ g, u.ownBlock = some g → v.ownBlock ≠ some g) (hr : Has w B A [u]) (hlen : L.length ≤ 1000000000000) (hbase : base ≤ w.heap.size) :
    ∃ v' w', (Builtin.append_ #[66, 66] ty #[v, .slice A 1 c]).run Try.prog w = .ok v' w' ∧ OwnB w' base v' (L ++ [l]) ∧ Below base w w' := by
  obtain ⟨i0, hi, hz0, hz1, hz2⟩ := info_parts info_bs
  obtain ⟨vs, h1, h2, h3⟩ := hown
  have hone : u.oneCell' = true := by
    obtain ⟨A', c', rfl, _⟩ := hu.form
    rfl
  obtain ⟨v', w', hrun, g1, g2, g3⟩ := run_append_has (P := Try.prog) w base 66 ty 47 i0 _ 1 24 Try.underlying66 hi hz0 hz1 hz2 rfl (by omega) v L.length vs h2 B A 1 c [u] (by simp) hr (by simpa using hone) (by unfold maxLen; omega) (by omega) hbase
  have hbel : Below base w w' := (Below.refl _ _).grown g2 hbase (fun k hk => (World.ownsRow.lt h2 k hk).1)
  have hkeep : ∀ u' l', Own w base u' l' → (∀ g, u'.ownBlock = some g → v.ownBlock ≠ some g) → Own w' base u' l' ∧ ∀ g, u'.ownBlock = some g → v'.ownBlock ≠ some g := fun u' l' hu' ha' =>
    ⟨row_keep hu' fun k hk => g2.block k (own_lt hu' hk).2 (fun e => ha' k hk e.symm), fun g hg e => by
      rcases g3 with g3 | g3
      · exact ha' g hg (g3.symm.trans e)
      · rw [g3] at e
        injection e with e
        have := (own_lt hu' hg).2
        omega⟩
  refine ⟨v', w', hrun, ⟨vs ++ [u], by simp [h1], by rw [List.length_append]; exact g1, fun i u' l' hu' hl' => ?_⟩, hbel⟩
  rcases Nat.lt_or_ge i vs.length with hlt | hge
  · rw [List.getElem?_append_left hlt] at hu'
    rw [List.getElem?_append_left (by omega)] at hl'
    exact hkeep u' l' (h3 i u' l' hu' hl').1 (h3 i u' l' hu' hl').2
  · rw [List.getElem?_append_right hge] at hu'
    rw [List.getElem?_append_right (by omega)] at hl'
    have hi0 : i - vs.length = 0 := by
      rcases Nat.eq_zero_or_pos (i - vs.length) with h0 | h0
      · exact h0
      · rw [List.getElem?_eq_none (by simp; omega)] at hu'; cases hu'
    rw [hi0] at hu'
    rw [show i - L.length = 0 by omega] at hl'
    simp at hu' hl'
    subst hu' hl'
    exact hkeep _ _ hu hap
theorem op_appB {w : World} {o : Oper} {a : Act} {K : Act → World → Prop} {Q : Exit → Act → World → Prop} {s x : Operand} {base B c : Nat} {v u : Value} {A : Option Addr} {L : List (List UInt8)} {l : List UInt8}
    (ho : o.op = .call { callee := .builtin .append, args := #[s, x], argTypes := #[66, 66] }) (hs : a.eval s = v) (hx : a.eval x = .slice A 1 c)
    (hown : OwnB w base v L) (hu : Own w base u l) (hap : ∀ g, u.ownBlock = some g → v.ownBlock ≠ some g) (hr : Has w B A [u]) (hlen : L.length ≤ 1000000000000) (hbase : base ≤ w.heap.size)
    (h : ∀ v' w', OwnB w' base v' (L ++ [l]) → Below base w w' → K (a.put o.dst v') w') : Oper.wp Try.prog o a w K Q := by
  obtain ⟨v', w', hrun, h1, h2⟩ := run_appB (ty := o.type) (c := c) hown hu hap hr hlen hbase
  unfold Oper.wp execOp
  simp only [ho, resolve, invoke, builtin, Sem.run_bind, Sem.run_pure, Result.andThen_ok, List.map_toArray, List.map_cons, List.map_nil, hs, hx, hrun]
  exact h v' w' h1 h2
theorem wp_appB {w : World} {ops : Array Oper} {rest : List Oper} {o : Oper} {a : Act} {Q : Exit → Act → World → Prop} {s x : Operand} {base B c : Nat} {v u : Value} {A : Option Addr} {L : List (List UInt8)} {l : List UInt8} (hgd : o.guard = none)
    (ho : o.op = .call { callee := .builtin .append, args := #[s, x], argTypes := #[66, 66] }) (hs : a.eval s = v) (hx : a.eval x = .slice A 1 c)
    (hown : OwnB w base v L) (hu : Own w base u l) (hap : ∀ g, u.ownBlock = some g → v.ownBlock ≠ some g) (hr : Has w B A [u]) (hlen : L.length ≤ 1000000000000) (hbase : base ≤ w.heap.size)
    (h : ∀ v' w', OwnB w' base v' (L ++ [l]) → Below base w w' → wpList Try.prog ops Q rest (a.put o.dst v') w') : wpList Try.prog ops Q (o :: rest) a w :=
  wpList_plain hgd fun K hK => op_appB ho hs hx hown hu hap hr hlen hbase fun v' w' h1 h2 => hK _ _ (h v' w' h1 h2)

set_option maxHeartbeats 400000 in
theorem clone_any (w : World) (B : Nat) (A : Option Addr) (c : Nat) (l : List UInt8) (h : Has w B A (us l)) (hB : B ≤ w.heap.size) (hl : l.length ≤ 1000000000) :
    Calls Try.prog 44 #[.slice A l.length c] w fun e w' => ∃ v, e = .returned v ∧ Own w' w.heap.size v l ∧ Below w.heap.size w w' := by
  rcases A with _ | a
  · have hl0 : l = [] := by
      cases l with
      | nil => rfl
      | cons x l =>
        obtain ⟨b, o, h, _⟩ := h.at_ (show 0 < (us (x :: l)).length by simp [us])
        cases h
    subst hl0
    have hq := Lib.run_eql_slice_nil (P := Try.prog) w 47 5 none 0 c 0 0 Try.underlying47
    go_enter Try.func44, Try.ntmps44
    go_wp2
    go_ret
    exact ⟨_, rfl, Own.nil _ _, Below.refl _ _⟩
  · have hq := Lib.run_eql_slice_nil (P := Try.prog) w 47 5 (some a) l.length c 0 0 Try.underlying47
    go_enter Try.func44, Try.ntmps44
    go_wp2_with (at_builtin; refine wp_app (c := c) rfl rfl (by rfl) (by rfl) (own_empty w) (h.alloc hB _) (by simp; omega) (by simp) ?_; intro v' w1 hown1 hb1 _ _)
    go_ret
    exact ⟨v', rfl, hown1, ((Below.refl _ _).alloc (Nat.le_refl _) _).trans hb1⟩

/-- the lists that are copied are short -/
def Fit (L : List (List UInt8)) : Prop := L.length ≤ 1000000 ∧ ∀ l ∈ L, l.length ≤ 1000000
theorem Fit.take {L : List (List UInt8)} (h : Fit L) (k : Nat) : Fit (L.take k) := ⟨by have := h.1; simp; omega, fun l hl => h.2 l (List.mem_of_mem_take hl)⟩
theorem Fit.drop {L : List (List UInt8)} (h : Fit L) (k : Nat) : Fit (L.drop k) := ⟨by have := h.1; simp; omega, fun l hl => h.2 l (List.mem_of_mem_drop hl)⟩

set_option maxHeartbeats 800000 in
theorem copied_any (w : World) (B : Nat) (A : Option Addr) (c : Nat) (L : List (List UInt8)) (h : Bx w B A L) (hB : B ≤ w.heap.size) (hf : Fit L) :
    Calls Try.prog 58 #[.slice A L.length c] w fun e w' => ∃ v, e = .returned v ∧ OwnB w' w.heap.size v L ∧ Below w.heap.size w w' := by
  have h1 := hf.1
  have HF := Lib.hid hf.2
  have H := Lib.hid h
  clear h hf
  go_enter Try.func58, Try.ntmps58
  go_wp2
  go_loopw [3, 8] (fun v i wr => ∃ k : Nat, k ≤ L.length ∧ i = .int .i64 (k : Int) ∧ OwnB wr w.heap.size v (L.take k) ∧ Below w.heap.size w wr) (fun _ i _ => L.length - (intOf i).toNat)
  case atStart => exact ⟨0, by omega, rfl, OwnB.nil _ _, Below.refl _ _⟩
  case round =>
    obtain ⟨k, hk, rfl, ho, hb⟩ := hrel
    have HO := Lib.hid ho
    clear ho
    by_cases hlt : k < L.length
    · obtain ⟨b, o, A1, c1, rfl, hbB, hc, q1, q2, q3, hh⟩ := (H.out.below (hb.mono hB)).at_ hlt
      have HH := Lib.hid hh
      have hle := HF.out L[k] (List.getElem_mem hlt)
      clear hh
      obtain ⟨l, Hl⟩ : ∃ l, Hid (L[k] = l) := ⟨_, Lib.hid rfl⟩
      rw [Hl.out] at hc q1 q3 HH hle
      go_wp2_with fail
      refine (clone_any wr B A1 c1 l HH.out (Nat.le_trans hB hb.size) (by omega)).mono ?_
      rintro e w1 ⟨v1, rfl, ho1, hb1⟩
      obtain ⟨A2, c2, rfl, _, _, _⟩ := ho1.form
      have HO1 := Lib.hid ho1
      have HP := Lib.hid (HO.out.below hb1)
      have hz := hb.size
      have hz1 := hb1.size
      clear ho1
      go_wp2_with (at_builtin; go_must (refine wp_appB (base := w.heap.size) (u := .slice A2 l.length c2) (l := l) rfl rfl (by rfl) (by rfl) (HP.out.below ((Below.refl _ _).alloc (Nat.le_refl _) _)) (own_mono (own_below HO1.out ((Below.refl _ _).alloc (Nat.le_refl _) _) (Nat.le_refl _)) hz) (apart_new HO.out HO1.out) (has_new w1 #[.slice A2 l.length c2] 47) (by simp; omega) (le_alloc (by omega) _) ?_); intro v' w2 hown2 hb2)
      go_roundw
      case rel =>
        refine ⟨k + 1, by omega, by go_num, ?_, (hb.trans (hb1.mono hz)).trans (((Below.refl _ _).alloc (by omega) _).trans hb2)⟩
        rw [List.take_succ_eq_append_getElem hlt, Hl.out]
        exact hown2
      case measure => simp [intOf]; omega
    · go_wp2
      go_ret
      rw [List.take_of_length_le (by omega)] at HO
      exact ⟨_, rfl, HO.out, hb⟩
end Go.Proofs.Ytngegjboenfmeaa
