/- A region that draws its order, some of whose operations turn the memory, one behind the other: each operation is shown once. No program in sight. -/
import Derived.Test.YtngegjboenfmeaaRg
namespace Go.Proofs.Ytngegjboenfmeaa
open Go
set_option linter.unusedVariables false

def upB (d : Nat → Bool) (i : Nat) : Nat → Bool := fun j => if j = i then true else d j
theorem upB_self (d : Nat → Bool) (i : Nat) : upB d i i = true := by simp [upB]
theorem upB_ne (d : Nat → Bool) {i j : Nat} (h : j ≠ i) : upB d i j = d j := by simp [upB, h]

/-- what a slot holds ahead of the region -/
def iniOf (l : List Oper) (a : Act) (j : Nat) : Value := match (l[j]?).bind (·.dst) with
  | some d => a.tmps.getD d undef
  | none => undef
section
variable {P : Program} {l : List Oper} {Q : Exit → Act → World → Prop} {a : Act} {I : (Nat → Bool) → (Nat → Value) → World → Prop} {R : World → World → Prop} {D : Nat → Value → World → Prop}
/-- each operation from number i on, some having come (d), by what they have left (x) -/
def EachOpS (P : Program) (l : List Oper) (Q : Exit → Act → World → Prop) (a : Act) (I : (Nat → Bool) → (Nat → Value) → World → Prop) (R : World → World → Prop) (D : Nat → Value → World → Prop) : Nat → List Oper → Prop
  | _, [] => True
  | i, o :: rest => (∀ (d : Nat → Bool) (x : Nat → Value) (w : World), d i = false → (∀ j, Up l j i → d j = false) → (∀ j, d j = false → x j = iniOf l a j) → I d x w → (∀ j, Up l i j → d j = true ∧ D j (x j) w) → ∀ K : Act → World → Prop, Shut (∀ a' v w', a' = (putAll l 0 x a).put o.dst v → D i v w' → R w w' → I (upB d i) (upd x i v) w' → K a' w') →
      if Region.wanted o (yielded l.toArray (putAll l 0 x a).tmps) = true then Oper.wp P o (putAll l 0 x a) w K Q else K ((putAll l 0 x a).put o.dst undef) w) ∧ EachOpS P l Q a I R D (i + 1) rest
theorem EachOpS.nil {i : Nat} : EachOpS P l Q a I R D i [] := trivial
theorem EachOpS.cons {i : Nat} {o : Oper} {rest : List Oper} (k : Nat) (hk : i + 1 = k)
    (h : ∀ (d : Nat → Bool) (x : Nat → Value) (w : World), d i = false → (∀ j, Up l j i → d j = false) → (∀ j, d j = false → x j = iniOf l a j) → I d x w → (∀ j, Up l i j → d j = true ∧ D j (x j) w) → ∀ K : Act → World → Prop, Shut (∀ a' v w', a' = (putAll l 0 x a).put o.dst v → D i v w' → R w w' → I (upB d i) (upd x i v) w' → K a' w') →
      if Region.wanted o (yielded l.toArray (putAll l 0 x a).tmps) = true then Oper.wp P o (putAll l 0 x a) w K Q else K ((putAll l 0 x a).put o.dst undef) w)
    (t : EachOpS P l Q a I R D k rest) : EachOpS P l Q a I R D i (o :: rest) := ⟨h, hk ▸ t⟩
theorem EachOpS.at_ : ∀ {rest : List Oper} {i k : Nat} {o : Oper}, EachOpS P l Q a I R D i rest → rest[k]? = some o →
    ∀ (d : Nat → Bool) (x : Nat → Value) (w : World), d (i + k) = false → (∀ j, Up l j (i + k) → d j = false) → (∀ j, d j = false → x j = iniOf l a j) → I d x w → (∀ j, Up l (i + k) j → d j = true ∧ D j (x j) w) → ∀ K : Act → World → Prop, Shut (∀ a' v w', a' = (putAll l 0 x a).put o.dst v → D (i + k) v w' → R w w' → I (upB d (i + k)) (upd x (i + k) v) w' → K a' w') →
      if Region.wanted o (yielded l.toArray (putAll l 0 x a).tmps) = true then Oper.wp P o (putAll l 0 x a) w K Q else K ((putAll l 0 x a).put o.dst undef) w
  | [], i, k, o, _, hk => by simp at hk
  | o0 :: rest, i, 0, o, h, hk => by
    simp only [List.getElem?_cons_zero, Option.some.injEq] at hk
    subst hk
    exact h.1
  | o0 :: rest, i, k + 1, o, h, hk => by
    have := EachOpS.at_ (rest := rest) (i := i + 1) (k := k) (o := o) h.2 (by simpa using hk)
    rw [show i + 1 + k = i + (k + 1) by omega] at this
    exact this

theorem up_unlisted {d : Nat → Bool} (hc : ∀ j k, d j = true → edgeB l j k = true → d k = true) : ∀ {i j : Nat}, Up l j i → d i = false → d j = false := by
  intro i j h
  induction h with
  | edge h =>
    intro h2
    rename_i i0 j0
    cases e : d i0 with
    | false => rfl
    | true => rw [hc _ _ e h] at h2; cases h2
  | more h t ih =>
    intro h2
    rename_i i0 j0 k0
    have h3 := ih h2
    cases e : d i0 with
    | false => rfl
    | true => rw [hc _ _ e h] at h3; cases h3

theorem getD_set_eq {listed : Array Bool} {i : Nat} (hi : i < listed.size) : (fun j => (listed.setIfInBounds i true).getD j false) = upB (fun j => listed.getD j false) i := by
  funext j
  by_cases h : j = i
  · subst h
    simp [upB, hi]
  · rw [upB_ne _ h, getD_set_ne false (Ne.symm h)]

theorem wpAny_stage (hap : apartB (l.map (·.dst)) = true) (htop : topB l = true) (hD : ∀ j v w w', R w w' → D j v w → D j v w')
    (hop : EachOpS P l Q a I R D 0 l) (hend : ∀ d x w, I d x w → (∀ j, j < l.length → d j = true ∧ D j (x j) w) → Q .normal (putAll l 0 x a) w) :
    ∀ (fuel : Nat) (listed : Array Bool) (x : Nat → Value) (w : World), listed.size = l.length → (∀ j k, listed.getD j false = true → edgeB l j k = true → listed.getD k false = true) →
      listed.toList.countP (! ·) ≤ fuel → I (fun j => listed.getD j false) x w → (∀ j, listed.getD j false = false → x j = iniOf l a j) → (∀ j, listed.getD j false = true → D j (x j) w) → wpAny P .any l.toArray Q fuel listed (putAll l 0 x a) w := by
  have hall : ∀ (listed : Array Bool), listed.size = l.length → Region.ready .any l.toArray listed = [] → ∀ j, j < l.length → listed.getD j false = true := by
    intro listed hs hr j
    induction j using Nat.strongRecOn with
    | ind j ih =>
      intro hj
      cases hl : listed.getD j false with
      | true => rfl
      | false =>
        exfalso
        have hm : j ∈ Region.ready .any l.toArray listed := by
          rw [mem_ready]
          refine ⟨?_, l[j], by simp [hj], fun e he hb => ?_⟩
          · have hjs : j < listed.size := by omega
            simp [hjs] at hl ⊢
            exact hl
          · have ht := List.all_eq_true.1 htop j (List.mem_range.2 hj)
            rw [List.getElem?_eq_getElem hj] at ht
            simp only [Option.map_some, Option.getD_some] at ht
            have := Array.all_eq_true'.1 ht e he
            rw [hb] at this
            simp at this
            exact ih e.on this (by omega)
        rw [hr] at hm
        cases hm
  intro fuel
  induction fuel with
  | zero =>
    intro listed x w hs hcl hcnt hI hX hd
    have hz : ∀ j, j < l.length → listed.getD j false = true := by
      intro j hj
      have hc0 : listed.toList.countP (! ·) = 0 := by omega
      rw [List.countP_eq_zero] at hc0
      have hjs : j < listed.size := by omega
      have := hc0 listed[j] (by simp)
      simp at this
      simp [hjs, this]
    have hr : Region.ready .any l.toArray listed = [] := by
      rcases hne : Region.ready .any l.toArray listed with _ | ⟨i, rs⟩
      · rfl
      · have hm : i ∈ Region.ready .any l.toArray listed := by rw [hne]; simp
        have hlt := getD_of_ready hm
        have h1 := (mem_ready.1 hm).1
        have h2 := hz i (by omega)
        simp [hlt] at h1 h2
        rw [h1] at h2
        cases h2
    exact ⟨hr, hend _ x w hI fun j hj => ⟨hz j hj, hd j (hz j hj)⟩⟩
  | succ fuel ih =>
    intro listed x w hs hcl hcnt hI hX hd
    refine ⟨fun hr => hend _ x w hI fun j hj => ⟨hall listed hs hr j hj, hd j (hall listed hs hr j hj)⟩, fun i hi => ?_⟩
    have hlt := getD_of_ready hi
    obtain ⟨hun, o, ho, hbel⟩ := mem_ready.1 hi
    have hedge : ∀ k, edgeB l i k = true → listed.getD k false = true := by
      intro k hk
      have ho' : l[i]? = some o := by simpa using ho
      unfold edgeB at hk
      rw [ho'] at hk
      simp only [Option.map_some, Option.getD_some] at hk
      obtain ⟨e, he, hb⟩ := Array.any_eq_true'.1 hk
      simp only [Bool.and_eq_true, beq_iff_eq] at hb
      rw [← hb.2]
      exact hbel e he hb.1
    refine wpOp_step ho fun K' hK => ?_
    have ho' : l[i]? = some o := by simpa using ho
    have hun0 : listed.getD i false = false := by simpa [hlt] using hun
    have hstep := EachOpS.at_ (k := i) hop ho' (fun j => listed.getD j false) x w (by rw [Nat.zero_add]; exact hun0) (fun j hj => up_unlisted (l := l) (d := fun j => listed.getD j false) hcl (by rw [Nat.zero_add] at hj; exact hj) hun0) hX hI (fun j hj => by
      have h7 := up_listed hcl (by rw [Nat.zero_add] at hj; exact hj) hedge
      exact ⟨h7, hd j h7⟩) K'
    refine hstep fun a' v w' ha' hv hR hI' => ?_
    subst ha'
    apply hK
    have hpu := putAll_upd l 0 i x a o v hap ho'
    rw [Nat.zero_add] at hpu hv hI'
    rw [← hpu]
    have hun' : listed[i] = false := by simpa [hlt] using hun
    refine ih (listed.setIfInBounds i true) (upd x i v) w' (by simpa using hs) (fun j k hj hk => ?_) ?_ (by rw [getD_set_eq hlt]; exact hI') (fun j hj => ?_) (fun j hj => ?_)
    · by_cases hji : i = j
      · subst hji
        exact getD_set_true (hedge k hk)
      · rw [getD_set_ne false hji] at hj
        exact getD_set_true (hcl j k hj hk)
    · have : (listed.setIfInBounds i true).toList.countP (! ·) + 1 = listed.toList.countP (! ·) := by
        rw [Array.toList_setIfInBounds]
        have h1 := List.countP_set (p := (! ·)) (l := listed.toList) (i := i) (a := true) (by simpa using hlt)
        rw [h1]
        have h2 : 0 < listed.toList.countP (! ·) := List.countP_pos_iff.2 ⟨listed[i], by simp, by simp [hun']⟩
        have h3 : listed.toList[i]'(by simpa using hlt) = false := by simpa using hun'
        rw [h3]
        simp only [Bool.not_false, Bool.not_true, if_true, Bool.false_eq_true, if_false]
        omega
      omega
    · by_cases hji : i = j
      · subst hji
        simp [hlt] at hj
      · rw [getD_set_ne false hji] at hj
        rw [upd_ne x v (Ne.symm hji)]
        exact hX j hj
    · by_cases hji : i = j
      · subst hji
        rw [upd_self]
        exact hv
      · rw [getD_set_ne false hji] at hj
        rw [upd_ne x v (Ne.symm hji)]
        exact hD _ _ _ _ hR (hd j hj)


theorem wp_region_stage {id : Nat} {w : World} (I : (Nat → Bool) → (Nat → Value) → World → Prop) (R : World → World → Prop) (ds : List (Value → World → Prop)) (hm : P.follows .mixedOrders = true)
    (hap : apartB (l.map (·.dst)) = true) (htop : topB l = true) (hI : ∀ x, I (fun _ => false) x w.drew) (hD : AllKeep R ds)
    (hop : EachOpS P l Q a I R (Dl ds) 0 l) (hend : ∀ d x w, I d x w → (∀ j, j < l.length → d j = true ∧ Dl ds j (x j) w) → Q .normal (putAll l 0 x a) w) : (Code.region id l.toArray true).wp P Q a w := by
  refine wp_region_any hm ?_
  have hI2 : I (fun j => (Array.replicate l.length false).getD j false) (iniOf l a) w.drew := by
    have e : (fun j => (Array.replicate l.length false).getD j false) = fun _ => false := by
      funext j
      cases h : (Array.replicate l.length false).getD j false with
      | false => rfl
      | true => exact (no_listed _ _ h).elim
    rw [e]
    exact hI _
  have h := wpAny_stage hap htop (fun j v w w' hR hd => Dl_keep hD j v w w' hR hd) hop hend l.length (Array.replicate l.length false) (iniOf l a) w.drew (by simp) (fun j k hj => ?_) ?_ hI2 (fun j _ => rfl) (fun j hj => ?_)
  · rw [putAll_init l 0 _ a (fun k o d hk hd => by simp [iniOf, hk, hd])] at h
    simpa using h
  · exact (no_listed _ _ hj).elim
  · simpa using List.countP_le_length (p := (! ·)) (l := List.replicate l.length false)
  · exact (no_listed _ _ hj).elim
end
end Go.Proofs.Ytngegjboenfmeaa
