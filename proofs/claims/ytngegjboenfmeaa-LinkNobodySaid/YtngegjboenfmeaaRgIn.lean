/- A region that draws its order, inside a round of a range over a function: each operation is shown once, as outside. No program in sight. -/
import Derived.Test.YtngegjboenfmeaaRgF
import Derived.OrdersIn
import Derived.TacticsIn
import Derived.OwnWalkIn
namespace Go.Proofs.Ytngegjboenfmeaa
open Go
set_option linter.unusedVariables false

section
variable {P : Program} {Q : Exit → Act → World → Prop} {n r : Nat}
theorem rows_in {row : String} {args : Array Value} {w : World} {R : Value → World → Prop} (h : Rows P row args w R) : RowsIn (Fence.wide.inRound r) n P row args w R := fun c cs _ =>
  let ⟨v, w', h1, h2⟩ := h c cs
  ⟨v, w', h1, stepsIn_wide.2 h2⟩
theorem oper_in {o : Oper} {a : Act} {w : World} {K : Act → World → Prop} (hd : ∀ c, o.op ≠ .defer c) (h : o.wp P a w K Q) : o.wpIn (Fence.wide.inRound r) n P a w K Q := by
  refine ⟨fun _ _ => trivial, ?_⟩
  have e : o.semAt (Fence.wide.inRound r).round a.eval = execOp a.eval o := Oper.semAt_some r a.eval o hd
  rw [e]
  unfold Oper.wp at h
  generalize (execOp a.eval o).run P w = res at *
  cases res with
  | ok x w' =>
    cases x with
    | value v => exact h
    | skip => exact h
    | defer d => exact h
    | enter f args => exact ⟨fun h => by simp [Fence.wide] at h, callsIn_wide.2 h⟩
    | row row args => exact ⟨fun h => by simp [Fence.wide] at h, rows_in h⟩
    | _ => exact h.elim
  | halt e w' =>
    cases e with
    | panic v => exact h
    | _ => exact h.elim
theorem wpOpIn_step {ops : Array Oper} {i : Nat} {o : Oper} {K : Act → World → Prop} {a : Act} {w : World} (hd : ∀ c : Call, o.op ≠ .defer c) (ho : ops[i]? = some o)
    (h : ∀ K' : Act → World → Prop, (∀ a w, K a w → K' a w) → if Region.wanted o (yielded ops a.tmps) = true then Oper.wp P o a w K' Q else K' (a.put o.dst undef) w) : wpOpIn (Fence.wide.inRound r) n P ops Q i K a w := by
  have h2 := h K fun _ _ h => h
  unfold wpOpIn
  rw [ho]
  simp only
  split
  · rename_i hw
    rw [if_pos hw] at h2
    exact oper_in hd h2
  · rename_i hw
    rw [if_neg hw] at h2
    exact ⟨fun _ _ => trivial, h2⟩
end

section
variable {P : Program} {l : List Oper} {Q : Exit → Act → World → Prop} {a : Act} {I : (Nat → Bool) → (Nat → Value) → World → Prop} {R : World → World → Prop} {D : Nat → Value → World → Prop}
theorem wpAnyIn_stage {n r : Nat} (hnd : ∀ (i : Nat) (o : Oper), l.toArray[i]? = some o → ∀ c : Call, o.op ≠ .defer c) (hap : apartB (l.map (·.dst)) = true) (htop : topB l = true) (hD : ∀ j v w w', R w w' → D j v w → D j v w')
    (hop : EachOpS P l Q a I R D 0 l) (hend : ∀ d x w, I d x w → (∀ j, j < l.length → d j = true ∧ D j (x j) w) → Q .normal (putAll l 0 x a) w) :
    ∀ (fuel : Nat) (listed : Array Bool) (x : Nat → Value) (w : World), listed.size = l.length → (∀ j k, listed.getD j false = true → edgeB l j k = true → listed.getD k false = true) →
      listed.toList.countP (! ·) ≤ fuel → I (fun j => listed.getD j false) x w → (∀ j, listed.getD j false = false → x j = iniOf l a j) → (∀ j, listed.getD j false = true → D j (x j) w) → wpAnyIn (Fence.wide.inRound r) n P .any l.toArray Q fuel listed (putAll l 0 x a) w := by
  have hall : ∀ (listed : Array Bool), listed.size = l.length → Region.ready .any l.toArray listed = [] → ∀ j, j < l.length → listed.getD j false = true := by
    intro listed hs hr j
    induction j using Nat.strongRecOn with
    | ind j ih =>
      intro hj
      cases hl : listed.getD j false with
      | true => rfl
      | false =>
        exfalso
        have hm : j ∈ Region.ready .any l.toArray listed := by
          rw [mem_ready]
          refine ⟨?_, l[j], by simp [hj], fun e he hb => ?_⟩
          · have hjs : j < listed.size := by omega
            simp [hjs] at hl ⊢
            exact hl
          · have ht := List.all_eq_true.1 htop j (List.mem_range.2 hj)
            rw [List.getElem?_eq_getElem hj] at ht
            simp only [Option.map_some, Option.getD_some] at ht
            have := Array.all_eq_true'.1 ht e he
            rw [hb] at this
            simp at this
            exact ih e.on this (by omega)
        rw [hr] at hm
        cases hm
  intro fuel
  induction fuel with
  | zero =>
    intro listed x w hs hcl hcnt hI hX hd
    have hz : ∀ j, j < l.length → listed.getD j false = true := by
      intro j hj
      have hc0 : listed.toList.countP (! ·) = 0 := by omega
      rw [List.countP_eq_zero] at hc0
      have hjs : j < listed.size := by omega
      have := hc0 listed[j] (by simp)
      simp at this
      simp [hjs, this]
    have hr : Region.ready .any l.toArray listed = [] := by
      rcases hne : Region.ready .any l.toArray listed with _ | ⟨i, rs⟩
      · rfl
      · have hm : i ∈ Region.ready .any l.toArray listed := by rw [hne]; simp
        have hlt := getD_of_ready hm
        have h1 := (mem_ready.1 hm).1
        have h2 := hz i (by omega)
        simp [hlt] at h1 h2
        rw [h1] at h2
        cases h2
    exact ⟨hr, hend _ x w hI fun j hj => ⟨hz j hj, hd j (hz j hj)⟩⟩
  | succ fuel ih =>
    intro listed x w hs hcl hcnt hI hX hd
    refine ⟨fun hr => hend _ x w hI fun j hj => ⟨hall listed hs hr j hj, hd j (hall listed hs hr j hj)⟩, fun i hi => ?_⟩
    have hlt := getD_of_ready hi
    obtain ⟨hun, o, ho, hbel⟩ := mem_ready.1 hi
    have hedge : ∀ k, edgeB l i k = true → listed.getD k false = true := by
      intro k hk
      have ho' : l[i]? = some o := by simpa using ho
      unfold edgeB at hk
      rw [ho'] at hk
      simp only [Option.map_some, Option.getD_some] at hk
      obtain ⟨e, he, hb⟩ := Array.any_eq_true'.1 hk
      simp only [Bool.and_eq_true, beq_iff_eq] at hb
      rw [← hb.2]
      exact hbel e he hb.1
    refine wpOpIn_step (hnd i o ho) ho fun K' hK => ?_
    have ho' : l[i]? = some o := by simpa using ho
    have hun0 : listed.getD i false = false := by simpa [hlt] using hun
    have hstep := EachOpS.at_ (k := i) hop ho' (fun j => listed.getD j false) x w (by rw [Nat.zero_add]; exact hun0) (fun j hj => up_unlisted (l := l) (d := fun j => listed.getD j false) hcl (by rw [Nat.zero_add] at hj; exact hj) hun0) hX hI (fun j hj => by
      have h7 := up_listed hcl (by rw [Nat.zero_add] at hj; exact hj) hedge
      exact ⟨h7, hd j h7⟩) K'
    refine hstep fun a' v w' ha' hv hR hI' => ?_
    subst ha'
    apply hK
    have hpu := putAll_upd l 0 i x a o v hap ho'
    rw [Nat.zero_add] at hpu hv hI'
    rw [← hpu]
    have hun' : listed[i] = false := by simpa [hlt] using hun
    refine ih (listed.setIfInBounds i true) (upd x i v) w' (by simpa using hs) (fun j k hj hk => ?_) ?_ (by rw [getD_set_eq hlt]; exact hI') (fun j hj => ?_) (fun j hj => ?_)
    · by_cases hji : i = j
      · subst hji
        exact getD_set_true (hedge k hk)
      · rw [getD_set_ne false hji] at hj
        exact getD_set_true (hcl j k hj hk)
    · have : (listed.setIfInBounds i true).toList.countP (! ·) + 1 = listed.toList.countP (! ·) := by
        rw [Array.toList_setIfInBounds]
        have h1 := List.countP_set (p := (! ·)) (l := listed.toList) (i := i) (a := true) (by simpa using hlt)
        rw [h1]
        have h2 : 0 < listed.toList.countP (! ·) := List.countP_pos_iff.2 ⟨listed[i], by simp, by simp [hun']⟩
        have h3 : listed.toList[i]'(by simpa using hlt) = false := by simpa using hun'
        rw [h3]
        simp only [Bool.not_false, Bool.not_true, if_true, Bool.false_eq_true, if_false]
        omega
      omega
    · by_cases hji : i = j
      · subst hji
        simp [hlt] at hj
      · rw [getD_set_ne false hji] at hj
        rw [upd_ne x v (Ne.symm hji)]
        exact hX j hj
    · by_cases hji : i = j
      · subst hji
        rw [upd_self]
        exact hv
      · rw [getD_set_ne false hji] at hj
        rw [upd_ne x v (Ne.symm hji)]
        exact hD _ _ _ _ hR (hd j hj)


end

def noDefer (l : List Oper) : Bool := l.all fun o => match o.op with | .defer _ => false | _ => true
section
variable {P : Program} {l : List Oper} {Q : Exit → Act → World → Prop} {a : Act}
theorem wpIn_region_f {id n r : Nat} {w : World} (hnd : noDefer l = true) (I : (Nat → Bool) → (Nat → Value) → World → Prop) (R : World → World → Prop) (ds : List (Value → World → Prop)) (hm : P.follows .mixedOrders = true)
    (hap : apartB (l.map (·.dst)) = true) (htop : topB l = true) (hin : inB l a.tmps.size = true) (hI : ∀ x, I (fun _ => false) x w.drew) (hD : AllKeep R ds)
    (hop : EachF P l Q a I R (Dl ds) 0 l) (hend : ∀ d x w, I d x w → (∀ j, j < l.length → d j = true ∧ Dl ds j (x j) w) → Q .normal (putAll l 0 x a) w) : (Code.region id l.toArray true).wpIn (Fence.wide.inRound r) n P Q a w := by
  refine wpIn_region_any hm ?_
  have hnd2 : ∀ (i : Nat) (o : Oper), l.toArray[i]? = some o → ∀ c : Call, o.op ≠ .defer c := fun i o ho c e => by
    have hmem : o ∈ l := by
      have : l[i]? = some o := by simpa using ho
      exact List.mem_of_getElem? this
    have := List.all_eq_true.1 hnd o hmem
    rw [e] at this
    cases this
  have hI2 : I (fun j => (Array.replicate l.length false).getD j false) (iniOf l a) w.drew := by
    have e : (fun j => (Array.replicate l.length false).getD j false) = fun _ => false := by
      funext j
      cases h : (Array.replicate l.length false).getD j false with
      | false => rfl
      | true => exact (no_listed _ _ h).elim
    rw [e]
    exact hI _
  have h := wpAnyIn_stage (n := n) (r := r) hnd2 hap htop (fun j v w w' hR hd => Dl_keep hD j v w w' hR hd) (EachF.toS hap hin hop) hend l.length (Array.replicate l.length false) (iniOf l a) w.drew (by simp) (fun j k hj => ?_) ?_ hI2 (fun j _ => rfl) (fun j hj => ?_)
  · rw [putAll_init l 0 _ a (fun k o d hk hd => by simp [iniOf, hk, hd])] at h
    simpa using h
  · exact (no_listed _ _ hj).elim
  · simpa using List.countP_le_length (p := (! ·)) (l := List.replicate l.length false)
  · exact (no_listed _ _ hj).elim
end
end Go.Proofs.Ytngegjboenfmeaa
