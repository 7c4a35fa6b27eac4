/- A region that draws its order: each operation is shown once, whatever stands before it. No program in sight. -/
import Derived.WalkKit
import Derived.Deep.RegionHeld
namespace Go.Proofs.Ytngegjboenfmeaa
open Go
set_option linter.unusedVariables false

def upd (x : Nat → Value) (i : Nat) (v : Value) : Nat → Value := fun j => if j = i then v else x j
theorem upd_self (x : Nat → Value) (i : Nat) (v : Value) : upd x i v i = v := by simp [upd]
theorem upd_ne (x : Nat → Value) {i j : Nat} (v : Value) (h : j ≠ i) : upd x i v j = x j := by simp [upd, h]

/-- the frame, each operation's temporary holding x of its number -/
def putAll : List Oper → Nat → (Nat → Value) → Act → Act
  | [], _, _, a => a
  | o :: l, i, x, a => putAll l (i + 1) x (a.put o.dst (x i))

def apartB : List (Option Tmp) → Bool
  | [] => true
  | none :: l => apartB l
  | some d :: l => !l.contains (some d) && apartB l

theorem put_put (a : Act) (d : Option Tmp) (v u : Value) : (a.put d v).put d u = a.put d u := by
  cases d <;> simp [Act.put]

theorem putAll_congr (l : List Oper) : ∀ (n : Nat) (x y : Nat → Value) (a : Act), (∀ k, n ≤ k → x k = y k) → putAll l n x a = putAll l n y a := by
  induction l with
  | nil => intro n x y a _; rfl
  | cons o l ih =>
    intro n x y a h
    simp only [putAll]
    rw [h n (Nat.le_refl _)]
    exact ih (n + 1) x y _ fun k hk => h k (by omega)

theorem putAll_put (l : List Oper) : ∀ (n : Nat) (x : Nat → Value) (a : Act) (d : Option Tmp) (v : Value), (∀ t, d = some t → (l.map (·.dst)).contains (some t) = false) → putAll l n x (a.put d v) = (putAll l n x a).put d v := by
  induction l with
  | nil => intro n x a d v _; rfl
  | cons o l ih =>
    intro n x a d v h
    simp only [putAll]
    rw [Act.put_comm a v (x n) (fun t ht he => by
      have := h t ht
      simp [he] at this)]
    exact ih (n + 1) x _ d v fun t ht => by
      have := h t ht
      simp only [List.map_cons, List.contains_cons, Bool.or_eq_false_iff] at this
      exact this.2

theorem putAll_upd (l : List Oper) : ∀ (n k : Nat) (x : Nat → Value) (a : Act) (o : Oper) (v : Value), apartB (l.map (·.dst)) = true → l[k]? = some o → putAll l n (upd x (n + k) v) a = (putAll l n x a).put o.dst v := by
  induction l with
  | nil => intro n k x a o v _ h; simp at h
  | cons o0 l ih =>
    intro n k x a o v hap hk
    have hap2 : apartB (l.map (·.dst)) = true := by
      simp only [List.map_cons] at hap
      cases hd : o0.dst with
      | none => rw [hd] at hap; exact hap
      | some d => rw [hd] at hap; simp only [apartB, Bool.and_eq_true] at hap; exact hap.2
    cases k with
    | zero =>
      simp only [List.getElem?_cons_zero, Option.some.injEq] at hk
      subst hk
      simp only [putAll, Nat.add_zero]
      rw [upd_self, ← putAll_put l (n + 1) x _ o0.dst v (fun t ht => ?_), put_put, putAll_congr l (n + 1) (upd x n v) x _ (fun j hj => upd_ne x v (by omega))]
      simp only [List.map_cons] at hap
      rw [ht] at hap
      simp only [apartB, Bool.and_eq_true, Bool.not_eq_true'] at hap
      exact hap.1
    | succ k =>
      simp only [List.getElem?_cons_succ] at hk
      simp only [putAll]
      rw [upd_ne x v (by omega), show n + (k + 1) = (n + 1) + k by omega]
      exact ih (n + 1) k x _ o v hap2 hk

theorem putAll_init (l : List Oper) : ∀ (n : Nat) (x : Nat → Value) (a : Act), (∀ k o d, l[k]? = some o → o.dst = some d → x (n + k) = a.tmps.getD d undef) → putAll l n x a = a := by
  induction l with
  | nil => intro n x a _; rfl
  | cons o l ih =>
    intro n x a h
    simp only [putAll]
    have e : a.put o.dst (x n) = a := by
      cases hd : o.dst with
      | none => rfl
      | some d =>
        have h1 := h 0 o d rfl hd
        rw [Nat.add_zero] at h1
        cases a with
        | mk t df =>
          simp only [Act.put, Act.mk.injEq, and_true]
          apply Array.ext_getElem?
          intro i
          rw [Array.getElem?_setIfInBounds]
          split
          · rename_i hi
            subst hi
            split
            · rename_i hlt
              rw [h1]
              simp [hlt]
            · rename_i hge
              simp at hge
              simp [hge]
          · rfl
    rw [e]
    exact ih (n + 1) x a fun k o' d hk hd => by
      rw [show n + 1 + k = n + (k + 1) by omega]
      exact h (k + 1) o' d (by simpa using hk) hd

def edgeB (l : List Oper) (i j : Nat) : Bool := ((l[i]?).map fun o => o.after.any fun e => Region.binds .any e && e.on == j).getD false
/-- j stands before i, by an edge or by some -/
inductive Up (l : List Oper) : Nat → Nat → Prop
  | edge {i j : Nat} (h : edgeB l i j = true) : Up l i j
  | more {i j k : Nat} (h : edgeB l i j = true) (t : Up l j k) : Up l i k
/-- each waits for lower numbers alone -/
def topB (l : List Oper) : Bool := (List.range l.length).all fun i => ((l[i]?).map fun o => o.after.all fun e => !Region.binds .any e || decide (e.on < i)).getD true

section
variable {P : Program} {l : List Oper} {Q : Exit → Act → World → Prop} {a : Act} {I : World → Prop} {R : World → World → Prop} {D : Nat → Value → World → Prop}

/-- each operation from number i on -/
def EachOp (P : Program) (l : List Oper) (Q : Exit → Act → World → Prop) (a : Act) (I : World → Prop) (R : World → World → Prop) (D : Nat → Value → World → Prop) : Nat → List Oper → Prop
  | _, [] => True
  | i, o :: rest => (∀ (x : Nat → Value) (w : World), I w → (∀ j, Up l i j → D j (x j) w) → ∀ K : Act → World → Prop, Shut (∀ a' v w', a' = (putAll l 0 x a).put o.dst v → D i v w' → R w w' → I w' → K a' w') →
      if Region.wanted o (yielded l.toArray (putAll l 0 x a).tmps) = true then Oper.wp P o (putAll l 0 x a) w K Q else K ((putAll l 0 x a).put o.dst undef) w) ∧ EachOp P l Q a I R D (i + 1) rest
theorem EachOp.nil {i : Nat} : EachOp P l Q a I R D i [] := trivial
theorem EachOp.cons {i : Nat} {o : Oper} {rest : List Oper} (k : Nat) (hk : i + 1 = k)
    (h : ∀ (x : Nat → Value) (w : World), I w → (∀ j, Up l i j → D j (x j) w) → ∀ K : Act → World → Prop, Shut (∀ a' v w', a' = (putAll l 0 x a).put o.dst v → D i v w' → R w w' → I w' → K a' w') →
      if Region.wanted o (yielded l.toArray (putAll l 0 x a).tmps) = true then Oper.wp P o (putAll l 0 x a) w K Q else K ((putAll l 0 x a).put o.dst undef) w)
    (t : EachOp P l Q a I R D k rest) : EachOp P l Q a I R D i (o :: rest) := ⟨h, hk ▸ t⟩
theorem EachOp.at_ : ∀ {rest : List Oper} {i k : Nat} {o : Oper}, EachOp P l Q a I R D i rest → rest[k]? = some o →
    ∀ (x : Nat → Value) (w : World), I w → (∀ j, Up l (i + k) j → D j (x j) w) → ∀ K : Act → World → Prop, Shut (∀ a' v w', a' = (putAll l 0 x a).put o.dst v → D (i + k) v w' → R w w' → I w' → K a' w') →
      if Region.wanted o (yielded l.toArray (putAll l 0 x a).tmps) = true then Oper.wp P o (putAll l 0 x a) w K Q else K ((putAll l 0 x a).put o.dst undef) w
  | [], i, k, o, _, hk => by simp at hk
  | o0 :: rest, i, 0, o, h, hk => by
    simp only [List.getElem?_cons_zero, Option.some.injEq] at hk
    subst hk
    exact h.1
  | o0 :: rest, i, k + 1, o, h, hk => by
    have := EachOp.at_ (rest := rest) (i := i + 1) (k := k) (o := o) h.2 (by simpa using hk)
    rw [show i + 1 + k = i + (k + 1) by omega] at this
    exact this

theorem getD_of_ready {md : Region.Mode} {ops : Array Oper} {listed : Array Bool} {i : Nat} (h : i ∈ Region.ready md ops listed) : i < listed.size := by
  have h0 := (mem_ready.1 h).1
  rcases Nat.lt_or_ge i listed.size with h' | h'
  · exact h'
  · simp [Array.getElem?_eq_none h'] at h0

theorem up_listed {listed : Array Bool} (hc : ∀ j k, listed.getD j false = true → edgeB l j k = true → listed.getD k false = true) : ∀ {i j : Nat}, Up l i j → (∀ k, edgeB l i k = true → listed.getD k false = true) → listed.getD j false = true := by
  intro i j h
  induction h with
  | edge h => intro h2; exact h2 _ h
  | more h t ih => intro h2; exact ih fun k hk => hc _ _ (h2 _ h) hk

/-- a state of the region: closed below, each that has come up as D says -/
theorem wpAny_each (hap : apartB (l.map (·.dst)) = true) (htop : topB l = true) (hD : ∀ j v w w', I w → R w w' → D j v w → D j v w')
    (hop : EachOp P l Q a I R D 0 l) (hend : ∀ x w, I w → (∀ j, j < l.length → D j (x j) w) → Q .normal (putAll l 0 x a) w) :
    ∀ (fuel : Nat) (listed : Array Bool) (x : Nat → Value) (w : World), listed.size = l.length → (∀ j k, listed.getD j false = true → edgeB l j k = true → listed.getD k false = true) →
      listed.toList.countP (! ·) ≤ fuel → I w → (∀ j, listed.getD j false = true → D j (x j) w) → wpAny P .any l.toArray Q fuel listed (putAll l 0 x a) w := by
  have hall : ∀ (listed : Array Bool), listed.size = l.length → Region.ready .any l.toArray listed = [] → ∀ j, j < l.length → listed.getD j false = true := by
    intro listed hs hr j
    induction j using Nat.strongRecOn with
    | ind j ih =>
      intro hj
      cases hl : listed.getD j false with
      | true => rfl
      | false =>
        exfalso
        have hm : j ∈ Region.ready .any l.toArray listed := by
          rw [mem_ready]
          refine ⟨?_, l[j], by simp [hj], fun e he hb => ?_⟩
          · have hjs : j < listed.size := by omega
            simp [hjs] at hl ⊢
            exact hl
          · have ht := List.all_eq_true.1 htop j (List.mem_range.2 hj)
            rw [List.getElem?_eq_getElem hj] at ht
            simp only [Option.map_some, Option.getD_some] at ht
            have := Array.all_eq_true'.1 ht e he
            rw [hb] at this
            simp at this
            exact ih e.on this (by omega)
        rw [hr] at hm
        cases hm
  intro fuel
  induction fuel with
  | zero =>
    intro listed x w hs hcl hcnt hI hd
    have hz : ∀ j, j < l.length → listed.getD j false = true := by
      intro j hj
      have hc0 : listed.toList.countP (! ·) = 0 := by omega
      rw [List.countP_eq_zero] at hc0
      have hjs : j < listed.size := by omega
      have := hc0 listed[j] (by simp)
      simp at this
      simp [hjs, this]
    have hr : Region.ready .any l.toArray listed = [] := by
      rcases hne : Region.ready .any l.toArray listed with _ | ⟨i, rs⟩
      · rfl
      · have hm : i ∈ Region.ready .any l.toArray listed := by rw [hne]; simp
        have hlt := getD_of_ready hm
        have h1 := (mem_ready.1 hm).1
        have h2 := hz i (by omega)
        simp [hlt] at h1 h2
        rw [h1] at h2
        cases h2
    exact ⟨hr, hend x w hI fun j hj => hd j (hz j hj)⟩
  | succ fuel ih =>
    intro listed x w hs hcl hcnt hI hd
    refine ⟨fun hr => hend x w hI fun j hj => hd j (hall listed hs hr j hj), fun i hi => ?_⟩
    have hlt := getD_of_ready hi
    obtain ⟨hun, o, ho, hbel⟩ := mem_ready.1 hi
    have hedge : ∀ k, edgeB l i k = true → listed.getD k false = true := by
      intro k hk
      have ho' : l[i]? = some o := by simpa using ho
      unfold edgeB at hk
      rw [ho'] at hk
      simp only [Option.map_some, Option.getD_some] at hk
      obtain ⟨e, he, hb⟩ := Array.any_eq_true'.1 hk
      simp only [Bool.and_eq_true, beq_iff_eq] at hb
      rw [← hb.2]
      exact hbel e he hb.1
    refine wpOp_step ho fun K' hK => ?_
    have ho' : l[i]? = some o := by simpa using ho
    have hstep := EachOp.at_ (k := i) hop ho' x w hI (fun j hj => hd j (up_listed hcl (by rw [Nat.zero_add] at hj; exact hj) hedge)) K'
    refine hstep fun a' v w' ha' hv hR hI' => ?_
    subst ha'
    apply hK
    have hpu := putAll_upd l 0 i x a o v hap ho'
    rw [Nat.zero_add] at hpu hv
    rw [← hpu]
    have hun' : listed[i] = false := by simpa [hlt] using hun
    refine ih (listed.setIfInBounds i true) (upd x i v) w' (by simpa using hs) (fun j k hj hk => ?_) ?_ hI' (fun j hj => ?_)
    · by_cases hji : i = j
      · subst hji
        exact getD_set_true (hedge k hk)
      · rw [getD_set_ne false hji] at hj
        exact getD_set_true (hcl j k hj hk)
    · have : (listed.setIfInBounds i true).toList.countP (! ·) + 1 = listed.toList.countP (! ·) := by
        rw [Array.toList_setIfInBounds]
        have h1 := List.countP_set (p := (! ·)) (l := listed.toList) (i := i) (a := true) (by simpa using hlt)
        rw [h1]
        have h2 : 0 < listed.toList.countP (! ·) := List.countP_pos_iff.2 ⟨listed[i], by simp, by simp [hun']⟩
        have h3 : listed.toList[i]'(by simpa using hlt) = false := by simpa using hun'
        rw [h3]
        simp only [Bool.not_false, Bool.not_true, if_true, Bool.false_eq_true, if_false]
        omega
      omega
    · by_cases hji : i = j
      · subst hji
        rw [upd_self]
        exact hv
      · rw [getD_set_ne false hji] at hj
        rw [upd_ne x v (Ne.symm hji)]
        exact hD _ _ _ _ hI hR (hd j hj)

theorem no_listed (n j : Nat) (h : (Array.replicate n false).getD j false = true) : False := by
  rcases Nat.lt_or_ge j n with h' | h'
  · simp [h'] at h
  · simp [Nat.not_lt.2 h'] at h

theorem wp_region_each {id : Nat} {w : World} (I : World → Prop) (R : World → World → Prop) (D : Nat → Value → World → Prop) (hm : P.follows .mixedOrders = true)
    (hap : apartB (l.map (·.dst)) = true) (htop : topB l = true) (hI : I w.drew) (hD : ∀ j v w w', I w → R w w' → D j v w → D j v w')
    (hop : EachOp P l Q a I R D 0 l) (hend : ∀ x w, I w → (∀ j, j < l.length → D j (x j) w) → Q .normal (putAll l 0 x a) w) : (Code.region id l.toArray true).wp P Q a w := by
  refine wp_region_any hm ?_
  have h := wpAny_each hap htop hD hop hend l.length (Array.replicate l.length false) (fun j => match (l[j]?).bind (·.dst) with | some d => a.tmps.getD d undef | none => undef) w.drew (by simp) (fun j k hj => ?_) ?_ hI (fun j hj => ?_)
  · rw [putAll_init l 0 _ a (fun k o d hk hd => by simp [hk, hd])] at h
    simpa using h
  · exact (no_listed _ _ hj).elim
  · simpa using List.countP_le_length (p := (! ·)) (l := List.replicate l.length false)
  · exact (no_listed _ _ hj).elim
/-- the claims as a list, one for each operation -/
def Dl : List (Value → World → Prop) → Nat → Value → World → Prop
  | [], _, _, _ => True
  | p :: _, 0, v, w => p v w
  | _ :: l, n + 1, v, w => Dl l n v w
/-- each claim outlasts what the others do -/
def AllKeep (R : World → World → Prop) : List (Value → World → Prop) → Prop
  | [] => True
  | p :: l => (∀ v w w', R w w' → p v w → p v w') ∧ AllKeep R l
theorem Dl_keep : ∀ {ds : List (Value → World → Prop)}, AllKeep R ds → ∀ j v w w', R w w' → Dl ds j v w → Dl ds j v w'
  | [], _, _, _, _, _, _, _ => trivial
  | p :: l, h, 0, v, w, w', hR, hd => h.1 v w w' hR hd
  | p :: l, h, n + 1, v, w, w', hR, hd => Dl_keep (ds := l) h.2 n v w w' hR hd
theorem wp_region_list {id : Nat} {w : World} (I : World → Prop) (R : World → World → Prop) (ds : List (Value → World → Prop)) (hm : P.follows .mixedOrders = true)
    (hap : apartB (l.map (·.dst)) = true) (htop : topB l = true) (hI : I w.drew) (hD : AllKeep R ds)
    (hop : EachOp P l Q a I R (Dl ds) 0 l) (hend : ∀ x w, I w → (∀ j, j < l.length → Dl ds j (x j) w) → Q .normal (putAll l 0 x a) w) : (Code.region id l.toArray true).wp P Q a w :=
  wp_region_each I R (Dl ds) hm hap htop hI (fun j v w w' _ hR hd => Dl_keep hD j v w w' hR hd) hop hend
end
end Go.Proofs.Ytngegjboenfmeaa
