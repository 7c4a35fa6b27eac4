/- A region that draws its order, its frame never laid open: each operation is shown once. No program in sight. -/
import Derived.Test.YtngegjboenfmeaaRgS
namespace Go.Proofs.Ytngegjboenfmeaa
open Go
set_option linter.unusedVariables false

/-- which operation writes a slot -/
def who : List (Option Tmp) → Tmp → Nat → Option Nat
  | [], _, _ => none
  | d :: r, t, n => if d = some t then some n else who r t (n + 1)
def lookF (l : List Oper) (a : Act) (x : Nat → Value) (t : Tmp) : Value := match who (l.map (·.dst)) t 0 with
  | some j => x j
  | none => a.tmps.getD t undef
def inB (l : List Oper) (n : Nat) : Bool := l.all fun o => match o.dst with
  | some d => decide (d < n)
  | none => true

theorem who_none : ∀ (ds : List (Option Tmp)) (t : Tmp) (n : Nat), ds.contains (some t) = false → who ds t n = none
  | [], _, _, _ => rfl
  | d :: r, t, n, h => by
    simp only [List.contains_cons, Bool.or_eq_false_iff] at h
    rw [who, if_neg (fun e => by rw [e] at h; simp at h), who_none r t (n + 1) h.2]
theorem put_size (a : Act) (d : Option Tmp) (v : Value) : (a.put d v).tmps.size = a.tmps.size := by cases d <;> simp [Act.put]
theorem put_get (a : Act) (d : Option Tmp) (v : Value) (t : Tmp) : (a.put d v).tmps.getD t undef = if d = some t ∧ t < a.tmps.size then v else a.tmps.getD t undef := by
  cases d with
  | none => simp [Act.put]
  | some u =>
    by_cases h : u = t
    · subst h
      by_cases h2 : u < a.tmps.size
      · simp [Act.put, h2]
      · simp [Act.put, h2]
    · simp [Act.put, h]
theorem look_putAll : ∀ (l : List Oper) (n : Nat) (x : Nat → Value) (a : Act) (t : Tmp), apartB (l.map (·.dst)) = true → inB l a.tmps.size = true →
    (putAll l n x a).tmps.getD t undef = match who (l.map (·.dst)) t n with | some j => x j | none => a.tmps.getD t undef
  | [], n, x, a, t, _, _ => rfl
  | o :: l, n, x, a, t, hap, hin => by
    have hap2 : apartB (l.map (·.dst)) = true := by
      simp only [List.map_cons] at hap
      cases hd : o.dst with
      | none => rw [hd] at hap; exact hap
      | some d => rw [hd] at hap; simp only [apartB, Bool.and_eq_true] at hap; exact hap.2
    simp only [inB, List.all_cons, Bool.and_eq_true] at hin
    have hin2 : inB l (a.put o.dst (x n)).tmps.size = true := by rw [put_size]; exact hin.2
    simp only [putAll, List.map_cons, who]
    rw [look_putAll l (n + 1) x (a.put o.dst (x n)) t hap2 hin2, put_get]
    by_cases h : o.dst = some t
    · rw [if_pos h]
      have hc : (l.map (·.dst)).contains (some t) = false := by
        simp only [List.map_cons] at hap
        rw [h] at hap
        simp only [apartB, Bool.and_eq_true, Bool.not_eq_true'] at hap
        exact hap.1
      rw [who_none _ _ _ hc]
      have hlt : t < a.tmps.size := by
        have := hin.1
        rw [h] at this
        simpa using this
      simp only
      rw [if_pos ⟨h, hlt⟩]
    · rw [if_neg h, if_neg (fun e => h e.1)]

section
variable {P : Program} {l : List Oper} {Q : Exit → Act → World → Prop} {a : Act} {I : (Nat → Bool) → (Nat → Value) → World → Prop} {R : World → World → Prop} {D : Nat → Value → World → Prop}
/-- each operation from number i on; the frame F is known by what its slots hold -/
def EachF (P : Program) (l : List Oper) (Q : Exit → Act → World → Prop) (a : Act) (I : (Nat → Bool) → (Nat → Value) → World → Prop) (R : World → World → Prop) (D : Nat → Value → World → Prop) : Nat → List Oper → Prop
  | _, [] => True
  | i, o :: rest => (∀ (dn : Nat → Bool) (xv : Nat → Value) (W : World) (F : Act), (∀ t, F.tmps.getD t undef = lookF l a xv t) → dn i = false → (∀ j, Up l j i → dn j = false) → (∀ j, dn j = false → xv j = iniOf l a j) → I dn xv W → (∀ j, Up l i j → dn j = true ∧ D j (xv j) W) →
      ∀ K : Act → World → Prop, Shut (∀ v w', D i v w' → R W w' → I (upB dn i) (upd xv i v) w' → K (F.put o.dst v) w') →
      if Region.wanted o (yielded l.toArray F.tmps) = true then Oper.wp P o F W K Q else K (F.put o.dst undef) W) ∧ EachF P l Q a I R D (i + 1) rest
theorem EachF.nil {i : Nat} : EachF P l Q a I R D i [] := trivial
theorem EachF.cons {i : Nat} {o : Oper} {rest : List Oper} (k : Nat) (hk : i + 1 = k)
    (h : ∀ (dn : Nat → Bool) (xv : Nat → Value) (W : World) (F : Act), (∀ t, F.tmps.getD t undef = lookF l a xv t) → dn i = false → (∀ j, Up l j i → dn j = false) → (∀ j, dn j = false → xv j = iniOf l a j) → I dn xv W → (∀ j, Up l i j → dn j = true ∧ D j (xv j) W) →
      ∀ K : Act → World → Prop, Shut (∀ v w', D i v w' → R W w' → I (upB dn i) (upd xv i v) w' → K (F.put o.dst v) w') →
      if Region.wanted o (yielded l.toArray F.tmps) = true then Oper.wp P o F W K Q else K (F.put o.dst undef) W)
    (t : EachF P l Q a I R D k rest) : EachF P l Q a I R D i (o :: rest) := ⟨h, hk ▸ t⟩
theorem EachF.toS (hap : apartB (l.map (·.dst)) = true) (hin : inB l a.tmps.size = true) : ∀ {rest : List Oper} {i : Nat}, EachF P l Q a I R D i rest → EachOpS P l Q a I R D i rest
  | [], _, _ => trivial
  | o :: rest, i, h => ⟨fun d x w h1 h2 h3 h4 h5 K hK => h.1 d x w (putAll l 0 x a) (fun t => look_putAll l 0 x a t hap hin) h1 h2 h3 h4 h5 K (fun v w' a1 a2 a3 => hK _ v w' rfl a1 a2 a3), EachF.toS hap hin h.2⟩
theorem wp_region_f {id : Nat} {w : World} (I : (Nat → Bool) → (Nat → Value) → World → Prop) (R : World → World → Prop) (ds : List (Value → World → Prop)) (hm : P.follows .mixedOrders = true)
    (hap : apartB (l.map (·.dst)) = true) (htop : topB l = true) (hin : inB l a.tmps.size = true) (hI : ∀ x, I (fun _ => false) x w.drew) (hD : AllKeep R ds)
    (hop : EachF P l Q a I R (Dl ds) 0 l) (hend : ∀ d x w, I d x w → (∀ j, j < l.length → d j = true ∧ Dl ds j (x j) w) → Q .normal (putAll l 0 x a) w) : (Code.region id l.toArray true).wp P Q a w :=
  wp_region_stage I R ds hm hap htop hI hD (EachF.toS hap hin hop) hend
end

section
variable {ops : Array Oper} {o : Oper} {F : Act} {p q : Prop} {g d : Nat} {b : Bool}
theorem on_plain {y : Nat → Option Bool} (hg : o.guard = none) (h : p) : if Region.wanted o y = true then p else q := by
  rw [if_pos (by simp [Region.wanted, hg])]
  exact h
theorem yielded_of (hd : (ops[g]?).bind (·.dst) = some d) (hv : F.tmps.getD d undef = .bool b) : yielded ops F.tmps g = some b := by
  have h1 : F.tmps[d]? = some (.bool b) := by
    rw [Array.getD_eq_getD_getElem?] at hv
    cases h : F.tmps[d]? with
    | none => rw [h] at hv; simp [undef] at hv
    | some v => rw [h] at hv; simp at hv; rw [hv]
  unfold yielded
  rw [hd]
  simp [h1]
theorem on_guard (hg : o.guard = some (g, b)) (hd : (ops[g]?).bind (·.dst) = some d) (hv : F.tmps.getD d undef = .bool b) (h : p) : if Region.wanted o (yielded ops F.tmps) = true then p else q := by
  rw [if_pos (by simp [Region.wanted, hg, yielded_of hd hv])]
  exact h
theorem off_guard {c : Bool} (hg : o.guard = some (g, b)) (hd : (ops[g]?).bind (·.dst) = some d) (hv : F.tmps.getD d undef = .bool c) (hc : c ≠ b) (h : q) : if Region.wanted o (yielded ops F.tmps) = true then p else q := by
  rw [if_neg (by simp [Region.wanted, hg, yielded_of hd hv, hc])]
  exact h
theorem off_undef (hg : o.guard = some (g, b)) (hd : (ops[g]?).bind (·.dst) = some d) (hv : F.tmps.getD d undef = undef) (h : q) : if Region.wanted o (yielded ops F.tmps) = true then p else q := by
  have h1 : yielded ops F.tmps g = none := by
    unfold yielded
    rw [hd]
    cases e : F.tmps[d]? with
    | none => simp [e]
    | some v =>
      rw [Array.getD_eq_getD_getElem?, e] at hv
      simp at hv
      subst hv
      simp [e, undef]
  rw [if_neg (by simp [Region.wanted, hg, h1])]
  exact h
end
end Go.Proofs.Ytngegjboenfmeaa
