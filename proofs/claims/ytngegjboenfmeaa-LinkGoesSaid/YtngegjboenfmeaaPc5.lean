/- Part 5 of the texts of a claim: GoC GoD GoE TwE GoF GoG GoH Rgt GoI -/
import Derived.Test.YtngegjboenfmeaaPc1
import Derived.Test.YtngegjboenfmeaaPc2
import Derived.Test.YtngegjboenfmeaaPc3
import Derived.Test.YtngegjboenfmeaaPc4
import Derived.Maps.RangeWalk
namespace Go.Proofs.Ytngegjboenfmeaa
open Go Go.RowKit
set_option linter.unusedVariables false
set_option linter.unusedSimpArgs false
set_option maxRecDepth 100000

theorem items_cons (base : Nat) (x : List UInt8) (L : List (List UInt8)) : items base (x :: L) = (base + 1, x) :: items (base + 1) L := by
 unfold items; rw [List.mapIdx_cons]; refine congrArg (List.cons (base + 1, x)) (congrArg (fun g => List.mapIdx g L) ?_); funext k l; simp only [Prod.mk.injEq, and_true]; omega
theorem filter_items : ∀ (L : List (List UInt8)) (base c : Nat), (items base L).filter (fun x => decide (c < x.1)) = items (base + (c - base)) (L.drop (c - base))
 | [], base, c => by simp [items]
 | x :: L, base, c => by
  rw [items_cons, List.filter_cons, filter_items L (base + 1) c]
  by_cases h : c < base + 1
  ·rw [if_pos (by simpa using h), show c - base = 0 by omega, show c - (base + 1) = 0 by omega]; simp only [List.drop_zero, Nat.add_zero]; rw [items_cons]
  ·rw [if_neg (by simpa using h), show c - base = (c - (base + 1)) + 1 by omega, List.drop_succ_cons]; rw [show base + 1 + (c - (base + 1)) = base + (c - (base + 1) + 1) by omega]
theorem due_items {s : LS} (h : s.Num) : s.due = items s.base (s.box.take (min s.box.length 8)) := by unfold LS.due; rw [h.due]
/-- what is due anew behind an acknowledgement -/
theorem fresh_items {t u : LS} (hu : u.Num) : (u.due.filter fun x => decide (t.last < x.1)) = items (u.base + (t.last - u.base)) ((u.box.take (min u.box.length 8)).drop (t.last - u.base)) := by
 rw [due_items hu]; exact filter_items _ _ _
theorem fresh_len {t u : LS} {a : Nat} (hu : u.Num) (h1 : u.base = ackV t.base t.box a) (h2 : u.box = ackL t.base t.box a) : (if u.base ≤ t.base then [] else (u.due.filter fun x => decide (t.last < x.1)).map u.data).length + (u.box.length - 8) ≤ t.box.length - 8 := by
 by_cases ha : ackB t.base t.box a = true
 ·obtain ⟨k1, k2⟩ := ack_yes ha; simp only [ackB, Bool.and_eq_true, decide_eq_true_eq] at ha; rw [if_neg (by rw [h1, k2]; omega), List.length_map, fresh_items hu, items_len, List.length_drop, List.length_take, h1, h2, k1, k2, List.length_drop]; unfold LS.last; omega
 ·simp only [Bool.not_eq_true] at ha; obtain ⟨k1, k2⟩ := ack_no ha; rw [if_pos (by rw [h1, k2]; exact Nat.le_refl _), h2, k1]; simp
/-- what may come of a frame to one whose pair is a, b being the teller's -/
def wF (b1 b2 a1 a2 : Nat) (f : Fr) : Nat := if f.inc = b1 ∧ f.conn = b2 then (if f.kind = 2 ∨ ¬ (f.pinc = a1 ∧ f.pconn = a2) then 2 else 1) else 3
def wL (b1 b2 a1 a2 : Nat) (L : List Fr) : Nat := (L.map (wF b1 b2 a1 a2)).sum
def tau (s : LS) (b1 b2 : Nat) : Nat := if s.inc = b1 ∧ s.known = b2 ∧ s.up = true then 0 else 1
theorem wL_app (b1 b2 a1 a2 : Nat) (L M : List Fr) : wL b1 b2 a1 a2 (L ++ M) = wL b1 b2 a1 a2 L + wL b1 b2 a1 a2 M := by simp [wL]
theorem wL_cons (b1 b2 a1 a2 : Nat) (f : Fr) (L : List Fr) : wL b1 b2 a1 a2 (f :: L) = wF b1 b2 a1 a2 f + wL b1 b2 a1 a2 L := by simp [wL]
theorem wL_nil (b1 b2 a1 a2 : Nat) : wL b1 b2 a1 a2 [] = 0 := rfl
theorem wF_le (b1 b2 a1 a2 : Nat) (f : Fr) : wF b1 b2 a1 a2 f ≤ 3 ∧ 1 ≤ wF b1 b2 a1 a2 f := by
 unfold wF; split
 ·split <;> omega
 ·omega
theorem wL_le (b1 b2 a1 a2 c : Nat) : ∀ L : List Fr, (∀ f ∈ L, wF b1 b2 a1 a2 f ≤ c) → wL b1 b2 a1 a2 L ≤ c * L.length
 | [], _ => Nat.zero_le _
 | f :: L, h => by
  rw [wL_cons, List.length_cons, Nat.mul_succ]; have h1 := h f (by simp); have h2 := wL_le b1 b2 a1 a2 c L fun x hx => h x (by simp [hx])
  omega
theorem wF_mine {s : LS} {f : Fr} (b1 b2 : Nat) (h : OfL s f) : wF s.si s.conn b1 b2 f ≤ 2 := by
 unfold wF; rw [if_pos ⟨h.1, h.2.1⟩]; split <;> omega
theorem tau_le (s : LS) (b1 b2 : Nat) : tau s b1 b2 ≤ 1 := by unfold tau; split <;> omega
theorem lx_anti {a b c d : Nat} (h : Lx a b c d) (h2 : Lx c d a b) : a = c ∧ b = d := by unfold Lx at *; omega
/-- a frame that comes leaves less than was -/
theorem take_phi {s : LS} {now : Nat} {f : Fr} {b1 b2 : Nat} (hs : s.Num) (hn : now < 18446744073709551616) (hf : Lx f.inc f.conn b1 b2) (hk : Lx s.inc s.known b1 b2) :
  2 * ((s.take now f).box.length - 8) + tau (s.take now f) b1 b2 + wL s.si s.conn b1 b2 (s.takeF now f) + 1 ≤ wF b1 b2 s.si s.conn f + 2 * (s.box.length - 8) + tau s b1 b2 := by
 have hnum := hs.take hn f; have hw := wF_le b1 b2 s.si s.conn f
 by_cases hl : s.looks f = true
 ·obtain ⟨_, _, _, hlx⟩ := looks_parts hl; obtain ⟨⟨p1, p2, p3, p4, p5, p6, p7, p8⟩, pc⟩ := take1_form (s := s) (now := now) (f := f)
  -- tau of one that does not know b
  have ht0 : ¬ (f.inc = b1 ∧ f.conn = b2) → tau s b1 b2 = 1 := by
   intro h; unfold tau; rw [if_neg]; rintro ⟨e1, e2, _⟩; rw [e1, e2] at hlx; exact h (lx_anti hf hlx)
  have hrest : (s.take1 now f).box.length ≤ s.box.length := by
   rcases pc with ⟨_, _, _, c4, _⟩ | ⟨_, _, _, _, _, c6, _⟩
   ·rw [c4]; exact Nat.zero_le _
   ·rw [c6]; exact Nat.le_refl _
  by_cases hkn : f.pinc = s.si ∧ f.pconn = s.conn
  ·have hC := take_C (now := now) hl hkn; have hfl := fresh_len hnum hC.base hC.box; have hof := ofL_takeF s now f; have etau : tau (s.take now f) b1 b2 = if f.inc = b1 ∧ f.conn = b2 then 0 else 1 := by
    unfold tau; rw [hC.inc, hC.known, hC.up]
    by_cases h : f.inc = b1 ∧ f.conn = b2
    ·rw [if_pos ⟨h.1, h.2, rfl⟩, if_pos h]
    ·rw [if_neg (fun e => h ⟨e.1, e.2.1⟩), if_neg h]
   rw [etau]; rw [hC.frs] at hof ⊢; obtain ⟨D, HD⟩ : ∃ D, (if (s.take now f).base ≤ (s.take1 now f).base then [] else ((s.take now f).due.filter fun x => decide ((s.take1 now f).last < x.1)).map (s.take now f).data) = D := ⟨_, rfl⟩; rw [HD] at hof hfl ⊢; have hwD : wL s.si s.conn b1 b2 D ≤ 2 * D.length := wL_le _ _ _ _ 2 D fun x hx => by
    have := wF_mine b1 b2 (hof x (List.mem_append_left _ hx))
    rw [hC.si, hC.conn] at this; exact this
   rw [wL_app]
   -- the hello
   have hh : wF s.si s.conn b1 b2 (s.take now f).hello = if f.inc = b1 ∧ f.conn = b2 then 1 else 2 := by
    unfold wF; have e1 : (s.take now f).hello.inc = s.si ∧ (s.take now f).hello.conn = s.conn := ⟨hC.si, hC.conn⟩; rw [if_pos e1]; have e2 : (s.take now f).hello.kind = 1 := rfl; have e3 : (s.take now f).hello.pinc = f.inc := hC.inc; have e4 : (s.take now f).hello.pconn = f.conn := hC.known; rw [e2, e3, e4]
    by_cases h : f.inc = b1 ∧ f.conn = b2
    ·rw [if_neg (by rintro (e | e); cases e; exact e h), if_pos h]
    ·rw [if_pos (.inr h), if_neg h]
   by_cases hq : f.kind = 2 ∨ (s.take1 now f).up = false
   ·rw [if_pos hq, wL_cons, wL_nil, hh]
    by_cases h : f.inc = b1 ∧ f.conn = b2
    ·rw [if_pos h, if_pos h]; unfold wF; rw [if_pos h]
     by_cases hk2 : f.kind = 2
     ·rw [if_pos (.inl hk2)]; omega
     ·have hu : (s.take1 now f).up = false := hq.resolve_left hk2; rw [if_neg (by rintro (e | e); exact hk2 e; exact e hkn)]
      have ht1 : tau s b1 b2 = 1 := by
       unfold tau; rw [if_neg]; rintro ⟨e1, e2, e3⟩
       rcases pc with ⟨c1, _⟩ | ⟨_, _, _, c4, _⟩
       ·simp only [LS.other, Bool.or_eq_true, decide_eq_true_eq] at c1
        rcases c1 with c | c
        ·exact c (h.1.trans e1.symm)
        ·exact c (h.2.trans e2.symm)
       ·rw [hu, e3] at c4; cases c4
      omega
    ·rw [if_neg h, if_neg h, ht0 h]; unfold wF; rw [if_neg h]; omega
   ·rw [if_neg hq, wL_nil]
    by_cases h : f.inc = b1 ∧ f.conn = b2
    ·rw [if_pos h]; omega
    ·rw [if_neg h, ht0 h]; omega
  ·obtain ⟨hB1, hB2, _⟩ := take_B (now := now) hl hkn; rw [hB2, hB1, wL_cons, wL_nil]; have hh : wF s.si s.conn b1 b2 (s.take1 now f).hello = if f.inc = b1 ∧ f.conn = b2 then 1 else 2 := by
    unfold wF; have e1 : (s.take1 now f).hello.inc = s.si ∧ (s.take1 now f).hello.conn = s.conn := ⟨p3, p4⟩; rw [if_pos e1]; have e2 : (s.take1 now f).hello.kind = 1 := rfl; have e3 : (s.take1 now f).hello.pinc = f.inc := p1; have e4 : (s.take1 now f).hello.pconn = f.conn := p2; rw [e2, e3, e4]
    by_cases h : f.inc = b1 ∧ f.conn = b2
    ·rw [if_neg (by rintro (e | e); cases e; exact e h), if_pos h]
    ·rw [if_pos (.inr h), if_neg h]
   rw [hh]; have htl := tau_le (s.take1 now f) b1 b2
   by_cases h : f.inc = b1 ∧ f.conn = b2
   ·rw [if_pos h]; have ew : wF b1 b2 s.si s.conn f = 2 := by unfold wF; rw [if_pos h, if_pos (.inr hkn)]
    rw [ew]; have ht : tau (s.take1 now f) b1 b2 ≤ tau s b1 b2 := by
     by_cases e : s.inc = b1 ∧ s.known = b2 ∧ s.up = true
     ·obtain ⟨e1, e2, e3⟩ := e
      rcases pc with ⟨c1, _⟩ | ⟨_, _, _, c4, _⟩
      ·simp only [LS.other, Bool.or_eq_true, decide_eq_true_eq] at c1
       rcases c1 with c | c
       ·exact (c (h.1.trans e1.symm)).elim
       ·exact (c (h.2.trans e2.symm)).elim
      ·unfold tau; rw [p1, p2, c4, if_pos ⟨h.1, h.2, e3⟩]; exact Nat.zero_le _
     ·have : tau s b1 b2 = 1 := by unfold tau; rw [if_neg e]
      omega
    omega
   ·rw [if_neg h, ht0 h]; have ew : wF b1 b2 s.si s.conn f = 3 := by unfold wF; rw [if_neg h]
    omega
 ·obtain ⟨e1, e2, _⟩ := take_A (now := now) hl; rw [e1, e2, wL_nil]; omega

/-- the next frame to a side comes -/
def TW.comes (T : TW) (i : Bool) (f : Fr) (R : List Fr) : TW := ({ T with way := atB T.way i R } : TW).take i f
section
variable {T : TW} {i : Bool} {f : Fr} {R : List Fr}
theorem comes_i : (T.comes i f R).l i = (T.l i).take (T.now i) f := atB_same _ _ _
theorem comes_o : (T.comes i f R).l (!i) = T.l (!i) := atB_not _ _ _
theorem comes_wi : (T.comes i f R).way i = R := by
 show atB (atB T.way i R) (!i) _ i = R; unfold atB; rw [if_neg (fun e => not_ne i e.symm), if_pos rfl]
theorem comes_wo : (T.comes i f R).way (!i) = T.way (!i) ++ (T.l i).takeF (T.now i) f := by
 show atB (atB T.way i R) (!i) (atB T.way i R (!i) ++ _) (!i) = _; rw [atB_same, atB_not]
theorem comes_own (x : Bool) : ((T.comes i f R).l x).si = (T.l x).si ∧ ((T.comes i f R).l x).conn = (T.l x).conn := by
 rcases two_of i x with rfl | rfl
 ·rw [comes_i]; obtain ⟨h1, h2, _⟩ := take_nums (T.l x) (T.now x) f; exact ⟨h1, h2⟩
 ·rw [comes_o]; exact ⟨rfl, rfl⟩
end
theorem gl_comes {T : TW} {B : Nat} {i : Bool} {f : Fr} {R : List Fr} (h : T.Gl) (hO : T.Ok B) (hB : B ≤ 100000000) (hw : T.way i = f :: R) : (T.comes i f R).Gl ∧ (T.comes i f R).Ok (B + 9) := by
 have hm : f ∈ T.way i := by rw [hw]; simp
 have hfB := hO.frs i f hm; have e : atB T.way i R = atB T.way i ((T.way i).eraseIdx 0) := by rw [hw]; rfl
 have h1 : ({ T with way := atB T.way i R } : TW).Gl := by rw [e]; exact gl_lose h i 0
 have h2 : ({ T with way := atB T.way i R } : TW).Ok B := by rw [e]; exact hO.lose i 0
 exact ⟨gl_come h h1 h2 hB i hm ⟨hfB.1, hfB.2.1⟩ rfl rfl rfl, h2.take (by omega) i hfB⟩
def phiS (T : TW) (i : Bool) : Nat := wL (T.l (!i)).si (T.l (!i)).conn (T.l i).si (T.l i).conn (T.way i) + 2 * ((T.l i).box.length - 8) + tau (T.l i) (T.l (!i)).si (T.l (!i)).conn
def TW.phi (T : TW) : Nat := phiS T false + phiS T true
theorem phi_at (T : TW) (i : Bool) : T.phi = phiS T i + phiS T (!i) := by
 cases i
 ·rfl
 ·show phiS T false + phiS T true = phiS T true + phiS T false; omega
theorem phi_comes {T : TW} {B : Nat} {i : Bool} {f : Fr} {R : List Fr} (h : T.Gl) (hO : T.Ok B) (hB : B ≤ 100000000) (hw : T.way i = f :: R) : (T.comes i f R).phi + 1 ≤ T.phi := by
 have hn : T.now i < 18446744073709551616 := by have := hO.now i; omega
 have hm : f ∈ T.way (!(!i)) := by rw [notnot, hw]; simp
 have hk := h.P.kn (!i); rw [notnot] at hk; have key := take_phi (f := f) (b1 := (T.l (!i)).si) (b2 := (T.l (!i)).conn) (hO.num i) hn (h.P.fr (!i) f hm) hk; obtain ⟨c1, c2⟩ := comes_own (T := T) (i := i) (f := f) (R := R) i; obtain ⟨c3, c4⟩ := comes_own (T := T) (i := i) (f := f) (R := R) (!i); rw [phi_at _ i, phi_at T i]; unfold phiS; rw [notnot, c1, c2, c3, c4, comes_wi, comes_wo, comes_i, comes_o, wL_app, hw, wL_cons]; omega
theorem phi_le {T : TW} {B : Nat} (hO : T.Ok B) : T.phi ≤ 3 * ((T.way false).length + (T.way true).length) + 162 := by
 have h1 := fun i => wL_le (T.l (!i)).si (T.l (!i)).conn (T.l i).si (T.l i).conn 3 (T.way i) fun f _ => (wF_le _ _ _ _ f).1
 have h2 := fun i => (hO.num i).box
 have h3 := fun i => tau_le (T.l i) (T.l (!i)).si (T.l (!i)).conn
 have a1 := h1 false; have a2 := h1 true; have b1 := h2 false; have b2 := h2 true; have c1 := h3 false; have c2 := h3 true; unfold TW.phi phiS; omega
/-- k frames come, one behind the other -/
def Calm (T : TW) : Nat → TW → Prop
 | 0, U => U = T
 | k + 1, V => ∃ (U : TW) (i : Bool) (f : Fr) (R : List Fr), Calm T k U ∧ U.way i = f :: R ∧ V = U.comes i f R
theorem calm_gl {T : TW} {B : Nat} (h : T.Gl) (hO : T.Ok B) : ∀ (k : Nat) (U : TW), Calm T k U → B + 9 * k ≤ 100000000 → U.Gl ∧ U.Ok (B + 9 * k) ∧ U.phi + k ≤ T.phi
 | 0, U, hc, _ => by cases hc; exact ⟨h, hO, Nat.le_refl _⟩
 | k + 1, V, ⟨U, i, f, R, hc, hw, e⟩, hk => by
  obtain ⟨h1, h2, h3⟩ := calm_gl h hO k U hc (by omega); obtain ⟨g1, g2⟩ := gl_comes h1 h2 (by omega) hw; have g3 := phi_comes h1 h2 (by omega) hw; subst e; exact ⟨g1, g2.mono (by omega), by omega⟩
/-- what is kept by each frame that comes is kept by all -/
theorem calm_ind {T : TW} {B : Nat} {I : TW → Prop} (h : T.Gl) (hO : T.Ok B) (h0 : I T) (hs : ∀ (U : TW) (C : Nat) (i : Bool) (f : Fr) (R : List Fr), U.Gl → U.Ok C → C ≤ 100000000 → U.way i = f :: R → I U → I (U.comes i f R)) :
  ∀ (k : Nat) (U : TW), Calm T k U → B + 9 * k ≤ 100000000 → I U
 | 0, U, hc, _ => by cases hc; exact h0
 | k + 1, V, ⟨U, i, f, R, hc, hw, e⟩, hk => by
  obtain ⟨h1, h2, _⟩ := calm_gl h hO k U hc (by omega); subst e; exact hs U _ i f R h1 h2 (by omega) hw (calm_ind h hO h0 hs k U hc (by omega))
theorem calm_now {T : TW} : ∀ (k : Nat) (U : TW), Calm T k U → U.now = T.now
 | 0, U, hc => by cases hc; rfl
 | k + 1, V, ⟨U, i, f, R, hc, hw, e⟩ => by subst e; exact calm_now k U hc
theorem calm_own {T : TW} (x : Bool) : ∀ (k : Nat) (U : TW), Calm T k U → (U.l x).si = (T.l x).si ∧ (U.l x).conn = (T.l x).conn
 | 0, U, hc => by cases hc; exact ⟨rfl, rfl⟩
 | k + 1, V, ⟨U, i, f, R, hc, hw, e⟩ => by
  subst e; obtain ⟨h1, h2⟩ := calm_own x k U hc; obtain ⟨h3, h4⟩ := comes_own (T := U) (i := i) (f := f) (R := R) x; exact ⟨h3.trans h1, h4.trans h2⟩
end Go.Proofs.Ytngegjboenfmeaa
/- When all frames come: both sides are up by one another within a turn, and stay so. No program in sight. -/
namespace Go.Proofs.Ytngegjboenfmeaa
open Go Go.RowKit
set_option linter.unusedVariables false
set_option linter.unusedSimpArgs false
set_option maxRecDepth 100000

/-- one side knows the other's pair; a frame to a side knows its pair; a frame is of a side's pair -/
def Kn (U : TW) (x y : Bool) : Prop := (U.l x).inc = (U.l y).si ∧ (U.l x).known = (U.l y).conn
def Rk (s : LS) (f : Fr) : Prop := f.pinc = s.si ∧ f.pconn = s.conn
def Ro (s : LS) (f : Fr) : Prop := f.inc = s.si ∧ f.conn = s.conn
theorem looks_own {U : TW} {x : Bool} {f : Fr} (h : U.Gl) (hf : f ∈ U.way x) (hp : Ro (U.l (!x)) f) : (U.l x).looks f = true := by
 obtain ⟨h1, h2, h3⟩ := h.fm x f hf; obtain ⟨i1, i2⟩ := h.id x; have hk := h.P.kn (!x); rw [notnot] at hk; exact looks_of h1 (h2.trans i2.symm) (h3.trans i1.symm) (by rw [hp.1, hp.2]; exact hk)
theorem rk_dec (s : LS) (f : Fr) : Rk s f ∨ ¬ Rk s f := Decidable.em (f.pinc = s.si ∧ f.pconn = s.conn)
structure Ph1 (i : Bool) (U : TW) : Prop where
 a : ∀ f ∈ U.way (!i), Ro (U.l i) f
 b : ∀ f ∈ U.way i, Ro (U.l (!i)) f ∧ Rk (U.l i) f
 g1 : Kn U (!i) i ∨ U.way (!i) ≠ []
 g2 : Kn U i (!i) ∨ U.way i ≠ [] ∨ ∃ f ∈ U.way (!i), ¬ Rk (U.l (!i)) f
 g3 : (Kn U (!i) i ∧ (U.l (!i)).up = true) ∨ (∃ f ∈ U.way (!i), Rk (U.l (!i)) f) ∨ (¬ Kn U i (!i) ∧ (U.way i ≠ [] ∨ ∃ f ∈ U.way (!i), ¬ Rk (U.l (!i)) f))
 g4 : (U.l (!i)).heard = U.now (!i) ∨ U.way (!i) ≠ []
theorem app_ne {α : Type} {A B : List α} (h : A ≠ []) : A ++ B ≠ [] := fun e => h (List.append_eq_nil_iff.1 e).1
theorem ph1_step {i : Bool} {U : TW} {C : Nat} {x : Bool} {f : Fr} {R : List Fr} (h : U.Gl) (hw : U.way x = f :: R) (hP : Ph1 i U) : Ph1 i (U.comes x f R) := by
 obtain ⟨⟨p1, p2, p3, p4, p5, p6, p7, p8⟩, pc⟩ := take1_form (s := U.l x) (now := U.now x) (f := f); have hm : f ∈ U.way x := by rw [hw]; simp
 have hmR : ∀ y ∈ R, y ∈ U.way x := fun y hy => by rw [hw]; simp [hy]
 rcases two_of i x with rfl | rfl
 ·-- at the side that ticked
  have e1 := comes_i (T := U) (i := x) (f := f) (R := R); have e2 := comes_o (T := U) (i := x) (f := f) (R := R); have e3 := comes_wi (T := U) (i := x) (f := f) (R := R); have e4 := comes_wo (T := U) (i := x) (f := f) (R := R); obtain ⟨hro, hrk⟩ := hP.b f hm; have hl := looks_own h hm hro; have hC := take_C (now := U.now x) hl hrk; have hof := ofL_takeF (U.l x) (U.now x) f; have own : ∀ y, Rk ((U.l x).take (U.now x) f) y ↔ Rk (U.l x) y := fun y => by unfold Rk; rw [hC.si, hC.conn]
  have kn' : Kn (U.comes x f R) x (!x) := by unfold Kn; rw [e1, e2, hC.inc, hC.known]; exact hro
  refine ⟨?_, ?_, ?_, .inl kn', ?_, ?_⟩
  ·intro y hy; rw [e4] at hy; rw [e1]
   rcases List.mem_append.1 hy with hy | hy
   ·have := hP.a y hy
    unfold Ro at *; rw [hC.si, hC.conn]; exact this
   ·exact ⟨(hof y hy).1, (hof y hy).2.1⟩
  ·intro y hy; rw [e3] at hy; rw [e1, e2]; have := hP.b y (hmR y hy); exact ⟨this.1, (own y).2 this.2⟩
  ·rcases hP.g1 with g | g
   ·left; unfold Kn at *; rw [e1, e2, hC.si, hC.conn]; exact g
   ·right; rw [e4]; exact app_ne g
  ·rcases hP.g3 with ⟨g, gu⟩ | ⟨y, hy, hr⟩ | ⟨g, _⟩
   ·left; unfold Kn at *; rw [e1, e2, hC.si, hC.conn]; exact ⟨g, gu⟩
   ·right; left; exact ⟨y, by rw [e4]; exact List.mem_append_left _ hy, by rw [e2]; exact hr⟩
   ·-- it did not know: it was not up behind the turn
    right; left; have hup : ((U.l x).take1 (U.now x) f).up = false := by
     rcases pc with ⟨_, c2, _⟩ | ⟨_, c2, c3, _⟩
     ·exact c2
     ·exact (g ⟨c2.trans hro.1, c3.trans hro.2⟩).elim
    refine ⟨((U.l x).take (U.now x) f).hello, ?_, ?_⟩
    ·rw [e4, hC.frs, if_pos (show f.kind = 2 ∨ ((U.l x).take1 (U.now x) f).up = false from .inr hup)]; simp
    ·rw [e2]; exact ⟨hC.inc.trans hro.1, hC.known.trans hro.2⟩
  ·rcases hP.g4 with g | g
   ·left; rw [e2]; exact g
   ·right; rw [e4]; exact app_ne g
 ·-- at the other side
  have e1 := comes_i (T := U) (i := !i) (f := f) (R := R); have e2 := comes_o (T := U) (i := !i) (f := f) (R := R); have e3 := comes_wi (T := U) (i := !i) (f := f) (R := R); have e4 := comes_wo (T := U) (i := !i) (f := f) (R := R); rw [notnot] at e2 e4; have hro := hP.a f hm; have hl := looks_own h hm (by rw [notnot]; exact hro); have hof := ofL_takeF (U.l (!i)) (U.now (!i)) f; have q : ((U.l (!i)).take (U.now (!i)) f).si = (U.l (!i)).si ∧ ((U.l (!i)).take (U.now (!i)) f).conn = (U.l (!i)).conn ∧ ((U.l (!i)).take (U.now (!i)) f).inc = f.inc ∧ ((U.l (!i)).take (U.now (!i)) f).known = f.conn ∧ ((U.l (!i)).take (U.now (!i)) f).heard = U.now (!i) := by
   by_cases hk : Rk (U.l (!i)) f
   ·have hC := take_C (now := U.now (!i)) hl hk; exact ⟨hC.si, hC.conn, hC.inc, hC.known, hC.heard⟩
   ·rw [(take_B (now := U.now (!i)) hl hk).1]; exact ⟨p3, p4, p1, p2, p7⟩
  obtain ⟨q1, q2, q3, q4, q5⟩ := q; have own : ∀ y, Rk ((U.l (!i)).take (U.now (!i)) f) y ↔ Rk (U.l (!i)) y := fun y => by unfold Rk; rw [q1, q2]
  have kn' : Kn (U.comes (!i) f R) (!i) i := by unfold Kn; rw [e1, e2, q3, q4]; exact hro
  have hello : ¬ Rk (U.l (!i)) f → U.way i ++ (U.l (!i)).takeF (U.now (!i)) f ≠ [] := fun hk => by
   rw [(take_B (now := U.now (!i)) hl hk).2.1]; simp
  have kni : Kn (U.comes (!i) f R) i (!i) ↔ Kn U i (!i) := by unfold Kn; rw [e1, e2, q1, q2]
  refine ⟨?_, ?_, .inl kn', ?_, ?_, .inl (by rw [e1, q5]; rfl)⟩
  ·intro y hy; rw [e3] at hy; rw [e2]; exact hP.a y (hmR y hy)
  ·intro y hy; rw [e4] at hy; rw [e1, e2]
   rcases List.mem_append.1 hy with hy | hy
   ·have := hP.b y hy
    refine ⟨?_, this.2⟩; unfold Ro at *; rw [q1, q2]; exact this.1
   ·obtain ⟨o1, o2, o3, o4⟩ := hof y hy; exact ⟨⟨o1, o2⟩, ⟨by rw [o3, q3]; exact hro.1, by rw [o4, q4]; exact hro.2⟩⟩
  ·rcases hP.g2 with g | g | ⟨y, hy, hr⟩
   ·exact .inl (kni.2 g)
   ·exact .inr (.inl (by rw [e4]; exact app_ne g))
   ·right; rw [hw] at hy
    rcases List.mem_cons.1 hy with rfl | hy
    ·left; rw [e4]; exact hello hr
    ·right; exact ⟨y, by rw [e3]; exact hy, by rw [e1, own]; exact hr⟩
  ·rcases hP.g3 with ⟨g, gu⟩ | ⟨y, hy, hr⟩ | ⟨g, g5⟩
   ·left; refine ⟨kn', ?_⟩; rw [e1]
    by_cases hk : Rk (U.l (!i)) f
    ·exact (take_C (now := U.now (!i)) hl hk).up
    ·rw [(take_B (now := U.now (!i)) hl hk).1]
     rcases pc with ⟨c1, _⟩ | ⟨_, _, _, c4, _⟩
     ·simp only [LS.other, Bool.or_eq_true, decide_eq_true_eq] at c1
      rcases c1 with c | c
      ·exact (c (hro.1.trans g.1.symm)).elim
      ·exact (c (hro.2.trans g.2.symm)).elim
     ·rw [c4]; exact gu
   ·rw [hw] at hy
    rcases List.mem_cons.1 hy with rfl | hy
    ·left; refine ⟨kn', ?_⟩; rw [e1]; exact (take_C (now := U.now (!i)) hl hr).up
    ·right; left; exact ⟨y, by rw [e3]; exact hy, by rw [e1, own]; exact hr⟩
   ·right; right; refine ⟨fun e => g (kni.1 e), ?_⟩
    rcases g5 with g5 | ⟨y, hy, hr⟩
    ·left; rw [e4]; exact app_ne g5
    ·rw [hw] at hy
     rcases List.mem_cons.1 hy with rfl | hy
     ·left; rw [e4]; exact hello hr
     ·right; exact ⟨y, by rw [e3]; exact hy, by rw [e1, own]; exact hr⟩
section
variable {T : TW} {x : Bool}
theorem ltick_l : ((T.later x 1).tick x).l x = (T.l x).tick (T.now x + 1) := by
 show atB T.l x ((T.l x).tick (atB T.now x (T.now x + 1) x)) x = _; rw [atB_same, atB_same]
theorem ltick_o : ((T.later x 1).tick x).l (!x) = T.l (!x) := atB_not _ _ _
theorem ltick_wi : ((T.later x 1).tick x).way x = T.way x := by
 show atB T.way (!x) _ x = _; unfold atB; rw [if_neg (fun e => not_ne x e.symm)]
theorem ltick_wo : ((T.later x 1).tick x).way (!x) = T.way (!x) ++ (T.l x).tickF (T.now x + 1) := by
 show atB T.way (!x) (T.way (!x) ++ (T.l x).tickF (atB T.now x (T.now x + 1) x)) (!x) = _; rw [atB_same, atB_same]
theorem ltick_now : ((T.later x 1).tick x).now x = T.now x + 1 := atB_same _ _ _
theorem ltick_no : ((T.later x 1).tick x).now (!x) = T.now (!x) := atB_not _ _ _
end
theorem gl_ltick {T : TW} {B : Nat} (h : T.Gl) (hO : T.Ok B) (hB : B ≤ 10000000) (x : Bool) : ((T.later x 1).tick x).Gl ∧ ((T.later x 1).tick x).Ok (B + 13) := by
 have h1 := hO.later x (q := 1) (by omega); exact ⟨gl_tick (gl_later h x 1) h1 (by omega) x, (h1.tick (by omega) x).mono (by omega)⟩
theorem tickF_len (s : LS) (now : Nat) : (s.tickF now).length ≤ 9 := by
 rw [(tick_form (s := s) (now := now)).1, List.length_cons]; split
 ·rw [List.length_map]; have := due_len (s.tick now); omega
 ·simp
/-- a side's tick goes on, it ticks, and all frames come -/
def Half (x : Bool) (T V : TW) : Prop := ∃ k, k ≤ 20000 ∧ Calm ((T.later x 1).tick x) k V ∧ ∀ i, V.way i = []
theorem half_gl {T V : TW} {B : Nat} {x : Bool} (h : T.Gl) (hO : T.Ok B) (hB : B ≤ 10000000) (hc : Half x T V) : V.Gl ∧ V.Ok (B + 200000) ∧ V.now x = T.now x + 1 ∧ V.now (!x) = T.now (!x) := by
 obtain ⟨k, hk, hc, hv⟩ := hc; obtain ⟨g1, g2⟩ := gl_ltick h hO hB x; obtain ⟨k1, k2, _⟩ := calm_gl g1 g2 k V hc (by omega); have hn := calm_now k V hc; exact ⟨k1, k2.mono (by omega), by rw [hn, ltick_now], by rw [hn, ltick_no]⟩
theorem half_ind {T V : TW} {B : Nat} {x : Bool} {I : TW → Prop} (h : T.Gl) (hO : T.Ok B) (hB : B ≤ 10000000) (hc : Half x T V) (h0 : I ((T.later x 1).tick x))
  (hs : ∀ (U : TW) (C : Nat) (i : Bool) (f : Fr) (R : List Fr), U.Gl → U.Ok C → C ≤ 100000000 → U.way i = f :: R → I U → I (U.comes i f R)) : I V := by
 obtain ⟨k, hk, hc, hv⟩ := hc; obtain ⟨g1, g2⟩ := gl_ltick h hO hB x; exact calm_ind g1 g2 h0 hs k V hc (by omega)
/-- both know one another, and all frames are of these pairs -/
structure JK (U : TW) : Prop where
 kn : ∀ x, Kn U x (!x)
 fr : ∀ x, ∀ f ∈ U.way x, Ro (U.l (!x)) f ∧ Rk (U.l x) f
/-- the first half of the first turn -/
theorem half_first {T V : TW} {B : Nat} {x : Bool} (h : T.Gl) (hO : T.Ok B) (hB : B ≤ 10000000) (hw : ∀ i, T.way i = []) (hc : Half x T V) : JK V ∧ (V.l (!x)).up = true ∧ (V.l (!x)).heard = V.now (!x) := by
 have hP : Ph1 x V := by
  refine half_ind (I := Ph1 x) h hO hB hc ?_ (fun U C i f R h1 _ _ hw1 hP => ph1_step (C := C) h1 hw1 hP); have hof := ofL_tickF (T.l x) (T.now x + 1); have e1 := ltick_l (T := T) (x := x); have e2 := ltick_o (T := T) (x := x); have e3 := ltick_wi (T := T) (x := x); have e4 := ltick_wo (T := T) (x := x); rw [hw] at e3 e4; rw [List.nil_append] at e4; have eF := (tick_form (s := T.l x) (now := T.now x + 1)).1; have hmem : ((T.l x).tick (T.now x + 1)).hello ∈ ((T.later x 1).tick x).way (!x) := by rw [e4, eF]; simp
  have hne : ((T.later x 1).tick x).way (!x) ≠ [] := fun e => by rw [e] at hmem; simp at hmem
  have hrk : Rk (((T.later x 1).tick x).l (!x)) ((T.l x).tick (T.now x + 1)).hello ↔ Kn ((T.later x 1).tick x) x (!x) := by
   unfold Kn Rk; rw [e1]; exact Iff.rfl
  refine ⟨?_, ?_, .inr hne, ?_, ?_, .inr hne⟩
  ·intro y hy; rw [e4] at hy; rw [e1]; exact ⟨(hof y hy).1, (hof y hy).2.1⟩
  ·intro y hy; rw [e3] at hy; simp at hy
  ·rcases rk_dec (((T.later x 1).tick x).l (!x)) ((T.l x).tick (T.now x + 1)).hello with e | e
   ·exact .inl (hrk.1 e)
   ·exact .inr (.inr ⟨_, hmem, e⟩)
  ·rcases rk_dec (((T.later x 1).tick x).l (!x)) ((T.l x).tick (T.now x + 1)).hello with e | e
   ·exact .inr (.inl ⟨_, hmem, e⟩)
   ·exact .inr (.inr ⟨fun k => e (hrk.2 k), .inr ⟨_, hmem, e⟩⟩)
 obtain ⟨_, _, _, hv⟩ := hc; have n1 : ¬ ∃ f ∈ V.way (!x), ¬ Rk (V.l (!x)) f := by rintro ⟨f, hf, _⟩; rw [hv] at hf; simp at hf
 have n2 : ¬ ∃ f ∈ V.way (!x), Rk (V.l (!x)) f := by rintro ⟨f, hf, _⟩; rw [hv] at hf; simp at hf
 have k1 : Kn V (!x) x := hP.g1.resolve_right (fun e => e (hv _)); have k2 : Kn V x (!x) := by
  rcases hP.g2 with g | g | g
  ·exact g
  ·exact (g (hv _)).elim
  ·exact (n1 g).elim
 have k3 : (V.l (!x)).up = true := by
  rcases hP.g3 with g | g | ⟨g, _⟩
  ·exact g.2
  ·exact (n2 g).elim
  ·exact (g k2).elim
 refine ⟨⟨fun y => ?_, fun y f hf => by rw [hv] at hf; simp at hf⟩, k3, hP.g4.resolve_right (fun e => e (hv _))⟩
 rcases two_of x y with rfl | rfl
 ·exact k2
 ·rw [notnot]; exact k1
/-- a frame comes where both know one another -/
theorem jk_take {U : TW} {x : Bool} {f : Fr} (h : U.Gl) (hJ : JK U) (hf : f ∈ U.way x) :
  TakeC (U.l x) ((U.l x).take1 (U.now x) f) ((U.l x).take (U.now x) f) (U.now x) f ((U.l x).takeF (U.now x) f) ((U.l x).takeE (U.now x) f) ∧
  ((U.l x).take1 (U.now x) f).up = (U.l x).up ∧ ((U.l x).take1 (U.now x) f).base = (U.l x).base ∧ ((U.l x).take1 (U.now x) f).box = (U.l x).box ∧ ((U.l x).take1 (U.now x) f).got = (U.l x).got := by
 obtain ⟨hro, hrk⟩ := hJ.fr x f hf; have hl := looks_own h hf hro; obtain ⟨_, pc⟩ := take1_form (s := U.l x) (now := U.now x) (f := f); refine ⟨take_C hl hrk, ?_⟩
 rcases pc with ⟨c1, _⟩ | ⟨_, _, _, c4, c5, c6, c7⟩
 ·have hk := hJ.kn x; simp only [LS.other, Bool.or_eq_true, decide_eq_true_eq] at c1
  rcases c1 with c | c
  ·exact (c (hro.1.trans hk.1.symm)).elim
  ·exact (c (hro.2.trans hk.2.symm)).elim
 ·exact ⟨c4, c5, c6, c7⟩
theorem jk_comes {U : TW} {x : Bool} {f : Fr} {R : List Fr} (h : U.Gl) (hJ : JK U) (hw : U.way x = f :: R) : JK (U.comes x f R) := by
 have hm : f ∈ U.way x := by rw [hw]; simp
 have hmR : ∀ y ∈ R, y ∈ U.way x := fun y hy => by rw [hw]; simp [hy]
 obtain ⟨hC, _⟩ := jk_take h hJ hm; obtain ⟨hro, hrk⟩ := hJ.fr x f hm; have hof := ofL_takeF (U.l x) (U.now x) f; have e1 := comes_i (T := U) (i := x) (f := f) (R := R); have e2 := comes_o (T := U) (i := x) (f := f) (R := R); have e3 := comes_wi (T := U) (i := x) (f := f) (R := R); have e4 := comes_wo (T := U) (i := x) (f := f) (R := R); have hk := hJ.kn (!x); rw [notnot] at hk; refine ⟨fun y => ?_, fun y z hz => ?_⟩
 ·rcases two_of x y with rfl | rfl
  ·unfold Kn; rw [e1, e2, hC.inc, hC.known]; exact hro
  ·unfold Kn at *; rw [notnot, e1, e2, hC.si, hC.conn]; exact hk
 ·rcases two_of x y with rfl | rfl
  ·rw [e3] at hz; obtain ⟨z1, z2⟩ := hJ.fr y z (hmR z hz); rw [e1, e2]; refine ⟨z1, ?_⟩; unfold Rk at *; rw [hC.si, hC.conn]; exact z2
  ·rw [e4] at hz; rw [notnot, e1, e2]
   rcases List.mem_append.1 hz with hz | hz
   ·obtain ⟨z1, z2⟩ := hJ.fr _ z hz; rw [notnot] at z1; refine ⟨?_, z2⟩; unfold Ro at *; rw [hC.si, hC.conn]; exact z1
   ·obtain ⟨o1, o2, o3, o4⟩ := hof z hz; exact ⟨⟨o1, o2⟩, ⟨by rw [o3, hC.inc]; exact hro.1, by rw [o4, hC.known]; exact hro.2⟩⟩
/-- .. and what a tick leaves of it -/
theorem jk_tick1 {T : TW} {x : Bool} (hh : T.now x ≤ (T.l x).heard + 2) : (T.l x).tick1 (T.now x + 1) = T.l x := by
 refine (LS.tick1_no ?_).1; have : ¬ 4 ≤ ticks (T.now x + 1) (T.l x).heard := by unfold ticks; omega
 rw [decide_eq_false this, Bool.and_false]
theorem jk_ltick {T : TW} {x : Bool} (hJ : JK T) (hh : T.now x ≤ (T.l x).heard + 2) : JK ((T.later x 1).tick x) ∧ (((T.later x 1).tick x).l x).up = (T.l x).up ∧ (((T.later x 1).tick x).l x).heard = (T.l x).heard ∧ (((T.later x 1).tick x).l x).conn = (T.l x).conn ∧
  (((T.later x 1).tick x).l x).si = (T.l x).si ∧ (((T.later x 1).tick x).l x).base = (T.l x).base ∧ (((T.later x 1).tick x).l x).box = (T.l x).box ∧ (((T.later x 1).tick x).l x).got = (T.l x).got := by
 have ht := jk_tick1 hh; have hof := ofL_tickF (T.l x) (T.now x + 1); have e1 := ltick_l (T := T) (x := x); have e2 := ltick_o (T := T) (x := x); have e3 := ltick_wi (T := T) (x := x); have e4 := ltick_wo (T := T) (x := x); obtain ⟨n1, n2, n3, n4, n5, n6, _⟩ := tick_nums (T.l x) (T.now x + 1); obtain ⟨f1, f2, f3, f4, _⟩ := tick_form (s := T.l x) (now := T.now x + 1); rw [ht] at n2 n6 f2 f3 f4; have hk := hJ.kn (!x); rw [notnot] at hk; refine ⟨⟨fun y => ?_, fun y z hz => ?_⟩, by rw [e1, n6], by rw [e1, n5], by rw [e1, n2], by rw [e1, n1], by rw [e1, f2], by rw [e1, f3], by rw [e1, f4]⟩
 ·rcases two_of x y with rfl | rfl
  ·unfold Kn; rw [e1, e2, n3, n4]; exact hJ.kn y
  ·unfold Kn at *; rw [notnot, e1, e2, n1, n2]; exact hk
 ·rcases two_of x y with rfl | rfl
  ·rw [e3] at hz; obtain ⟨z1, z2⟩ := hJ.fr y z hz; rw [e1, e2]; refine ⟨z1, ?_⟩; unfold Rk at *; rw [n1, n2]; exact z2
  ·rw [e4] at hz; rw [notnot, e1, e2]
   rcases List.mem_append.1 hz with hz | hz
   ·obtain ⟨z1, z2⟩ := hJ.fr _ z hz; rw [notnot] at z1; refine ⟨?_, z2⟩; unfold Ro at *; rw [n1, n2]; exact z1
   ·obtain ⟨o1, o2, o3, o4⟩ := hof z hz; have := hJ.kn x; exact ⟨⟨o1, o2⟩, ⟨by rw [o3, n3]; exact this.1, by rw [o4, n4]; exact this.2⟩⟩
structure Ph2 (x : Bool) (c : Nat) (U : TW) : Prop where
 J : JK U
 u1 : (U.l x).up = true
 u2 : (U.l (!x)).up = true ∨ U.way (!x) ≠ []
 h2 : (U.l (!x)).heard = U.now (!x) ∨ U.way (!x) ≠ []
 h1 : U.now x ≤ (U.l x).heard + c
theorem ph2_step {x : Bool} {c : Nat} {U : TW} {y : Bool} {f : Fr} {R : List Fr} (h : U.Gl) (hw : U.way y = f :: R) (hP : Ph2 x c U) : Ph2 x c (U.comes y f R) := by
 have hm : f ∈ U.way y := by rw [hw]; simp
 obtain ⟨hC, _⟩ := jk_take h hP.J hm; have e1 := comes_i (T := U) (i := y) (f := f) (R := R); have e2 := comes_o (T := U) (i := y) (f := f) (R := R); have e4 := comes_wo (T := U) (i := y) (f := f) (R := R); refine ⟨jk_comes h hP.J hw, ?_, ?_, ?_, ?_⟩
 ·rcases two_of y x with rfl | rfl
  ·rw [e1]; exact hC.up
  ·rw [e2]; exact hP.u1
 ·rcases two_of x y with rfl | rfl
  ·rw [e2, e4]; exact hP.u2.imp id app_ne
  ·rw [e1]; exact .inl hC.up
 ·rcases two_of x y with rfl | rfl
  ·rw [e2, e4]; exact hP.h2.imp id app_ne
  ·rw [e1]; exact .inl hC.heard
 ·rcases two_of y x with rfl | rfl
  ·rw [e1, hC.heard]; exact Nat.le_add_right _ _
  ·rw [e2]; exact hP.h1
/-- a half, where both know one another -/
theorem half_more {T V : TW} {B c : Nat} {x : Bool} (h : T.Gl) (hO : T.Ok B) (hB : B ≤ 10000000) (hJ : JK T) (hu : (T.l x).up = true) (hh : T.now x ≤ (T.l x).heard + c) (hc2 : c ≤ 2) (hc : Half x T V) :
  JK V ∧ (V.l x).up = true ∧ (V.l (!x)).up = true ∧ (V.l (!x)).heard = V.now (!x) ∧ V.now x ≤ (V.l x).heard + (c + 1) := by
 obtain ⟨j1, j2, j3, _⟩ := jk_ltick (x := x) hJ (by omega); have e4 := ltick_wo (T := T) (x := x); have eF := (tick_form (s := T.l x) (now := T.now x + 1)).1; have hne : ((T.later x 1).tick x).way (!x) ≠ [] := fun e => by rw [e4, eF] at e; simp at e
 have hP : Ph2 x (c + 1) V := half_ind (I := Ph2 x (c + 1)) h hO hB hc ⟨j1, by rw [j2]; exact hu, .inr hne, .inr hne, by rw [j3, ltick_now]; omega⟩ (fun U C i f R h1 _ _ hw1 hP => ph2_step h1 hw1 hP); obtain ⟨_, _, _, hv⟩ := hc; exact ⟨hP.J, hP.u1, hP.u2.resolve_right (fun e => e (hv _)), hP.h2.resolve_right (fun e => e (hv _)), hP.h1⟩
end Go.Proofs.Ytngegjboenfmeaa
/- When all frames come: what was sent is told, and acknowledged, within a few turns. No program in sight. -/
namespace Go.Proofs.Ytngegjboenfmeaa
open Go Go.RowKit
set_option linter.unusedVariables false
set_option linter.unusedSimpArgs false
set_option maxRecDepth 100000

/-- what a side has taken behind these frames -/
def takes (g : Nat) : List Fr → Nat
 | [] => g
 | f :: R => takes (if f.kind = 2 ∧ takeB g f.seq = true then f.seq else g) R
theorem takes_app : ∀ (A B : List Fr) (g : Nat), takes g (A ++ B) = takes (takes g A) B
 | [], B, g => rfl
 | f :: A, B, g => takes_app A B _
theorem takes_le {M : Nat} : ∀ (L : List Fr) (g : Nat), (∀ f ∈ L, f.kind = 2 → f.seq ≤ M) → g ≤ M → takes g L ≤ M
 | [], g, _, h => h
 | f :: L, g, hL, h => by
  unfold takes; refine takes_le L _ (fun x hx => hL x (by simp [hx])) ?_; split
  ·rename_i e; exact hL f (by simp) e.1
  ·exact h
theorem takes_no : ∀ (L : List Fr) (g : Nat), (∀ f ∈ L, f.kind ≠ 2) → takes g L = g
 | [], g, _ => rfl
 | f :: L, g, hL => by
  unfold takes; rw [if_neg (fun e => hL f (by simp) e.1)]; exact takes_no L g fun x hx => hL x (by simp [hx])
theorem takes_items (u : LS) : ∀ (L : List (List UInt8)) (base g : Nat), base ≤ g → g ≤ base + L.length → base + L.length ≤ 34359738367 → takes g ((items base L).map u.data) = base + L.length
 | [], base, g, h1, h2, h3 => by
  simp only [List.length_nil] at h2; simp only [items, List.mapIdx_nil, List.map_nil, List.length_nil, takes]; omega
 | x :: L, base, g, h1, h2, h3 => by
  rw [items_cons, List.map_cons]; unfold takes; rw [List.length_cons] at h2 h3 ⊢; have e1 : (u.data (base + 1, x)).kind = 2 := rfl; have e2 : (u.data (base + 1, x)).seq = base + 1 := rfl; rw [e1, e2]
  by_cases h : g = base
  ·have ht : takeB g (base + 1) = true := by simp only [takeB, Bool.and_eq_true, decide_eq_true_eq]; omega
   rw [if_pos ⟨rfl, ht⟩, takes_items u L (base + 1) (base + 1) (Nat.le_refl _) (by omega) (by omega)]; omega
  ·have ht : ¬ takeB g (base + 1) = true := by simp only [takeB, Bool.and_eq_true, decide_eq_true_eq]; omega
   rw [if_neg (fun e => ht e.2), takes_items u L (base + 1) g (by omega) (by omega) (by omega)]; omega
theorem last_le {s : LS} (h : s.Num) : s.last ≤ 34359738367 := by
 have := h.base
 unfold LS.last; omega
/-- where both know one another: acknowledgements and numbers are true -/
theorem dir_le {U : TW} (i : Bool) (h : U.Gl) (hJ : JK U) : (U.l i).base ≤ (U.l (!i)).got ∧ (U.l (!i)).got ≤ (U.l i).last ∧ (∀ f ∈ U.way i, f.ack ≤ (U.l (!i)).got) ∧ (∀ f ∈ U.way (!i), f.kind = 2 → f.seq ≤ (U.l i).last) ∧ (U.told (prL i (U.l i))).length = (U.l (!i)).got := by
 have k1 := hJ.kn i; have k2 := hJ.kn (!i); rw [notnot] at k2; have ep : prL i (U.l i) = rpL (!i) (U.l (!i)) := by
  unfold prL rpL; rw [side_not, notnot, k1.1, k1.2, k2.1, k2.2]
 have eg := rcv_len h.O (!i); rw [← ep] at eg; have t1 := h.A.t1 i; have t3 := h.A.t3 i; rw [eg] at t1 t3; refine ⟨t1, t3, fun f hf => ?_, fun f hf hk => ?_, eg⟩
 ·have := h.A.t2 i f hf
  obtain ⟨z1, z2⟩ := hJ.fr i f hf; have e : bkq i f = prL i (U.l i) := by
   unfold bkq prL; rw [z2.1, z2.2, z1.1, z1.2, k1.1, k1.2]
  rw [e, eg] at this; exact this
 ·obtain ⟨z1, z2⟩ := hJ.fr (!i) f hf; rw [notnot] at z1; refine h.A.t4 i f hf hk ?_; unfold frq prL; rw [z2.1, z2.2, z1.1, z1.2, k1.1, k1.2]
def Aq (i : Bool) (U : TW) : Prop := (U.l (!i)).got ≤ (U.l i).base ∨ ∃ f ∈ U.way i, (U.l (!i)).got ≤ f.ack
def Pq (i : Bool) (U : TW) : Prop := (U.l i).last ≤ takes (U.l (!i)).got (U.way (!i))
def Qq (i : Bool) (c : Nat) (U : TW) : Prop := (U.l (!i)).got ≤ (U.l i).base ∧ (∀ f ∈ U.way (!i), f.kind ≠ 2) ∧ (U.l i).sent = c
def Eq (i : Bool) (U : TW) : Prop := (U.l i).box = []
section
variable {U : TW} {C : Nat} {i x : Bool} {f : Fr} {R : List Fr}
theorem aq_step (h : U.Gl) (hO : U.Ok C) (hJ : JK U) (hw : U.way x = f :: R) (hA : Aq i U) : Aq i (U.comes x f R) := by
 have hm : f ∈ U.way x := by rw [hw]; simp
 obtain ⟨hC, _, c5, c6, c7⟩ := jk_take h hJ hm
 rcases two_of i x with rfl | rfl
 ·unfold Aq at *; rw [comes_i, comes_o, comes_wi]; obtain ⟨d1, d2, d3, _⟩ := dir_le x h hJ; obtain ⟨l1, l2⟩ := last_ack hC.base hC.box; rw [c5] at l2
  rcases hA with hA | ⟨z, hz, hg⟩
  ·exact .inl (Nat.le_trans hA l2)
  ·rw [hw] at hz
   rcases List.mem_cons.1 hz with rfl | hz
   ·left; have hle := d3 z hm
    by_cases hb : (U.l x).base < z.ack
    ·have ha : ackB (U.l x).base (U.l x).box z.ack = true := by
      simp only [ackB, Bool.and_eq_true, decide_eq_true_eq]; unfold LS.last at d2; exact ⟨⟨(hO.num x).may, hb⟩, by omega⟩
     rw [hC.base, c5, c6, (ack_yes ha).2]; exact hg
    ·exact Nat.le_trans (Nat.le_trans hg (Nat.le_of_not_lt hb)) l2
   ·exact .inr ⟨z, hz, hg⟩
 ·unfold Aq at *; have e2 := comes_o (T := U) (i := !i) (f := f) (R := R); have e4 := comes_wo (T := U) (i := !i) (f := f) (R := R); rw [notnot] at e2 e4; rw [comes_i, e2, e4]
  by_cases hk : f.kind = 2
  ·right; refine ⟨((U.l (!i)).take (U.now (!i)) f).hello, ?_, Nat.le_refl _⟩; rw [hC.frs, if_pos (show f.kind = 2 ∨ ((U.l (!i)).take1 (U.now (!i)) f).up = false from .inl hk)]; simp
  ·rw [hC.got, if_neg (fun e => hk e.1), c7]
   rcases hA with hA | ⟨z, hz, hg⟩
   ·exact .inl hA
   ·exact .inr ⟨z, List.mem_append_left _ hz, hg⟩
theorem pq_step (h : U.Gl) (hO : U.Ok C) (hC9 : C ≤ 100000000) (hJ : JK U) (hw : U.way x = f :: R) (hP : Pq i U) : Pq i (U.comes x f R) := by
 have hm : f ∈ U.way x := by rw [hw]; simp
 obtain ⟨hC, _, c5, c6, c7⟩ := jk_take h hJ hm; have hn : U.now x < 18446744073709551616 := by have := hO.now x; omega
 rcases two_of i x with rfl | rfl
 ·unfold Pq at *; rw [comes_i, comes_o, comes_wo, takes_app]; obtain ⟨d1, d2, d3, d4, _⟩ := dir_le x h hJ; have hg : takes (U.l (!x)).got (U.way (!x)) = (U.l x).last := Nat.le_antisymm (takes_le _ _ d4 d2) hP; have hnum := (hO.num x).take hn f; have hll := last_le hnum; have ct : ((U.l x).take1 (U.now x) f).last = (U.l x).last := by unfold LS.last; rw [c5, c6]
  rw [hg, hC.frs, takes_app, takes_no (if f.kind = 2 ∨ ((U.l x).take1 (U.now x) f).up = false then [((U.l x).take (U.now x) f).hello] else []) _ (by
   intro y hy; split at hy
   ·rw [List.mem_singleton.1 hy]; simp [LS.hello]
   ·simp at hy)]
  by_cases ha : ackB (U.l x).base (U.l x).box f.ack = true
  ·have k := ack_yes ha; have eb := hC.base; have ex := hC.box; rw [c5, c6, k.2] at eb; rw [c5, c6, k.1] at ex; simp only [ackB, Bool.and_eq_true, decide_eq_true_eq] at ha; rw [if_neg (by rw [eb, c5]; omega), fresh_items hnum, ct]; have hlast : (U.l x).last = (U.l x).base + min (U.l x).box.length 8 := rfl; have hlast2 : ((U.l x).take (U.now x) f).last = ((U.l x).take (U.now x) f).base + min ((U.l x).take (U.now x) f).box.length 8 := rfl; have hlen : ((U.l x).take (U.now x) f).box.length = (U.l x).box.length - (f.ack - (U.l x).base) := by rw [ex, List.length_drop]
   have hle : ((U.l x).take (U.now x) f).base ≤ (U.l x).last := by rw [eb]; omega
   rw [show ((U.l x).take (U.now x) f).base + ((U.l x).last - ((U.l x).take (U.now x) f).base) = (U.l x).last by omega]; rw [takes_items _ _ _ _ (Nat.le_refl _) (Nat.le_add_right _ _) (by rw [List.length_drop, List.length_take]; omega)]; rw [List.length_drop, List.length_take]; omega
  ·have k := ack_no (by simpa using ha); have eb := hC.base; have ex := hC.box; rw [c5, c6, k.2] at eb; rw [c5, c6, k.1] at ex; rw [if_pos (by rw [eb, c5]; exact Nat.le_refl _)]; unfold takes LS.last; rw [eb, ex]; exact Nat.le_refl _
 ·unfold Pq at *; have e2 := comes_o (T := U) (i := !i) (f := f) (R := R); rw [notnot] at e2; rw [comes_i, e2, comes_wi, hC.got, c7]; rw [hw] at hP; exact hP
theorem qq_step {c : Nat} (h : U.Gl) (hJ : JK U) (hw : U.way x = f :: R) (hQ : Qq i c U) : Qq i c (U.comes x f R) := by
 have hm : f ∈ U.way x := by rw [hw]; simp
 obtain ⟨hC, _, c5, c6, c7⟩ := jk_take h hJ hm; obtain ⟨q1, q2, q3⟩ := hQ
 rcases two_of i x with rfl | rfl
 ·obtain ⟨d1, d2, d3, _⟩ := dir_le x h hJ; have hle := d3 f hm; have ha : ackB (U.l x).base (U.l x).box f.ack = false := by
   cases e : ackB (U.l x).base (U.l x).box f.ack with
   | false => rfl
   | true =>
    simp only [ackB, Bool.and_eq_true, decide_eq_true_eq] at e; omega
  have k := ack_no ha; have eb := hC.base; rw [c5, c6, k.2] at eb; unfold Qq; rw [comes_i, comes_o, comes_wo]; refine ⟨by rw [eb]; exact q1, ?_, ?_⟩
  ·intro y hy
   rcases List.mem_append.1 hy with hy | hy
   ·exact q2 y hy
   ·rw [hC.frs, if_pos (by rw [eb, c5]; exact Nat.le_refl _), List.nil_append] at hy; split at hy
    ·rw [List.mem_singleton.1 hy]; simp [LS.hello]
    ·simp at hy
  ·rcases hC.sent with e | ⟨_, e⟩
   ·rw [e]; exact q3
   ·rw [eb, c5] at e; omega
 ·unfold Qq; have e2 := comes_o (T := U) (i := !i) (f := f) (R := R); rw [notnot] at e2; rw [comes_i, e2, comes_wi, hC.got, if_neg (fun e => q2 f hm e.1), c7]; exact ⟨q1, fun y hy => q2 y (by rw [hw]; simp [hy]), q3⟩
theorem eq_step (h : U.Gl) (hJ : JK U) (hw : U.way x = f :: R) (hE : Eq i U) : Eq i (U.comes x f R) := by
 have hm : f ∈ U.way x := by rw [hw]; simp
 obtain ⟨hC, _, c5, c6, c7⟩ := jk_take h hJ hm; unfold Eq at *
 rcases two_of i x with rfl | rfl
 ·rw [comes_i, hC.box, c6, hE]; unfold ackL; split <;> simp
 ·have e2 := comes_o (T := U) (i := !i) (f := f) (R := R); rw [notnot] at e2; rw [e2]; exact hE
end
/-- what each frame keeps, a half keeps -/
theorem half_keep {T V : TW} {B c : Nat} {x : Bool} {P : TW → Prop} (h : T.Gl) (hO : T.Ok B) (hB : B ≤ 10000000) (hJ : JK T) (hh : T.now x ≤ (T.l x).heard + 2) (hc : Half x T V) (h0 : P ((T.later x 1).tick x))
  (hs : ∀ (U : TW) (C : Nat) (i : Bool) (f : Fr) (R : List Fr), U.Gl → U.Ok C → C ≤ 100000000 → JK U → U.way i = f :: R → P U → P (U.comes i f R)) : P V :=
 (half_ind (I := fun U => JK U ∧ P U) h hO hB hc ⟨(jk_ltick hJ hh).1, h0⟩ fun U C i f R h1 h2 h3 hw hP => ⟨jk_comes h1 hP.1 hw, hs U C i f R h1 h2 h3 hP.1 hw hP.2⟩).2
section
variable {T V : TW} {B : Nat} {x : Bool}
theorem half_box {i : Bool} (h : T.Gl) (hO : T.Ok B) (hB : B ≤ 10000000) (hJ : JK T) (hh : T.now x ≤ (T.l x).heard + 2) (hc : Half x T V) (hE : (T.l i).box = []) : (V.l i).box = [] := by
 refine half_keep (c := 0) (P := Eq i) h hO hB hJ hh hc ?_ fun U C i f R h1 h2 h3 h4 hw hP => eq_step h1 h4 hw hP
 unfold Eq
 rcases two_of x i with rfl | rfl
 ·rw [(jk_ltick hJ hh).2.2.2.2.2.2.1]; exact hE
 ·rw [ltick_o]; exact hE
theorem half_ackO (h : T.Gl) (hO : T.Ok B) (hB : B ≤ 10000000) (hJ : JK T) (hh : T.now x ≤ (T.l x).heard + 2) (hc : Half x T V) : (V.l x).got ≤ (V.l (!x)).base := by
 have hA : Aq (!x) V := by
  refine half_keep (c := 0) (P := Aq (!x)) h hO hB hJ hh hc ?_ fun U C i f R h1 h2 h3 h4 hw hP => aq_step h1 h2 h4 hw hP
  right; have eF := (tick_form (s := T.l x) (now := T.now x + 1)).1; refine ⟨((T.l x).tick (T.now x + 1)).hello, by rw [ltick_wo, eF]; simp, ?_⟩; rw [notnot, ltick_l]; exact Nat.le_refl _
 obtain ⟨_, _, _, hv⟩ := hc; unfold Aq at hA; rw [notnot] at hA
 rcases hA with hA | ⟨f, hf, _⟩
 ·exact hA
 ·rw [hv] at hf; simp at hf
theorem half_ackI (h : T.Gl) (hO : T.Ok B) (hB : B ≤ 10000000) (hJ : JK T) (hh : T.now x ≤ (T.l x).heard + 2) (hc : Half x T V) (hA : (T.l (!x)).got ≤ (T.l x).base) : (V.l (!x)).got ≤ (V.l x).base := by
 have hA : Aq x V := by
  refine half_keep (c := 0) (P := Aq x) h hO hB hJ hh hc ?_ fun U C i f R h1 h2 h3 h4 hw hP => aq_step h1 h2 h4 hw hP
  left; rw [ltick_o, (jk_ltick hJ hh).2.2.2.2.2.1]; exact hA
 obtain ⟨_, _, _, hv⟩ := hc
 rcases hA with hA | ⟨f, hf, _⟩
 ·exact hA
 ·rw [hv] at hf; simp at hf
/-- the side that did not tick sends nothing anew -/
theorem half_sentO (h : T.Gl) (hO : T.Ok B) (hB : B ≤ 10000000) (hJ : JK T) (hh : T.now x ≤ (T.l x).heard + 2) (hw : ∀ i, T.way i = []) (hc : Half x T V) (hA : (T.l x).got ≤ (T.l (!x)).base) : (V.l (!x)).sent = (T.l (!x)).sent := by
 have hQ : Qq (!x) (T.l (!x)).sent V := by
  refine half_keep (c := 0) (P := Qq (!x) (T.l (!x)).sent) h hO hB hJ hh hc ?_ fun U C i f R h1 h2 h3 h4 hw hP => qq_step h1 h4 hw hP
  unfold Qq; rw [notnot, ltick_o, (jk_ltick hJ hh).2.2.2.2.2.2.2, ltick_wi, hw]; exact ⟨hA, by simp, rfl⟩
 exact hQ.2.2
/-- the side that ticked sends all anew, and gets rid of it; or it is not yet time -/
theorem half_sentI (h : T.Gl) (hO : T.Ok B) (hB : B ≤ 10000000) (hJ : JK T) (hh : T.now x ≤ (T.l x).heard + 2) (hw : ∀ i, T.way i = []) (hc : Half x T V) (hA : (T.l (!x)).got ≤ (T.l x).base) (hu : (T.l x).up = true) :
  (V.l x).box = [] ∨ ((V.l x).sent = (T.l x).sent ∧ T.now x < (T.l x).sent + 1) := by
 obtain ⟨f1, f2, f3, f4, f5, f6, f7⟩ := tick_form (s := T.l x) (now := T.now x + 1); have ht := jk_tick1 hh; rw [ht] at f1 f2 f3 f7; obtain ⟨d1, d2, _⟩ := dir_le x h hJ; have hn : T.now x + 1 < 18446744073709551616 := by have := hO.now x; omega
 by_cases hag : (T.l x).again (T.now x + 1) = true
 ·left; rw [if_pos hag] at f1; have hP : Pq x V := by
   refine half_keep (c := 0) (P := Pq x) h hO hB hJ hh hc ?_ fun U C i f R h1 h2 h3 h4 hw hP => pq_step h1 h2 h3 h4 hw hP
   unfold Pq; have hnum := (hO.num x).tick hn; have hll := last_le hnum; have el : ((T.l x).tick (T.now x + 1)).last = (T.l x).last := by unfold LS.last; rw [f2, f3]
   rw [ltick_l, ltick_o, ltick_wo, hw, List.nil_append, f1]; have e0 : ∀ g L, takes g (((T.l x).tick (T.now x + 1)).hello :: L) = takes g L := fun g L => by
    show takes (if ((T.l x).tick (T.now x + 1)).hello.kind = 2 ∧ _ then _ else g) L = _; rw [if_neg (by rintro ⟨e, _⟩; simp [LS.hello] at e)]
   have hlen : (List.take (min ((T.l x).tick (T.now x + 1)).box.length 8) ((T.l x).tick (T.now x + 1)).box).length = min (T.l x).box.length 8 := by rw [List.length_take, f3]; omega
   unfold LS.last at hll el d2; rw [e0, due_items hnum, takes_items _ _ _ _ (by rw [f2]; exact d1) (by rw [hlen, f2]; exact d2) (by rw [hlen, f2]; rw [f2, f3] at hll; exact hll), hlen]; unfold LS.last; rw [f2, f3]; exact Nat.le_refl _
  have hA' := half_ackI h hO hB hJ hh hc hA; obtain ⟨_, _, _, hv⟩ := hc; unfold Pq at hP; rw [hv] at hP; unfold takes LS.last at hP; exact List.eq_nil_of_length_eq_zero (by omega)
 ·by_cases hb : (T.l x).box = []
  ·exact .inl (half_box h hO hB hJ hh hc hb)
  ·right; have hlb : 0 < (T.l x).box.length := List.length_pos_iff.2 hb; have hnt : T.now x < (T.l x).sent + 1 := by
    have : ¬ 2 ≤ T.now x + 1 - (T.l x).sent := fun e => hag (by
     unfold LS.again ticks; rw [hu, decide_eq_true hlb, decide_eq_true e]; rfl)
    omega
   rw [if_neg hag] at f1 f7; have hQ : Qq x (T.l x).sent V := by
    refine half_keep (c := 0) (P := Qq x (T.l x).sent) h hO hB hJ hh hc ?_ fun U C i f R h1 h2 h3 h4 hw hP => qq_step h1 h4 hw hP
    unfold Qq; rw [ltick_l, ltick_o, ltick_wo, hw, List.nil_append, f1, f2]; exact ⟨hA, fun f hf => by rw [List.mem_singleton.1 hf]; simp [LS.hello], f7⟩
   exact ⟨hQ.2.2, hnt⟩
theorem half_own (hJ : JK T) (hh : T.now x ≤ (T.l x).heard + 2) (hc : Half x T V) (y : Bool) : (V.l y).si = (T.l y).si ∧ (V.l y).conn = (T.l y).conn := by
 obtain ⟨k, _, hc, _⟩ := hc; obtain ⟨h1, h2⟩ := calm_own y k V hc; rw [h1, h2]
 rcases two_of x y with rfl | rfl
 ·obtain ⟨_, _, _, g1, g2, _⟩ := jk_ltick hJ hh; exact ⟨g2, g1⟩
 ·rw [ltick_o]; exact ⟨rfl, rfl⟩
end
/-- both sides tick, and all frames come -/
def Turn (T V : TW) : Prop := ∃ U, Half false T U ∧ Half true U V
structure Js (T : TW) : Prop where
 J : JK T
 up : ∀ x, (T.l x).up = true
 h0 : T.now false ≤ (T.l false).heard
 h1 : T.now true ≤ (T.l true).heard + 1
theorem turn_gl {T V : TW} {B : Nat} (h : T.Gl) (hO : T.Ok B) (hB : B ≤ 9000000) (hc : Turn T V) : V.Gl ∧ V.Ok (B + 400000) ∧ ∀ i, V.way i = [] := by
 obtain ⟨U, h1, h2⟩ := hc; obtain ⟨g1, g2, _⟩ := half_gl h hO (by omega) h1; obtain ⟨g3, g4, _⟩ := half_gl g1 g2 (by omega) h2; obtain ⟨_, _, _, hv⟩ := h2; exact ⟨g3, g4.mono (by omega), hv⟩
theorem turn_first {T V : TW} {B : Nat} (h : T.Gl) (hO : T.Ok B) (hB : B ≤ 9000000) (hw : ∀ i, T.way i = []) (hc : Turn T V) : Js V := by
 obtain ⟨U, h1, h2⟩ := hc; obtain ⟨g1, g2, _⟩ := half_gl h hO (by omega) h1; obtain ⟨j1, j2, j3⟩ := half_first h hO (by omega) hw h1; obtain ⟨m1, m2, m3, m4, m5⟩ := half_more (x := true) (c := 0) g1 g2 (by omega) j1 j2 (by have e : U.now true = (U.l true).heard := j3.symm; omega) (by omega) h2; refine ⟨m1, fun x => ?_, ?_, by omega⟩
 ·cases x
  ·exact m3
  ·exact m2
 ·have e : V.now false = (V.l false).heard := m4.symm; omega
theorem Js.mid {T U : TW} {B : Nat} (hJ : Js T) (h : T.Gl) (hO : T.Ok B) (hB : B ≤ 9000000) (h1 : Half false T U) : JK U ∧ (∀ x, (U.l x).up = true) ∧ U.now true ≤ (U.l true).heard := by
 obtain ⟨m1, m2, m3, m4, m5⟩ := half_more (x := false) (c := 0) h hO (by omega) hJ.J (hJ.up false) hJ.h0 (by omega) h1; refine ⟨m1, fun x => ?_, ?_⟩
 ·cases x
  ·exact m2
  ·exact m3
 ·have e : U.now true = (U.l true).heard := m4.symm; omega
theorem js_turn {T V : TW} {B : Nat} (hJ : Js T) (h : T.Gl) (hO : T.Ok B) (hB : B ≤ 9000000) (hc : Turn T V) : Js V ∧ V.pr false = T.pr false ∧ V.pr true = T.pr true := by
 obtain ⟨U, h1, h2⟩ := hc; obtain ⟨g1, g2, _⟩ := half_gl h hO (by omega) h1; obtain ⟨j1, j2, j3⟩ := hJ.mid h hO hB h1; obtain ⟨m1, m2, m3, m4, m5⟩ := half_more (x := true) (c := 0) g1 g2 (by omega) j1 (j2 true) j3 (by omega) h2; have hV : Js V := by
  refine ⟨m1, fun x => ?_, ?_, by omega⟩
  ·cases x
   ·exact m3
   ·exact m2
  ·have e : V.now false = (V.l false).heard := m4.symm; omega
 have own : ∀ y, (V.l y).si = (T.l y).si ∧ (V.l y).conn = (T.l y).conn := fun y => by
  obtain ⟨a1, a2⟩ := half_own (x := false) hJ.J (by have := hJ.h0; omega) h1 y; obtain ⟨b1, b2⟩ := half_own (x := true) j1 (by omega) h2 y; exact ⟨b1.trans a1, b2.trans a2⟩
 have prs : ∀ y, V.pr y = T.pr y := fun y => by
  have k1 := hV.J.kn y; have k2 := hJ.J.kn y; unfold TW.pr; rw [k1.1, k1.2, k2.1, k2.2, (own y).1, (own y).2, (own (!y)).1, (own (!y)).2]
 exact ⟨hV, prs false, prs true⟩
/-- so many turns since nothing was sent any more -/
structure Tn (n : Nat) (T : TW) : Prop where
 js : Js T
 w : 1 ≤ n → ∀ i, T.way i = []
 d : 1 ≤ n → ∀ i, (T.l (!i)).got ≤ (T.l i).base
 s : 2 ≤ n → ∀ i, (T.l i).box = [] ∨ (T.l i).sent + 1 ≤ T.now i
 e : 3 ≤ n → ∀ i, (T.l i).box = []
theorem tn_turn {T V : TW} {B n : Nat} (hT : Tn n T) (h : T.Gl) (hO : T.Ok B) (hB : B ≤ 9000000) (hc : Turn T V) : Tn (n + 1) V ∧ V.pr false = T.pr false := by
 have hJ := hT.js; obtain ⟨hJV, hpr, _⟩ := js_turn hJ h hO hB hc; obtain ⟨_, _, hwV⟩ := turn_gl h hO hB hc; obtain ⟨U, h1, h2⟩ := hc; obtain ⟨g1, g2, g3, g4⟩ := half_gl h hO (by omega) h1; obtain ⟨_, _, g5, g6⟩ := half_gl g1 g2 (by omega) h2; obtain ⟨j1, j2, j3⟩ := hJ.mid h hO hB h1; have b0 : T.now false ≤ (T.l false).heard + 2 := by have := hJ.h0; omega
 have b1 : U.now true ≤ (U.l true).heard + 2 := by omega
 have hwU : ∀ i, U.way i = [] := by obtain ⟨_, _, _, hv⟩ := h1; exact hv
 -- what was acknowledged
 have dU1 : (U.l false).got ≤ (U.l true).base := half_ackO (x := false) h hO (by omega) hJ.J b0 h1; have dV0 : (V.l true).got ≤ (V.l false).base := half_ackO (x := true) g1 g2 (by omega) j1 b1 h2; have dV1 : (V.l false).got ≤ (V.l true).base := half_ackI (x := true) g1 g2 (by omega) j1 b1 h2 dU1; have stay : ∀ i, (T.l i).box = [] → (V.l i).box = [] := fun i e => half_box (x := true) g1 g2 (by omega) j1 b1 h2 (half_box (x := false) h hO (by omega) hJ.J b0 h1 e)
 have key : 1 ≤ n → ∀ i, (V.l i).box = [] ∨ ((V.l i).sent = (T.l i).sent ∧ T.now i < (T.l i).sent + 1 ∧ V.now i = T.now i + 1) := by
  intro hn i; have hw := hT.w hn; have hd := hT.d hn; have d0 : (T.l true).got ≤ (T.l false).base := hd false; have d1 : (T.l false).got ≤ (T.l true).base := hd true; cases i
  ·rcases half_sentI (x := false) h hO (by omega) hJ.J b0 hw h1 d0 (hJ.up false) with e | ⟨e1, e2⟩
   ·exact .inl (half_box (x := true) g1 g2 (by omega) j1 b1 h2 e)
   ·right; have dU0 : (U.l true).got ≤ (U.l false).base := half_ackI (x := false) h hO (by omega) hJ.J b0 h1 d0; have e3 : (V.l false).sent = (U.l false).sent := half_sentO (x := true) g1 g2 (by omega) j1 b1 hwU h2 dU0; have e4 : V.now false = U.now false := g6; exact ⟨e3.trans e1, e2, by omega⟩
  ·have e3 : (U.l true).sent = (T.l true).sent := half_sentO (x := false) h hO (by omega) hJ.J b0 hw h1 d1; have e4 : U.now true = T.now true := g4
   rcases half_sentI (x := true) g1 g2 (by omega) j1 b1 hwU h2 dU1 (j2 true) with e | ⟨e1, e2⟩
   ·exact .inl e
   ·right; exact ⟨e1.trans e3, by omega, by omega⟩
 refine ⟨⟨hJV, fun _ => hwV, fun _ i => ?_, fun hn i => ?_, fun hn i => ?_⟩, hpr⟩
 ·cases i
  ·exact dV0
  ·exact dV1
 ·rcases key (by omega) i with e | ⟨e1, e2, e3⟩
  ·exact .inl e
  ·have := h.st i
   exact .inr (by omega)
 ·rcases key (by omega) i with e | ⟨e1, e2, e3⟩
  ·exact e
  ·rcases hT.s (by omega) i with e | e
   ·exact stay i e
   ·omega
/-- in the end all that was sent is told -/
theorem tn_end {T : TW} {n : Nat} (hT : Tn n T) (hn : 3 ≤ n) (h : T.Gl) (i : Bool) : (T.told (T.pr i)).length = (T.sent (T.pr i)).length ∧ (T.l i).box = [] := by
 have he := hT.e hn i; obtain ⟨d1, d2, _, _, d5⟩ := dir_le i h hT.js.J; have e : T.pr i = prL i (T.l i) := rfl; obtain ⟨s1, s2⟩ := h.O.snd i; have hl := congrArg List.length s2; rw [List.length_drop, he] at hl; have hp := (h.O.pre (T.pr i)).length_le; rw [← e] at d5 s1 hl; simp only [List.length_nil] at hl; exact ⟨by omega, he⟩
theorem js_send {T : TW} (hJ : Js T) (i : Bool) : Js (T.send i) ∧ (∀ x, ((T.send i).way x).length ≤ (T.way x).length + 1) := by
 obtain ⟨e1, e2, _⟩ := send_l T i; have hw : (T.send i).way = atB T.way (!i) (T.way (!i) ++ (T.l i).sendF (bodyN T.n i)) := by cases i <;> first | exact send_way0 | exact send_way1
 obtain ⟨u1, u2, u3, u4, u5, u6, u7⟩ := send_up (s := T.l i) (now := T.now i) (b := bodyN T.n i); have hd : ((T.l i).send (T.now i) (bodyN T.n i)).heard = (T.l i).heard := by unfold LS.send; split <;> rfl
 have same : ∀ x, ((T.send i).l x).si = (T.l x).si ∧ ((T.send i).l x).conn = (T.l x).conn ∧ ((T.send i).l x).inc = (T.l x).inc ∧ ((T.send i).l x).known = (T.l x).known ∧ ((T.send i).l x).up = (T.l x).up ∧ ((T.send i).l x).heard = (T.l x).heard := fun x => by
  rw [e1]
  rcases two_of i x with rfl | rfl
  ·rw [atB_same]; exact ⟨u3, u5, u6, u7, u1, hd⟩
  ·rw [atB_not]; exact ⟨rfl, rfl, rfl, rfl, rfl, rfl⟩
 have hof := ofL_sendF (T.l i) (T.now i) (bodyN T.n i); have old : ∀ y, ∀ z ∈ T.way y, Ro ((T.send i).l (!y)) z ∧ Rk ((T.send i).l y) z := fun y z hz => by
  obtain ⟨z1, z2⟩ := hJ.J.fr y z hz; unfold Ro Rk at *; rw [(same (!y)).1, (same (!y)).2.1, (same y).1, (same y).2.1]; exact ⟨z1, z2⟩
 refine ⟨⟨⟨fun x => ?_, fun y z hz => ?_⟩, fun x => by rw [(same x).2.2.2.2.1]; exact hJ.up x, by rw [e2, (same false).2.2.2.2.2]; exact hJ.h0, by rw [e2, (same true).2.2.2.2.2]; exact hJ.h1⟩, fun x => ?_⟩
 ·have := hJ.J.kn x
  unfold Kn at *; rw [(same x).2.2.1, (same x).2.2.2.1, (same (!x)).1, (same (!x)).2.1]; exact this
 ·rw [hw] at hz
  rcases two_of i y with rfl | rfl
  ·have : atB T.way (!y) (T.way (!y) ++ (T.l y).sendF (bodyN T.n y)) y = T.way y := by unfold atB; rw [if_neg (fun e => not_ne y e.symm)]
   rw [this] at hz; exact old y z hz
  ·rw [atB_same] at hz
   rcases List.mem_append.1 hz with hz | hz
   ·exact old _ z hz
   ·obtain ⟨o1, o2, o3, o4⟩ := hof z hz; have hk := hJ.J.kn i; unfold Ro Rk; rw [notnot, (same (!i)).1, (same (!i)).2.1, (same i).1, (same i).2.1, o1, o2, o3, o4, u3, u5, u6, u7]; exact ⟨⟨rfl, rfl⟩, hk⟩
 ·rw [hw]; unfold atB; split
  ·rename_i e
   rw [e, List.length_append]; have : ((T.l i).sendF (bodyN T.n i)).length ≤ 1 := by unfold LS.sendF; split <;> simp
   omega
  ·omega
end Go.Proofs.Ytngegjboenfmeaa
/- The beginning of two links' harness. -/
namespace Go.Proofs.Ytngegjboenfmeaa
open Go Go.RowKit Go.Shelf
set_option linter.unusedVariables false
set_option maxRecDepth 100000
set_option linter.unusedSimpArgs false

theorem TwA.bad {w0 w : World} {g a0 a1 : Nat} {T : TW} {Qs : List SP} (h : TwA a0 a1 w0 w g T Qs) : w.cell? ⟨g, 11, none⟩ = some (.bool false) := by
 obtain ⟨b0, b1, v0, v1, W0, W1, BB, bs, bt, q1, q2, q3, q4, h⟩ := h; exact cA (i := 0) h rfl 11 rfl
theorem TwA.bel {w0 w : World} {g a0 a1 : Nat} {T : TW} {Qs : List SP} (h : TwA a0 a1 w0 w g T Qs) : Below w0.heap.size w0 w := by
 obtain ⟨b0, b1, v0, v1, W0, W1, BB, bs, bt, q1, q2, q3, q4, h⟩ := h; exact h.bel
theorem has_bel {w w' : World} {A : Option Addr} {xs : List Value} (hb : Below w.heap.size w w') (h : Has w w.heap.size A xs) : Has w' w.heap.size A xs := h.below hb
set_option maxHeartbeats 3200000 in
theorem begin_any (w : World) : Calls Try.prog 9 #[] w fun e w' => ∃ g a0 a1, e = .returned (.pointer (some ⟨g, 0, none⟩)) ∧ TwA a0 a1 w w' g TW.start [] := by
 have hmm := @run_makeMap Try.prog; have h1 := sep_mapNew (sep_mapNew (Sep.nil w)); rw [World.size_alloc] at h1; have h2 := sep_ceF h1 (twC (.pointer none) (.pointer none) 0 0 0 0 (.slice none 0 0) (.slice none 0 0) w.heap.size (w.heap.size + 1) 0) 34; simp only [World.size_alloc] at h2; have HS := Lib.hid h2; clear h1 h2; go_enter Try.func9, Try.ntmps9
 go_wp2_with fail
 refine (life0 HS.out (by omega)).mono ?_; rintro e w1 ⟨rfl, a0, h1⟩; have HS1 := Lib.hid h1; clear h1 HS hmm
 go_wp2_with fail
 refine (life1 HS1.out (by omega)).mono ?_; rintro e w2 ⟨rfl, a1, h2⟩; have HS2 := Lib.hid h2; clear h2 HS1
 go_wp2_with fail
 go_ret
 have h3 := sep_bodsNil (sep_rwoNil (sep_rwoNil HS2.out 51 10) 51 10); refine ⟨_, a0, a1, rfl, .slice none 0 0, .slice none 0 0, .slice none 0 0, .slice none 0 0, [], [], [], _, _, rfl, rfl, by simp [fB_], by simp [fB_], ((((((((((h3).tF 8 rfl).tF 9 rfl).tF 2 rfl).tF 3 rfl).tF 4 rfl).tF 7 rfl).tF 7 rfl).tF 9 rfl).tF 9 rfl).tF 9 rfl⟩
end Go.Proofs.Ytngegjboenfmeaa
/- Numbers stay small while two links come to rest; a frame is taken straight out of its way. -/
namespace Go.Proofs.Ytngegjboenfmeaa
open Go Go.RowKit
set_option linter.unusedVariables false
set_option linter.unusedSimpArgs false
set_option maxRecDepth 100000

def ways (T : TW) : Nat := (T.way false).length + (T.way true).length
theorem ways_ltick (T : TW) (x : Bool) : ways ((T.later x 1).tick x) ≤ ways T + 9 := by
 have h1 := tickF_len (T.l x) (T.now x + 1); have h2 := congrArg List.length (ltick_wi (T := T) (x := x)); have h3 := congrArg List.length (ltick_wo (T := T) (x := x)); rw [List.length_append] at h3; unfold ways; cases x
 ·have h3' : (((T.later false 1).tick false).way true).length = (T.way true).length + ((T.l false).tickF (T.now false + 1)).length := h3; omega
 ·have h3' : (((T.later true 1).tick true).way false).length = (T.way false).length + ((T.l true).tickF (T.now true + 1)).length := h3; omega
theorem phi_ltick {T : TW} {B : Nat} {x : Bool} (h : T.Gl) (hO : T.Ok B) (hB : B ≤ 10000000) (hw : ways T ≤ 40) : ((T.later x 1).tick x).phi ≤ 309 := by
 obtain ⟨_, g2⟩ := gl_ltick h hO hB x; have h1 := phi_le g2; have h2 := ways_ltick T x; unfold ways at h2 hw; omega
theorem half_ok {T V : TW} {B : Nat} {x : Bool} (h : T.Gl) (hO : T.Ok B) (hB : B ≤ 10000000) (hw : ways T ≤ 40) (hc : Half x T V) : V.Gl ∧ V.Ok (B + 2800) ∧ ways V = 0 := by
 have hp := phi_ltick (x := x) h hO hB hw; obtain ⟨k, hk, hc, hv⟩ := hc; obtain ⟨g1, g2⟩ := gl_ltick h hO hB x; obtain ⟨k1, k2, k3⟩ := calm_gl g1 g2 k V hc (by omega); exact ⟨k1, k2.mono (by omega), by unfold ways; rw [hv, hv]; rfl⟩
theorem turn_ok {T V : TW} {B : Nat} (h : T.Gl) (hO : T.Ok B) (hB : B ≤ 9000000) (hw : ways T ≤ 40) (hc : Turn T V) : V.Gl ∧ V.Ok (B + 5600) ∧ ways V = 0 := by
 obtain ⟨U, h1, h2⟩ := hc; obtain ⟨g1, g2, g3⟩ := half_ok h hO (by omega) hw h1; obtain ⟨g4, g5, g6⟩ := half_ok g1 g2 (by omega) (by omega) h2; exact ⟨g4, g5.mono (by omega), g6⟩
theorem ways_nil {T : TW} (h : ways T = 0) : ∀ i, T.way i = [] := fun i => by
 unfold ways at h; cases i
 ·exact List.length_eq_zero_iff.1 (by omega)
 ·exact List.length_eq_zero_iff.1 (by omega)
/-- a body lies among the bodies that are on their way -/
def TwX (u : Value) (l : List UInt8) (a0 a1 : Nat) (w0 w : World) (g : Nat) (T : TW) (Qs : List SP) : Prop := ∃ b0 b1 v0 v1 W0 W1 BB bs bt, W0.map Prod.fst = T.way false ∧ W1.map Prod.fst = T.way true ∧ (∀ x ∈ fB_ W0, x ∈ BB) ∧ (∀ x ∈ fB_ W1, x ∈ BB) ∧ (u, l) ∈ BB ∧
 Sep w0 w (TWL g a0 a1 b0 b1 v0 v1 W0 W1 BB bs bt T Qs)
section
variable {u : Value} {l : List UInt8} {w0 w : World} {g a0 a1 : Nat} {T : TW} {Qs : List SP}
theorem TwX.a (h : TwX u l a0 a1 w0 w g T Qs) : TwA a0 a1 w0 w g T Qs := by
 obtain ⟨b0, b1, v0, v1, W0, W1, BB, bs, bt, q1, q2, q3, q4, _, h⟩ := h; exact ⟨b0, b1, v0, v1, W0, W1, BB, bs, bt, q1, q2, q3, q4, h⟩
theorem takeX0 {B : Nat} {f : Fr} {A : Option Addr} {c : Nat} (h : TwX (.slice A f.body.length c) f.body a0 a1 w0 w g T Qs) (hO : T.Ok B) (hB : B ≤ 1000000000) (hbl : f.body.length ≤ maxLen) (hack : f.ack < 18446744073709551616) (hseq : f.seq < 18446744073709551616) :
  Calls Try.prog 15 #[.pointer (some ⟨a0, 0, none⟩), .int .u64 ((T.now false : Nat) : Int), .agg (f.cells A c)] w fun e w' => ∃ v, e = .returned v ∧ MidA a0 a1 v w0 w' g (T.withL false ((T.l false).take (T.now false) f)) ((T.l false).takeF (T.now false) f) ((T.l false).takeE (T.now false) f) Qs := by
 obtain ⟨b0, b1, v0, v1, W0, W1, BB, bs, bt, q1, q2, q3, q4, q5, h⟩ := h; have hn := hO.now false; have h1 := (show Sep w0 w (Ce a0 72 ((T.l false).cells b0) :: BoxT b0 (T.l false).box :: Bods BB :: Ce g 34 (twC (.pointer (some ⟨a0, 0, none⟩)) (.pointer (some ⟨a1, 0, none⟩)) (T.l false).si (T.l true).si (T.now false) (T.now true) v0 v1 bs bt T.n) :: Ce a1 72 ((T.l true).cells b1) :: BoxT b1 (T.l true).box :: RwO 51 10 v0 W0.length (fR_ W0) :: RwO 51 10 v1 W1.length (fR_ W1) :: MapT bs T.sent :: MapT bt T.told :: Qs) from ((((((((h).tF 6 rfl).tF 6 rfl).tF 6 rfl).tF 6 rfl).tF 4 rfl).tF 7 rfl).tF 7 rfl).tF 7 rfl); refine (takeG h1 (reads_bods q5) (hO.num false) hbl hack hseq (by omega)).mono ?_; rintro e w' ⟨vF, vE, b', LP, LE, rfl, e1, e2, h2⟩; refine ⟨_, rfl, vF, vE, LP, LE, b', b1, v0, v1, W0, W1, BB, bs, bt, rfl, e1, e2, q1, q2, q3, q4, ?_⟩; rw [← (take_same (T.l false) (T.now false) f).2.1] at h2; exact (show Sep w0 w' (Rw 51 10 vF LP.length (fR_ LP) :: Bods (fB_ LP) :: Rw 49 4 vE LE.length (eR_ LE) :: Bods (eB_ LE) :: Ce g 34 (twC (.pointer (some ⟨a0, 0, none⟩)) (.pointer (some ⟨a1, 0, none⟩)) ((T.l false).take (T.now false) f).si (T.l true).si (T.now false) (T.now true) v0 v1 bs bt T.n) :: Ce a0 72 (((T.l false).take (T.now false) f).cells b') :: BoxT b' ((T.l false).take (T.now false) f).box :: Ce a1 72 ((T.l true).cells b1) :: BoxT b1 (T.l true).box :: RwO 51 10 v0 W0.length (fR_ W0) :: RwO 51 10 v1 W1.length (fR_ W1) :: Bods BB :: MapT bs T.sent :: MapT bt T.told :: Qs) from ((((((((((((h2).tF 6 rfl).tF 11 rfl).tF 11 rfl).tF 11 rfl).tF 11 rfl).tF 10 rfl).tF 10 rfl).tF 11 rfl).tF 11 rfl).tF 11 rfl).tF 11 rfl).tF 11 rfl)
theorem takeX1 {B : Nat} {f : Fr} {A : Option Addr} {c : Nat} (h : TwX (.slice A f.body.length c) f.body a0 a1 w0 w g T Qs) (hO : T.Ok B) (hB : B ≤ 1000000000) (hbl : f.body.length ≤ maxLen) (hack : f.ack < 18446744073709551616) (hseq : f.seq < 18446744073709551616) :
  Calls Try.prog 15 #[.pointer (some ⟨a1, 0, none⟩), .int .u64 ((T.now true : Nat) : Int), .agg (f.cells A c)] w fun e w' => ∃ v, e = .returned v ∧ MidA a0 a1 v w0 w' g (T.withL true ((T.l true).take (T.now true) f)) ((T.l true).takeF (T.now true) f) ((T.l true).takeE (T.now true) f) Qs := by
 obtain ⟨b0, b1, v0, v1, W0, W1, BB, bs, bt, q1, q2, q3, q4, q5, h⟩ := h; have hn := hO.now true; have h1 := (show Sep w0 w (Ce a1 72 ((T.l true).cells b1) :: BoxT b1 (T.l true).box :: Bods BB :: Ce g 34 (twC (.pointer (some ⟨a0, 0, none⟩)) (.pointer (some ⟨a1, 0, none⟩)) (T.l false).si (T.l true).si (T.now false) (T.now true) v0 v1 bs bt T.n) :: Ce a0 72 ((T.l false).cells b0) :: BoxT b0 (T.l false).box :: RwO 51 10 v0 W0.length (fR_ W0) :: RwO 51 10 v1 W1.length (fR_ W1) :: MapT bs T.sent :: MapT bt T.told :: Qs) from ((((((((h).tF 6 rfl).tF 6 rfl).tF 4 rfl).tF 4 rfl).tF 4 rfl).tF 7 rfl).tF 7 rfl).tF 7 rfl); refine (takeG h1 (reads_bods q5) (hO.num true) hbl hack hseq (by omega)).mono ?_; rintro e w' ⟨vF, vE, b', LP, LE, rfl, e1, e2, h2⟩; refine ⟨_, rfl, vF, vE, LP, LE, b0, b', v0, v1, W0, W1, BB, bs, bt, rfl, e1, e2, q1, q2, q3, q4, ?_⟩; rw [← (take_same (T.l true) (T.now true) f).2.1] at h2; exact (show Sep w0 w' (Rw 51 10 vF LP.length (fR_ LP) :: Bods (fB_ LP) :: Rw 49 4 vE LE.length (eR_ LE) :: Bods (eB_ LE) :: Ce g 34 (twC (.pointer (some ⟨a0, 0, none⟩)) (.pointer (some ⟨a1, 0, none⟩)) (T.l false).si ((T.l true).take (T.now true) f).si (T.now false) (T.now true) v0 v1 bs bt T.n) :: Ce a0 72 ((T.l false).cells b0) :: BoxT b0 (T.l false).box :: Ce a1 72 (((T.l true).take (T.now true) f).cells b') :: BoxT b' ((T.l true).take (T.now true) f).box :: RwO 51 10 v0 W0.length (fR_ W0) :: RwO 51 10 v1 W1.length (fR_ W1) :: Bods BB :: MapT bs T.sent :: MapT bt T.told :: Qs) from ((((((((((((h2).tF 6 rfl).tF 11 rfl).tF 11 rfl).tF 8 rfl).tF 8 rfl).tF 11 rfl).tF 11 rfl).tF 11 rfl).tF 11 rfl).tF 11 rfl).tF 11 rfl).tF 11 rfl)
/-- the pair of a side -/
theorem ofA0 {B : Nat} (h : TwA a0 a1 w0 w g T Qs) (hO : T.Ok B) : Calls Try.prog 28 #[.pointer (some ⟨g, 0, none⟩), .int .i64 0] w fun e w' => e = .returned (prV (T.pr false)) ∧ Below w.heap.size w w' := by
 obtain ⟨b0, b1, v0, v1, W0, W1, BB, bs, bt, q1, q2, q3, q4, h⟩ := h; exact of0 _ (cH (i := 0) h rfl) (cH (i := 1) h rfl) (hO.num false).sn
theorem ofA1 {B : Nat} (h : TwA a0 a1 w0 w g T Qs) (hO : T.Ok B) : Calls Try.prog 28 #[.pointer (some ⟨g, 0, none⟩), .int .i64 1] w fun e w' => e = .returned (prV (T.pr true)) ∧ Below w.heap.size w w' := by
 obtain ⟨b0, b1, v0, v1, W0, W1, BB, bs, bt, q1, q2, q3, q4, h⟩ := h; exact of1 _ (cH (i := 0) h rfl) (cH (i := 3) h rfl) (hO.num true).sn
theorem upA0 {B : Nat} (h : TwA a0 a1 w0 w g T Qs) (hO : T.Ok B) : Calls Try.prog 12 #[.pointer (some ⟨a0, 0, none⟩)] w fun e w' => e = .returned (.bool (T.l false).up) ∧ Below w.heap.size w w' := by
 obtain ⟨b0, b1, v0, v1, W0, W1, BB, bs, bt, q1, q2, q3, q4, h⟩ := h; exact up_any _ a0 (T.l false).sn (T.l false).up (hO.num false).sn (cA (i := 1) h rfl 3 rfl) (cA (i := 1) h rfl 9 rfl)
theorem upA1 {B : Nat} (h : TwA a0 a1 w0 w g T Qs) (hO : T.Ok B) : Calls Try.prog 12 #[.pointer (some ⟨a1, 0, none⟩)] w fun e w' => e = .returned (.bool (T.l true).up) ∧ Below w.heap.size w w' := by
 obtain ⟨b0, b1, v0, v1, W0, W1, BB, bs, bt, q1, q2, q3, q4, h⟩ := h; exact up_any _ a1 (T.l true).sn (T.l true).up (hO.num true).sn (cA (i := 3) h rfl 3 rfl) (cA (i := 3) h rfl 9 rfl)
theorem waitsA0 {B : Nat} (h : TwA a0 a1 w0 w g T Qs) (hO : T.Ok B) : Calls Try.prog 23 #[.pointer (some ⟨a0, 0, none⟩)] w fun e w' => e = .returned (.int .i64 ((T.l false).box.length : Int)) ∧ Below w.heap.size w w' := by
 obtain ⟨b0, b1, v0, v1, W0, W1, BB, bs, bt, q1, q2, q3, q4, h⟩ := h; obtain ⟨A, c, rfl, _⟩ := sep_boxForm (i := 2) h rfl fun l hl => by have := (bodyB_len ((hO.num false).bodies _ hl)).2; omega
 exact waits_any _ a0 (T.l false).base A _ c (T.l false).got (T.l false).sn (T.l false).si (T.l false).peer (T.l false).conn (T.l false).inc (T.l false).known (T.l false).up (T.l false).heard (T.l false).sent (hO.num false).sn (cH (i := 1) h rfl)
theorem waitsA1 {B : Nat} (h : TwA a0 a1 w0 w g T Qs) (hO : T.Ok B) : Calls Try.prog 23 #[.pointer (some ⟨a1, 0, none⟩)] w fun e w' => e = .returned (.int .i64 ((T.l true).box.length : Int)) ∧ Below w.heap.size w w' := by
 obtain ⟨b0, b1, v0, v1, W0, W1, BB, bs, bt, q1, q2, q3, q4, h⟩ := h; obtain ⟨A, c, rfl, _⟩ := sep_boxForm (i := 4) h rfl fun l hl => by have := (bodyB_len ((hO.num true).bodies _ hl)).2; omega
 exact waits_any _ a1 (T.l true).base A _ c (T.l true).got (T.l true).sn (T.l true).si (T.l true).peer (T.l true).conn (T.l true).inc (T.l true).known (T.l true).up (T.l true).heard (T.l true).sent (hO.num true).sn (cH (i := 3) h rfl)
end
end Go.Proofs.Ytngegjboenfmeaa
/- All frames come till none is on its way: the walk of calm. -/
namespace Go.Proofs.Ytngegjboenfmeaa
open Go Go.RowKit Go.Shelf
set_option linter.unusedVariables false
set_option maxRecDepth 100000
set_option linter.unusedSimpArgs false

def CalmP (T : TW) (a0 a1 : Nat) (w0 : World) (g : Nat) (Qs : List SP) (w' : World) : Prop := ∃ k U, k ≤ 20000 ∧ Calm T k U ∧ (∀ i, U.way i = []) ∧ TwA a0 a1 w0 w' g U Qs
set_option maxHeartbeats 6400000 in
theorem calm_any {w0 w : World} {Qs : List SP} {g a0 a1 B : Nat} {T : TW} (h : TwA a0 a1 w0 w g T Qs) (hG : T.Gl) (hO : T.Ok B) (hphi : T.phi ≤ 20000) (hB : B + 9 * T.phi ≤ 90000000) :
  Calls Try.prog 25 #[.pointer (some ⟨g, 0, none⟩)] w fun e w' => e = .returned (.bool true) ∧ CalmP T a0 a1 w0 g Qs w' := by
 have HA := Lib.hid h; have HGT := Lib.hid hG; have HOT := Lib.hid hO; clear h hG hO; go_enter Try.func25, Try.ntmps25
 go_wp2_with fail
 go_loopw [3] (fun nv wr => ∃ (k : Nat) (U : TW), nv = .int .i64 (k : Int) ∧ k ≤ T.phi ∧ Hid (Calm T k U) ∧ Hid (TwA a0 a1 w0 wr g U Qs)) (fun nv _ => T.phi - (intOf nv).toNat)
 case atStart => exact ⟨0, T, rfl, Nat.zero_le _, Lib.hid rfl, HA⟩
 case round =>
  obtain ⟨k, U, rfl, hkT, HK, HM⟩ := hrel; obtain ⟨phi, Hphi⟩ : ∃ y, Hid (T.phi = y) := ⟨_, Lib.hid rfl⟩; rw [Hphi.out] at hkT hphi hB; obtain ⟨g1, g2, g3⟩ := calm_gl HGT.out HOT.out k U HK.out (by omega); obtain ⟨C, HC⟩ : ∃ y, Hid (B + 9 * k = y) := ⟨_, Lib.hid rfl⟩; rw [HC.out] at g2; have hC : C ≤ 90000000 := by have := HC.out; omega
  have HO := Lib.hid g2; obtain ⟨b0, b1, v0, v1, W0, W1, BB, bs, bt, q1, q2, q3, q4, h⟩ := HM.out; obtain ⟨A0, c0, hv0, hcV0, _, hasV0⟩ := sep_rwoForm (i := 5) h rfl; obtain ⟨A1, c1, hv1, hcV1, _, hasV1⟩ := sep_rwoForm (i := 6) h rfl; subst hv0 hv1; have HQW := Lib.hid (And.intro q1 (And.intro q2 (And.intro q3 q4))); obtain ⟨n0, Hl0⟩ : ∃ y, Hid (W0.length = y) := ⟨_, Lib.hid rfl⟩; obtain ⟨n1, Hl1⟩ : ∃ y, Hid (W1.length = y) := ⟨_, Lib.hid rfl⟩; have hn0 : n0 ≤ C := by have h1 := g2.way false; rw [← q1, List.length_map, Hl0.out] at h1; exact h1
  have hn1 : n1 ≤ C := by have h1 := g2.way true; rw [← q2, List.length_map, Hl1.out] at h1; exact h1
  rw [Hphi.out] at g3; have HGU := Lib.hid g1; have e3 : decide (20000 < (k : Int)) = false := decide_eq_false (by omega); have e4 : decide (20000 < k) = false := decide_eq_false (by omega); have HS1 := Lib.hid (show Sep w0 wr (Ce g 34 #[.pointer (some ⟨a0, 0, none⟩), .pointer (some ⟨a1, 0, none⟩), .int .u64 (((U.l false).si : Nat) : Int), .int .u64 (((U.l true).si : Nat) : Int), .int .u64 ((U.now false : Nat) : Int), .int .u64 ((U.now true : Nat) : Int), .slice A0 n0 c0, .slice A1 n1 c1, .map (some bs), .map (some bt), .int .i64 ((U.n : Nat) : Int), .bool false] :: Ce a0 72 ((U.l false).cells b0) :: BoxT b0 (U.l false).box :: Ce a1 72 ((U.l true).cells b1) :: BoxT b1 (U.l true).box :: RwO 51 10 (.slice A0 n0 c0) n0 (fR_ W0) :: RwO 51 10 (.slice A1 n1 c1) n1 (fR_ W1) :: Bods BB :: MapT bs U.sent :: MapT bt U.told :: Qs) by have h1 := h; rw [TWL, Hl0.out, Hl1.out] at h1; exact h1); rw [Hl0.out] at hcV0; rw [Hl1.out] at hcV1; obtain ⟨nn, Hnn⟩ : ∃ y, Hid (n0 + n1 = y) := ⟨_, Lib.hid rfl⟩; have ewn : IntKind.i64.wrap ((n0 : Int) + (n1 : Int)) = (nn : Int) := by rw [IntKind.wrap_i64, ← Hnn.out]; omega
  have HHAS0 := Lib.hid hasV0; clear h q1 q2 q3 q4 g2
  by_cases hz : nn = 0
  ·have e1 : decide (0 < nn) = false := decide_eq_false (by omega); have e2 : decide ((0 : Int) < (nn : Int)) = false := decide_eq_false (by omega); have HZZ := Lib.hid hz; clear hz
   go_wp2_with fail
   refine wRG (fun dn xv W => Sep w0 W (Ce g 34 #[.pointer (some ⟨a0, 0, none⟩), .pointer (some ⟨a1, 0, none⟩), .int .u64 (((U.l false).si : Nat) : Int), .int .u64 (((U.l true).si : Nat) : Int), .int .u64 ((U.now false : Nat) : Int), .int .u64 ((U.now true : Nat) : Int), .slice A0 n0 c0, .slice A1 n1 c1, .map (some bs), .map (some bt), .int .i64 ((U.n : Nat) : Int), .bool false] :: Ce a0 72 ((U.l false).cells b0) :: BoxT b0 (U.l false).box :: Ce a1 72 ((U.l true).cells b1) :: BoxT b1 (U.l true).box :: RwO 51 10 (.slice A0 n0 c0) n0 (fR_ W0) :: RwO 51 10 (.slice A1 n1 c1) n1 (fR_ W1) :: Bods BB :: MapT bs U.sent :: MapT bt U.told :: Qs)) (fun _ _ => True) [xP_ g 0, xP_ g 0, xP_ g 6, xP_ g 6, xV_ (.slice A0 n0 c0), xV_ (.int .i64 (n0 : Int)), xP_ g 0, xP_ g 0, xP_ g 6, xP_ g 7, xV_ (.slice A1 n1 c1), xV_ (.int .i64 (n1 : Int)), xV_ (.int .i64 (nn : Int)), xV_ (.bool false)] (fun xv => by simpa using HS1.out.drew) ?_ ?_
   ·refine Ep 1 0 g 0 ?_
    refine Ee 2 6 0 ?_
    refine Ee 3 7 1 ?_
    refine Ee 4 8 2 ?_
    refine Eek 5 9 3 (fun _ _ _ e => cA (i := 0) e rfl 6 rfl) ?_
    refine Ee 6 10 4 ?_
    refine Ep 7 0 g 0 ?_
    refine Ee 8 12 6 ?_
    refine Ee 9 13 7 ?_
    refine Ee 10 14 8 ?_
    refine Eek 11 15 9 (fun _ _ _ e => cA (i := 0) e rfl 7 rfl) ?_
    refine Ee 12 16 10 ?_
    refine Eee 13 11 5 17 11 ?_
    refine Ee 14 18 12 ?_
    exact EN
   ·intro dn xv w3 hI H; have q13 : xv 13 = .bool false := (H 13 (of_decide_eq_true (by kernel_rfl))).2; have hS : Sep w0 w3 (Ce g 34 #[.pointer (some ⟨a0, 0, none⟩), .pointer (some ⟨a1, 0, none⟩), .int .u64 (((U.l false).si : Nat) : Int), .int .u64 (((U.l true).si : Nat) : Int), .int .u64 ((U.now false : Nat) : Int), .int .u64 ((U.now true : Nat) : Int), .slice A0 n0 c0, .slice A1 n1 c1, .map (some bs), .map (some bt), .int .i64 ((U.n : Nat) : Int), .bool false] :: Ce a0 72 ((U.l false).cells b0) :: BoxT b0 (U.l false).box :: Ce a1 72 ((U.l true).cells b1) :: BoxT b1 (U.l true).box :: RwO 51 10 (.slice A0 n0 c0) n0 (fR_ W0) :: RwO 51 10 (.slice A1 n1 c1) n1 (fR_ W1) :: Bods BB :: MapT bs U.sent :: MapT bt U.told :: Qs) := hI; clear H hI; simp only [putAll, Act.put, List.setIfInBounds_toArray, List.set_cons_zero, List.set_cons_succ, Nat.reduceAdd, q13]; clear q13; have HS2 := Lib.hid hS; clear hS
    go_wp2_with fail
    go_ret
    refine ⟨rfl, k, U, by omega, HK.out, fun i => ?_, b0, b1, .slice A0 W0.length c0, .slice A1 W1.length c1, W0, W1, BB, bs, bt, HQW.out.1, HQW.out.2.1, HQW.out.2.2.1, HQW.out.2.2.2, ?_⟩
    ·cases i
     ·rw [← HQW.out.1]; exact List.map_eq_nil_iff.2 (List.length_eq_zero_iff.1 (by have := Hnn.out; have := Hl0.out; have := HZZ.out; omega))
     ·rw [← HQW.out.2.1]; exact List.map_eq_nil_iff.2 (List.length_eq_zero_iff.1 (by have := Hnn.out; have := Hl1.out; have := HZZ.out; omega))
    ·have h1 := HS2.out; rw [← Hl0.out, ← Hl1.out] at h1; exact h1
  ·have e1 : decide (0 < nn) = true := decide_eq_true (by omega); have e2 : decide ((0 : Int) < (nn : Int)) = true := decide_eq_true (by omega)
   go_wp2_with fail
   refine wRG (fun dn xv W => Sep w0 W (Ce g 34 #[.pointer (some ⟨a0, 0, none⟩), .pointer (some ⟨a1, 0, none⟩), .int .u64 (((U.l false).si : Nat) : Int), .int .u64 (((U.l true).si : Nat) : Int), .int .u64 ((U.now false : Nat) : Int), .int .u64 ((U.now true : Nat) : Int), .slice A0 n0 c0, .slice A1 n1 c1, .map (some bs), .map (some bt), .int .i64 ((U.n : Nat) : Int), .bool false] :: Ce a0 72 ((U.l false).cells b0) :: BoxT b0 (U.l false).box :: Ce a1 72 ((U.l true).cells b1) :: BoxT b1 (U.l true).box :: RwO 51 10 (.slice A0 n0 c0) n0 (fR_ W0) :: RwO 51 10 (.slice A1 n1 c1) n1 (fR_ W1) :: Bods BB :: MapT bs U.sent :: MapT bt U.told :: Qs)) (fun _ _ => True) [xP_ g 0, xP_ g 0, xP_ g 6, xP_ g 6, xV_ (.slice A0 n0 c0), xV_ (.int .i64 (n0 : Int)), xP_ g 0, xP_ g 0, xP_ g 6, xP_ g 7, xV_ (.slice A1 n1 c1), xV_ (.int .i64 (n1 : Int)), xV_ (.int .i64 (nn : Int)), xV_ (.bool true)] (fun xv => by simpa using HS1.out.drew) ?_ ?_
   ·refine Ep 1 0 g 0 ?_
    refine Ee 2 6 0 ?_
    refine Ee 3 7 1 ?_
    refine Ee 4 8 2 ?_
    refine Eek 5 9 3 (fun _ _ _ e => cA (i := 0) e rfl 6 rfl) ?_
    refine Ee 6 10 4 ?_
    refine Ep 7 0 g 0 ?_
    refine Ee 8 12 6 ?_
    refine Ee 9 13 7 ?_
    refine Ee 10 14 8 ?_
    refine Eek 11 15 9 (fun _ _ _ e => cA (i := 0) e rfl 7 rfl) ?_
    refine Ee 12 16 10 ?_
    refine Eee 13 11 5 17 11 ?_
    refine Ee 14 18 12 ?_
    exact EN
   ·intro dn xv w3 hI H; have q13 : xv 13 = .bool true := (H 13 (of_decide_eq_true (by kernel_rfl))).2; have hS : Sep w0 w3 (Ce g 34 #[.pointer (some ⟨a0, 0, none⟩), .pointer (some ⟨a1, 0, none⟩), .int .u64 (((U.l false).si : Nat) : Int), .int .u64 (((U.l true).si : Nat) : Int), .int .u64 ((U.now false : Nat) : Int), .int .u64 ((U.now true : Nat) : Int), .slice A0 n0 c0, .slice A1 n1 c1, .map (some bs), .map (some bt), .int .i64 ((U.n : Nat) : Int), .bool false] :: Ce a0 72 ((U.l false).cells b0) :: BoxT b0 (U.l false).box :: Ce a1 72 ((U.l true).cells b1) :: BoxT b1 (U.l true).box :: RwO 51 10 (.slice A0 n0 c0) n0 (fR_ W0) :: RwO 51 10 (.slice A1 n1 c1) n1 (fR_ W1) :: Bods BB :: MapT bs U.sent :: MapT bt U.told :: Qs) := hI; clear H hI; simp only [putAll, Act.put, List.setIfInBounds_toArray, List.set_cons_zero, List.set_cons_succ, Nat.reduceAdd, q13]; clear q13; clear ewn e1 e2; have kz := cA (v := .slice A0 n0 c0) (i := 0) hS rfl 6 rfl
    by_cases h0 : n0 = 0
    ·have e0 : ((n0 : Int) == 0) = true := by simp; omega
     have e00 : (n0 == 0) = true := by simp; omega
     have hpos : 0 < n1 := by have := Hnn.out; omega
     have HH0 := Lib.hid h0; clear h0; obtain ⟨bw, ow, hA, _, _⟩ := hasV1.at_ (k := 0) (by rw [frRow_len, Hl1.out]; omega); subst hA; obtain ⟨p, RW, hW⟩ : ∃ p RW, W1 = p :: RW := by
      cases W1 with
      | nil => exact absurd Hl1.out (by simp only [List.length_nil]; omega)
      | cons p RW => exact ⟨p, RW, rfl⟩
     have hp : W1[0]? = some p := by rw [hW]; rfl
     have hpB : (p.2, p.1.body) ∈ BB := by
      have hm : (p.2, p.1.body) ∈ fB_ W1 := List.mem_map.2 ⟨_, List.mem_of_getElem? hp, rfl⟩; exact HQW.out.2.2.2 _ hm
     obtain ⟨AU, cU, hu, _, _, hasU⟩ := sep_bodsAt (i := 7) hS rfl hpB; have hfw : U.way true = p.1 :: RW.map Prod.fst := by rw [← HQW.out.2.1, hW, List.map_cons]
     obtain ⟨Rf, HRf⟩ : ∃ y, Hid (RW.map Prod.fst = y) := ⟨_, Lib.hid rfl⟩; rw [HRf.out] at hfw; have hfo := HO.out.frs true p.1 (by rw [hfw]; exact List.mem_cons_self); obtain ⟨⟨kind, ffr, fto, finc, fconn, pinc, pconn, fack, fseq, body⟩, u⟩ := p; simp only at hu; subst hu; have HPB : Hid ((Value.slice AU body.length cU, body) ∈ BB) := Lib.hid hpB; obtain ⟨fF, HfF⟩ : ∃ y, Hid ((⟨kind, ffr, fto, finc, fconn, pinc, pconn, fack, fseq, body⟩ : Fr) = y) := ⟨_, Lib.hid rfl⟩; have HFW : Hid (U.way true = fF :: Rf) := Lib.hid (by rw [← HfF.out]; exact hfw); have HFO : Hid (FrOk C fF) := Lib.hid (by rw [← HfF.out]; exact hfo); have HRW := Lib.hid hW; have hk1 : k + 1 ≤ phi := by
      have h1 := phi_comes HGU.out HO.out (by omega) HFW.out; omega
     have hbl : body.length ≤ 448 := hfo.2.2.2.2; have HS3 := Lib.hid (show Sep w0 w3 (Ce g 34 #[.pointer (some ⟨a0, 0, none⟩), .pointer (some ⟨a1, 0, none⟩), .int .u64 (((U.l false).si : Nat) : Int), .int .u64 (((U.l true).si : Nat) : Int), .int .u64 ((U.now false : Nat) : Int), .int .u64 ((U.now true : Nat) : Int), .slice A0 n0 c0, .slice (some ⟨bw, ow, none⟩) n1 c1, .map (some bs), .map (some bt), .int .i64 ((U.n : Nat) : Int), .bool false] :: Ce a0 72 ((U.l false).cells b0) :: BoxT b0 (U.l false).box :: Ce a1 72 ((U.l true).cells b1) :: BoxT b1 (U.l true).box :: RwO 51 10 (.slice A0 n0 c0) n0 (fR_ W0) :: RwO 51 10 (.slice (some ⟨bw, ow, none⟩) n1 c1) n1 (fR_ W1) :: Bods BB :: MapT bs U.sent :: MapT bt U.told :: Qs) from hS); have hr := sep_rwoHas (i := 6) HS3.out rfl; have kf0 := hK4 hr (frRow_at (r := 0) (v := .int .i64 kind) hp (by omega)); simp only [Nat.zero_mul, Nat.zero_add, Nat.add_zero] at kf0; have kf1 := hK4 hr (frRow_at (r := 1) (v := .int .i64 ffr) hp (by omega)); simp only [Nat.zero_mul, Nat.zero_add, Nat.add_zero] at kf1; have kf2 := hK4 hr (frRow_at (r := 2) (v := .int .i64 fto) hp (by omega)); simp only [Nat.zero_mul, Nat.zero_add, Nat.add_zero] at kf2; have kf3 := hK4 hr (frRow_at (r := 3) (v := .int .u64 (finc : Int)) hp (by omega)); simp only [Nat.zero_mul, Nat.zero_add, Nat.add_zero] at kf3; have kf4 := hK4 hr (frRow_at (r := 4) (v := .int .u64 (fconn : Int)) hp (by omega)); simp only [Nat.zero_mul, Nat.zero_add, Nat.add_zero] at kf4; have kf5 := hK4 hr (frRow_at (r := 5) (v := .int .u64 (pinc : Int)) hp (by omega)); simp only [Nat.zero_mul, Nat.zero_add, Nat.add_zero] at kf5; have kf6 := hK4 hr (frRow_at (r := 6) (v := .int .u64 (pconn : Int)) hp (by omega)); simp only [Nat.zero_mul, Nat.zero_add, Nat.add_zero] at kf6; have kf7 := hK4 hr (frRow_at (r := 7) (v := .int .u64 (fack : Int)) hp (by omega)); simp only [Nat.zero_mul, Nat.zero_add, Nat.add_zero] at kf7; have kf8 := hK4 hr (frRow_at (r := 8) (v := .int .u64 (fseq : Int)) hp (by omega)); simp only [Nat.zero_mul, Nat.zero_add, Nat.add_zero] at kf8; have kf9 := hK4 hr (frRow_at (r := 9) (v := .slice AU body.length cU) hp (by omega)); simp only [Nat.zero_mul, Nat.zero_add, Nat.add_zero] at kf9; have kk := cA (v := .slice (some ⟨bw, ow, none⟩ : Option Addr) n1 c1) (i := 0) HS3.out rfl 7 rfl; have HZ := Lib.hid (sep_ce (Sep.nil w3) #[.int .i64 0, .int .i64 0, .int .i64 0, .int .u64 0, .int .u64 0, .int .u64 0, .int .u64 0, .int .u64 0, .int .u64 0, .slice none 0 0] 51); have zf0 := cA (i := 0) HZ.out rfl 0 rfl; have yf0 := cFz (i := 0) HZ.out rfl 0; have zf1 := cA (i := 0) HZ.out rfl 1 rfl; have yf1 := cFz (i := 0) HZ.out rfl 1; have zf2 := cA (i := 0) HZ.out rfl 2 rfl; have yf2 := cFz (i := 0) HZ.out rfl 2; have zf3 := cA (i := 0) HZ.out rfl 3 rfl; have yf3 := cFz (i := 0) HZ.out rfl 3; have zf4 := cA (i := 0) HZ.out rfl 4 rfl
     have yf4 := cFz (i := 0) HZ.out rfl 4; have zf5 := cA (i := 0) HZ.out rfl 5 rfl; have yf5 := cFz (i := 0) HZ.out rfl 5; have zf6 := cA (i := 0) HZ.out rfl 6 rfl; have yf6 := cFz (i := 0) HZ.out rfl 6; have zf7 := cA (i := 0) HZ.out rfl 7 rfl; have yf7 := cFz (i := 0) HZ.out rfl 7; have zf8 := cA (i := 0) HZ.out rfl 8 rfl; have yf8 := cFz (i := 0) HZ.out rfl 8; have zf9 := cA (i := 0) HZ.out rfl 9 rfl; have yf9 := cFz (i := 0) HZ.out rfl 9; clear hr hW hp hpB hfo hfw hasU hS
     go_wp2_with fail
     clear kf0 kf1 kf2 kf3 kf4 kf5 kf6 kf7 kf8 kf9 zf0 yf0 zf1 yf1 zf2 yf2 zf3 yf3 zf4 yf4 zf5 yf5 zf6 yf6 zf7 yf7 zf8 yf8 zf9 yf9 kk HZ; have HS5 := Lib.hid (show Sep w0 (w3.alloc (.cells #[.int .i64 kind, .int .i64 ffr, .int .i64 fto, .int .u64 (finc : Int), .int .u64 (fconn : Int), .int .u64 (pinc : Int), .int .u64 (pconn : Int), .int .u64 (fack : Int), .int .u64 (fseq : Int), .slice AU body.length cU] 51)) (Ce g 34 #[.pointer (some ⟨a0, 0, none⟩), .pointer (some ⟨a1, 0, none⟩), .int .u64 (((U.l false).si : Nat) : Int), .int .u64 (((U.l true).si : Nat) : Int), .int .u64 ((U.now false : Nat) : Int), .int .u64 ((U.now true : Nat) : Int), .slice A0 n0 c0, .slice (some ⟨bw, ow, none⟩) n1 c1, .map (some bs), .map (some bt), .int .i64 ((U.n : Nat) : Int), .bool false] :: Ce a0 72 ((U.l false).cells b0) :: BoxT b0 (U.l false).box :: Ce a1 72 ((U.l true).cells b1) :: BoxT b1 (U.l true).box :: RwO 51 10 (.slice A0 n0 c0) n0 (fR_ W0) :: RwO 51 10 (.slice (some ⟨bw, ow, none⟩) n1 c1) n1 (fR_ W1) :: Bods BB :: MapT bs U.sent :: MapT bt U.told :: Ce w3.heap.size 51 #[.int .i64 kind, .int .i64 ffr, .int .i64 fto, .int .u64 (finc : Int), .int .u64 (fconn : Int), .int .u64 (pinc : Int), .int .u64 (pconn : Int), .int .u64 (fack : Int), .int .u64 (fseq : Int), .slice AU body.length cU] :: Qs) from (show Sep w0 (w3.alloc (.cells #[.int .i64 kind, .int .i64 ffr, .int .i64 fto, .int .u64 (finc : Int), .int .u64 (fconn : Int), .int .u64 (pinc : Int), .int .u64 (pconn : Int), .int .u64 (fack : Int), .int .u64 (fseq : Int), .slice AU body.length cU] 51)) (Ce w3.heap.size 51 #[.int .i64 kind, .int .i64 ffr, .int .i64 fto, .int .u64 (finc : Int), .int .u64 (fconn : Int), .int .u64 (pinc : Int), .int .u64 (pconn : Int), .int .u64 (fack : Int), .int .u64 (fseq : Int), .slice AU body.length cU] :: Ce g 34 #[.pointer (some ⟨a0, 0, none⟩), .pointer (some ⟨a1, 0, none⟩), .int .u64 (((U.l false).si : Nat) : Int), .int .u64 (((U.l true).si : Nat) : Int), .int .u64 ((U.now false : Nat) : Int), .int .u64 ((U.now true : Nat) : Int), .slice A0 n0 c0, .slice (some ⟨bw, ow, none⟩) n1 c1, .map (some bs), .map (some bt), .int .i64 ((U.n : Nat) : Int), .bool false] :: Ce a0 72 ((U.l false).cells b0) :: BoxT b0 (U.l false).box :: Ce a1 72 ((U.l true).cells b1) :: BoxT b1 (U.l true).box :: RwO 51 10 (.slice A0 n0 c0) n0 (fR_ W0) :: RwO 51 10 (.slice (some ⟨bw, ow, none⟩) n1 c1) n1 (fR_ W1) :: Bods BB :: MapT bs U.sent :: MapT bt U.told :: Qs) from sep_ceF HS3.out _ _) |> fun h => (((((((((((h).tF 0 rfl).tF 10 rfl).tF 10 rfl).tF 10 rfl).tF 10 rfl).tF 10 rfl).tF 10 rfl).tF 10 rfl).tF 10 rfl).tF 10 rfl).tF 10 rfl)
     obtain ⟨SA, HSA⟩ : ∃ y, Hid ((if c1 = 1 then (some ⟨bw, ow, none⟩ : Option Addr) else (some ⟨bw, ow, none⟩ : Option Addr).map (·.add (1 * 10))) = y) := ⟨_, Lib.hid rfl⟩; obtain ⟨sn, Hsn⟩ : ∃ y, Hid (n1 - 1 = y) := ⟨_, Lib.hid rfl⟩; obtain ⟨sc, Hsc⟩ : ∃ y, Hid (c1 - 1 = y) := ⟨_, Lib.hid rfl⟩; have HRS : Hid (∀ W, (Instr.slice 30 (.slice (some ⟨bw, ow, none⟩ : Option Addr) n1 c1) (some (.int .i64 1)) none none).run Try.prog W = .ok (.slice SA sn sc) W) := Lib.hid (fun W => by
      have hq := run_fromF W (some ⟨bw, ow, none⟩ : Option Addr) n1 c1 1 (by omega); rw [HSA.out, Hsn.out, Hsc.out] at hq; exact hq)
     have HPUT : Hid (∀ W, Sep w0 W (Ce g 34 #[.pointer (some ⟨a0, 0, none⟩), .pointer (some ⟨a1, 0, none⟩), .int .u64 (((U.l false).si : Nat) : Int), .int .u64 (((U.l true).si : Nat) : Int), .int .u64 ((U.now false : Nat) : Int), .int .u64 ((U.now true : Nat) : Int), .slice A0 n0 c0, .slice (some ⟨bw, ow, none⟩) n1 c1, .map (some bs), .map (some bt), .int .i64 ((U.n : Nat) : Int), .bool false] :: Ce a0 72 ((U.l false).cells b0) :: BoxT b0 (U.l false).box :: Ce a1 72 ((U.l true).cells b1) :: BoxT b1 (U.l true).box :: RwO 51 10 (.slice A0 n0 c0) n0 (fR_ W0) :: RwO 51 10 (.slice (some ⟨bw, ow, none⟩) n1 c1) n1 (fR_ W1) :: Bods BB :: MapT bs U.sent :: MapT bt U.told :: Ce w3.heap.size 51 #[.int .i64 kind, .int .i64 ffr, .int .i64 fto, .int .u64 (finc : Int), .int .u64 (fconn : Int), .int .u64 (pinc : Int), .int .u64 (pconn : Int), .int .u64 (fack : Int), .int .u64 (fseq : Int), .slice AU body.length cU] :: Qs) → Sep w0 (W.setCell ⟨g, 7, none⟩ (.slice SA sn sc)) (Ce g 34 #[.pointer (some ⟨a0, 0, none⟩), .pointer (some ⟨a1, 0, none⟩), .int .u64 (((U.l false).si : Nat) : Int), .int .u64 (((U.l true).si : Nat) : Int), .int .u64 ((U.now false : Nat) : Int), .int .u64 ((U.now true : Nat) : Int), .slice A0 n0 c0, .slice SA sn sc, .map (some bs), .map (some bt), .int .i64 ((U.n : Nat) : Int), .bool false] :: Ce a0 72 ((U.l false).cells b0) :: BoxT b0 (U.l false).box :: Ce a1 72 ((U.l true).cells b1) :: BoxT b1 (U.l true).box :: RwO 51 10 (.slice A0 n0 c0) n0 (fR_ W0) :: RwO 51 10 (.slice SA sn sc) sn ((fR_ W1).drop 10) :: Bods BB :: MapT bs U.sent :: MapT bt U.told :: Ce w3.heap.size 51 #[.int .i64 kind, .int .i64 ffr, .int .i64 fto, .int .u64 (finc : Int), .int .u64 (fconn : Int), .int .u64 (pinc : Int), .int .u64 (pconn : Int), .int .u64 (fack : Int), .int .u64 (fseq : Int), .slice AU body.length cU] :: Qs)) := Lib.hid (fun W hS => by
      have h1 := sep_rwoFrom (i := 6) (j := 1) (cS (i := 0) hS rfl 7 (.slice SA sn sc)) rfl (by omega); rw [HSA.out, Hsn.out, Hsc.out] at h1; exact h1)
     obtain ⟨T0, HT0⟩ : ∃ x, Hid (({ U with way := atB U.way true Rf } : TW) = x) := ⟨_, Lib.hid rfl⟩; have HO0 : Hid (T0.Ok C) := Lib.hid (by
      have h1 := HO.out.lose true 0; rw [HFW.out] at h1; rw [← HT0.out]; exact h1)
     refine wRG (fun dn xv W => if dn 12 = true then Sep w0 W (Ce g 34 #[.pointer (some ⟨a0, 0, none⟩), .pointer (some ⟨a1, 0, none⟩), .int .u64 (((U.l false).si : Nat) : Int), .int .u64 (((U.l true).si : Nat) : Int), .int .u64 ((U.now false : Nat) : Int), .int .u64 ((U.now true : Nat) : Int), .slice A0 n0 c0, .slice SA sn sc, .map (some bs), .map (some bt), .int .i64 ((U.n : Nat) : Int), .bool false] :: Ce a0 72 ((U.l false).cells b0) :: BoxT b0 (U.l false).box :: Ce a1 72 ((U.l true).cells b1) :: BoxT b1 (U.l true).box :: RwO 51 10 (.slice A0 n0 c0) n0 (fR_ W0) :: RwO 51 10 (.slice SA sn sc) sn ((fR_ W1).drop 10) :: Bods BB :: MapT bs U.sent :: MapT bt U.told :: Ce w3.heap.size 51 #[.int .i64 kind, .int .i64 ffr, .int .i64 fto, .int .u64 (finc : Int), .int .u64 (fconn : Int), .int .u64 (pinc : Int), .int .u64 (pconn : Int), .int .u64 (fack : Int), .int .u64 (fseq : Int), .slice AU body.length cU] :: Qs) else Sep w0 W (Ce g 34 #[.pointer (some ⟨a0, 0, none⟩), .pointer (some ⟨a1, 0, none⟩), .int .u64 (((U.l false).si : Nat) : Int), .int .u64 (((U.l true).si : Nat) : Int), .int .u64 ((U.now false : Nat) : Int), .int .u64 ((U.now true : Nat) : Int), .slice A0 n0 c0, .slice (some ⟨bw, ow, none⟩) n1 c1, .map (some bs), .map (some bt), .int .i64 ((U.n : Nat) : Int), .bool false] :: Ce a0 72 ((U.l false).cells b0) :: BoxT b0 (U.l false).box :: Ce a1 72 ((U.l true).cells b1) :: BoxT b1 (U.l true).box :: RwO 51 10 (.slice A0 n0 c0) n0 (fR_ W0) :: RwO 51 10 (.slice (some ⟨bw, ow, none⟩) n1 c1) n1 (fR_ W1) :: Bods BB :: MapT bs U.sent :: MapT bt U.told :: Ce w3.heap.size 51 #[.int .i64 kind, .int .i64 ffr, .int .i64 fto, .int .u64 (finc : Int), .int .u64 (fconn : Int), .int .u64 (pinc : Int), .int .u64 (pconn : Int), .int .u64 (fack : Int), .int .u64 (fseq : Int), .slice AU body.length cU] :: Qs)) (fun _ _ => True) [xP_ g 0, xV_ (.int .i64 1), xP_ g 0, xV_ (.int .i64 1), xP_ g 0, xP_ g 6, xP_ g 7, xV_ (.slice (some ⟨bw, ow, none⟩) n1 c1), xV_ (.slice SA sn sc), xP_ g 0, xP_ g 6, xP_ g 7, fun v _ => True] (fun xv => by simpa using HS5.out.drew) ?_ ?_
     ·refine Ep 1 0 g 0 ?_
      refine Ei 2 4 (.int .i64 1) ?_
      refine Ep 3 0 g 0 ?_
      refine Ei 4 4 (.int .i64 1) ?_
      refine Ee 5 39 2 ?_
      refine Ee 6 41 4 ?_
      refine Eee 7 40 3 42 5 ?_
      refine EC 8 rfl (fun g h W F a b c d e H K f => ?_) ?_
      ·have f43 := gE (a 43) (by kernel_rfl) (H 6) (by kernel_rfl); have q12 := c 12 (uM 8 uE); have hq := e; rw [if_neg (by simp [q12])] at hq; have kk := cA (v := .slice (some ⟨bw, ow, none⟩) n1 c1) (i := 0) hq rfl 7 rfl; clear H c b d a; refine oP rfl ?_; go_simp; exact f.out _ _ rfl trivial e
      refine Eek 9 44 7 (fun _ _ W _ => HRS.out W) ?_
      refine Ee 10 37 0 ?_
      refine Ee 11 46 9 ?_
      refine Eee 12 38 1 47 10 ?_
      refine EC 13 rfl (fun h j W F a b c d e H K f => ?_) ?_
      ·have f45 := gE (a 45) (by kernel_rfl) (H 8) (by kernel_rfl); have f48 := gE (a 48) (by kernel_rfl) (H 11) (by kernel_rfl); rw [if_neg (by simp [b])] at e; have hS := e; clear e c b d a H; refine oP rfl ?_; have yy := cFz (i := 0) hS rfl 7; have kk := cA (v := .slice (some ⟨bw, ow, none⟩) n1 c1) (i := 0) hS rfl 7 rfl; have hs : Sep w0 (W.setCell ⟨g, 7, none⟩ (.slice SA sn sc)) (Ce g 34 #[.pointer (some ⟨a0, 0, none⟩), .pointer (some ⟨a1, 0, none⟩), .int .u64 (((U.l false).si : Nat) : Int), .int .u64 (((U.l true).si : Nat) : Int), .int .u64 ((U.now false : Nat) : Int), .int .u64 ((U.now true : Nat) : Int), .slice A0 n0 c0, .slice SA sn sc, .map (some bs), .map (some bt), .int .i64 ((U.n : Nat) : Int), .bool false] :: Ce a0 72 ((U.l false).cells b0) :: BoxT b0 (U.l false).box :: Ce a1 72 ((U.l true).cells b1) :: BoxT b1 (U.l true).box :: RwO 51 10 (.slice A0 n0 c0) n0 (fR_ W0) :: RwO 51 10 (.slice SA sn sc) sn ((fR_ W1).drop 10) :: Bods BB :: MapT bs U.sent :: MapT bt U.told :: Ce w3.heap.size 51 #[.int .i64 kind, .int .i64 ffr, .int .i64 fto, .int .u64 (finc : Int), .int .u64 (fconn : Int), .int .u64 (pinc : Int), .int .u64 (pconn : Int), .int .u64 (fack : Int), .int .u64 (fseq : Int), .slice AU body.length cU] :: Qs) := HPUT.out W hS; go_simp; exact f.out undef _ trivial trivial (by simpa [upB, upd] using hs)
      exact EN
     ·intro dn xv W hI H; have qe : dn 12 = true := (H 12 (of_decide_eq_true (by kernel_rfl))).1; rw [if_pos qe] at hI; have hS := hI; clear H hI qe; simp only [putAll, Act.put, List.setIfInBounds_toArray, List.set_cons_zero, List.set_cons_succ, Nat.reduceAdd]; have HX6 : Hid (TwX (.slice AU body.length cU) body a0 a1 w0 W.drew g T0 (Ce w3.heap.size 51 #[.int .i64 kind, .int .i64 ffr, .int .i64 fto, .int .u64 (finc : Int), .int .u64 (fconn : Int), .int .u64 (pinc : Int), .int .u64 (pconn : Int), .int .u64 (fack : Int), .int .u64 (fseq : Int), .slice AU body.length cU] :: Qs)) := Lib.hid (by
       refine ⟨b0, b1, .slice A0 n0 c0, .slice SA sn sc, W0, RW, BB, bs, bt, ?_, ?_, HQW.out.2.2.1, fun y hy => HQW.out.2.2.2 y (by rw [HRW.out]; exact List.mem_cons_of_mem _ hy), HPB.out, ?_⟩
       ·rw [← HT0.out]; simp only [atB]; exact HQW.out.1
       ·rw [← HT0.out]; simp only [atB]; exact HRf.out
       ·have h1 := hS.drew; have e1 : (fR_ W1).drop 10 = fR_ RW := by rw [HRW.out]; rfl
        have e2 : sn = RW.length := by have h2 := Hl1.out; rw [HRW.out, List.length_cons] at h2; have := Hsn.out; omega
        rw [← HT0.out]; rw [e1] at h1; subst e2; rw [← Hl0.out] at h1 ⊢; exact h1)
      have HC1 := Lib.hid (fun (W : World) (hS : TwX (.slice AU body.length cU) body a0 a1 w0 W g T0 (Ce w3.heap.size 51 #[.int .i64 kind, .int .i64 ffr, .int .i64 fto, .int .u64 (finc : Int), .int .u64 (fconn : Int), .int .u64 (pinc : Int), .int .u64 (pconn : Int), .int .u64 (fack : Int), .int .u64 (fseq : Int), .slice AU body.length cU] :: Qs)) => show Calls Try.prog 15 #[.pointer (some ⟨a1, 0, none⟩), .int .u64 ((T0.now true : Nat) : Int), .agg #[.int .i64 kind, .int .i64 ffr, .int .i64 fto, .int .u64 (finc : Int), .int .u64 (fconn : Int), .int .u64 (pinc : Int), .int .u64 (pconn : Int), .int .u64 (fack : Int), .int .u64 (fseq : Int), .slice AU body.length cU]] W (fun e w' => ∃ v, e = .returned v ∧ MidA a0 a1 v w0 w' g (T0.withL true ((T0.l true).take (T0.now true) fF)) ((T0.l true).takeF (T0.now true) fF) ((T0.l true).takeE (T0.now true) fF) (Ce w3.heap.size 51 #[.int .i64 kind, .int .i64 ffr, .int .i64 fto, .int .u64 (finc : Int), .int .u64 (fconn : Int), .int .u64 (pinc : Int), .int .u64 (pconn : Int), .int .u64 (fack : Int), .int .u64 (fseq : Int), .slice AU body.length cU] :: Qs)) from by
       have hb := HFO.out; rw [← HfF.out] at hb ⊢; exact takeX1 (f := ⟨kind, ffr, fto, finc, fconn, pinc, pconn, fack, fseq, body⟩) (A := AU) (c := cU) hS HO0.out (by omega) (by have := hb.2.2.2.2; unfold maxLen; simp only at this ⊢; omega) (by have := hb.2.2.1; simp only at this ⊢; omega) (by have := hb.2.2.2.1; simp only at this ⊢; omega))
      have HC2 := Lib.hid (fun (W : World) (v : Value) (hS : MidA a0 a1 v w0 W g (T0.withL true ((T0.l true).take (T0.now true) fF)) ((T0.l true).takeF (T0.now true) fF) ((T0.l true).takeE (T0.now true) fF) (Ce w3.heap.size 51 #[.int .i64 kind, .int .i64 ffr, .int .i64 fto, .int .u64 (finc : Int), .int .u64 (fconn : Int), .int .u64 (pinc : Int), .int .u64 (pconn : Int), .int .u64 (fack : Int), .int .u64 (fseq : Int), .slice AU body.length cU] :: Qs)) => show Calls Try.prog 31 #[.pointer (some ⟨g, 0, none⟩), .int .i64 1, v] W (fun e w' => e = .returned (.tuple #[]) ∧ TwA a0 a1 w0 w' g (T0.take true fF) (Ce w3.heap.size 51 #[.int .i64 kind, .int .i64 ffr, .int .i64 fto, .int .u64 (finc : Int), .int .u64 (fconn : Int), .int .u64 (pinc : Int), .int .u64 (pconn : Int), .int .u64 (fack : Int), .int .u64 (fseq : Int), .slice AU body.length cU] :: Qs)) from by
       have hn := HO0.out.now true; have hk := takeF_ok (HO0.out.num true) (HO0.out.ids true) (now := T0.now true) (by omega) (f := fF) ⟨HFO.out.1, HFO.out.2.1⟩; exact ansA1 hS (HO0.out.withL true ((HO0.out.num true).take (now := T0.now true) (by omega) fF) (ids_take (HO0.out.ids true) (T0.now true) ⟨HFO.out.1, HFO.out.2.1⟩)) (by omega) (by omega) (by omega))
      clear hS HS5 HS3 HRS HPUT
      go_wp2_with fail
      refine wRG (fun dn xv W => if dn 16 = true then TwA a0 a1 w0 W g (T0.take true fF) (Ce w3.heap.size 51 #[.int .i64 kind, .int .i64 ffr, .int .i64 fto, .int .u64 (finc : Int), .int .u64 (fconn : Int), .int .u64 (pinc : Int), .int .u64 (pconn : Int), .int .u64 (fack : Int), .int .u64 (fseq : Int), .slice AU body.length cU] :: Qs) else if dn 15 = true then MidA a0 a1 (xv 15) w0 W g (T0.withL true ((T0.l true).take (T0.now true) fF)) ((T0.l true).takeF (T0.now true) fF) ((T0.l true).takeE (T0.now true) fF) (Ce w3.heap.size 51 #[.int .i64 kind, .int .i64 ffr, .int .i64 fto, .int .u64 (finc : Int), .int .u64 (fconn : Int), .int .u64 (pinc : Int), .int .u64 (pconn : Int), .int .u64 (fack : Int), .int .u64 (fseq : Int), .slice AU body.length cU] :: Qs) else TwX (.slice AU body.length cU) body a0 a1 w0 W g T0 (Ce w3.heap.size 51 #[.int .i64 kind, .int .i64 ffr, .int .i64 fto, .int .u64 (finc : Int), .int .u64 (fconn : Int), .int .u64 (pinc : Int), .int .u64 (pconn : Int), .int .u64 (fack : Int), .int .u64 (fseq : Int), .slice AU body.length cU] :: Qs)) (fun _ _ => True) [xP_ g 0, xV_ (.int .i64 1), xP_ g 0, xV_ (.int .i64 1), xP_ g 0, xP_ g 0, xP_ g 1, xP_ a1 0, xP_ g 0, xV_ (.int .i64 1), xP_ g 0, xP_ g 4, xP_ g 5, xV_ (.int .u64 ((T0.now true : Nat) : Int)), xV_ (.agg #[.int .i64 kind, .int .i64 ffr, .int .i64 fto, .int .u64 (finc : Int), .int .u64 (fconn : Int), .int .u64 (pinc : Int), .int .u64 (pconn : Int), .int .u64 (fack : Int), .int .u64 (fseq : Int), .slice AU body.length cU]), fun v _ => True, fun v _ => True] (fun xv => by simpa using HX6.out) ?_ ?_
      ·refine Ep 1 0 g 0 ?_
       refine Ei 2 4 (.int .i64 1) ?_
       refine Ep 3 0 g 0 ?_
       refine Ei 4 4 (.int .i64 1) ?_
       refine Ee 5 51 2 ?_
       refine Ee 6 53 4 ?_
       refine Eee 7 52 3 54 5 ?_
       refine EC 8 rfl (fun h i W F b c d e f H K g => ?_) ?_
       ·have f55 := gE (b 55) (by kernel_rfl) (H 6) (by kernel_rfl); have q1 := d 15 uE; have q2 := d 16 (uM 15 uE); have hq := f; rw [if_neg (by simp [q2]), if_neg (by simp [q1])] at hq; have hq := hq.a; have kk := hq.l1; clear H d c e b; refine oP rfl ?_; go_simp; exact g.out _ _ rfl trivial f
       refine Ep 9 0 g 0 ?_
       refine Ei 10 4 (.int .i64 1) ?_
       refine Ee 11 57 8 ?_
       refine Ee 12 59 10 ?_
       refine Eee 13 58 9 60 11 ?_
       refine EC 14 rfl (fun h i W F b c d e f H K g => ?_) ?_
       ·have f61 := gE (b 61) (by kernel_rfl) (H 12) (by kernel_rfl); have q1 := d 15 uE; have q2 := d 16 (uM 15 uE); have hq := f; rw [if_neg (by simp [q2]), if_neg (by simp [q1])] at hq; have hq := hq.a; have kk := hq.t1; clear H d c e b; refine oP rfl ?_; go_simp; exact g.out _ _ rfl trivial f
       refine EC 15 rfl (fun h i W F b c d e f H K g => ?_) ?_
       ·have f5 : F.tmps.getD 5 undef = .pointer (some ⟨w3.heap.size, 0, none⟩) := (b 5).trans (by kernel_rfl); have q1 := d 15 uE; have q2 := d 16 (uM 15 uE); have hq := f; rw [if_neg (by simp [q2]), if_neg (by simp [q1])] at hq; have hq := hq.a; have kf0 := hq.q0 0 (v := .int .i64 kind) rfl; have kf1 := hq.q0 1 (v := .int .i64 ffr) rfl; have kf2 := hq.q0 2 (v := .int .i64 fto) rfl; have kf3 := hq.q0 3 (v := .int .u64 (finc : Int)) rfl; have kf4 := hq.q0 4 (v := .int .u64 (fconn : Int)) rfl; have kf5 := hq.q0 5 (v := .int .u64 (pinc : Int)) rfl; have kf6 := hq.q0 6 (v := .int .u64 (pconn : Int)) rfl; have kf7 := hq.q0 7 (v := .int .u64 (fack : Int)) rfl; have kf8 := hq.q0 8 (v := .int .u64 (fseq : Int)) rfl; have kf9 := hq.q0 9 (v := .slice AU body.length cU) rfl; clear H d c e b; refine oP rfl ?_; go_simp; exact g.out _ _ rfl trivial f
       refine EC 16 rfl (fun h i W F a b c d f H K g => ?_) ?_
       ·have f56 := gE (a 56) (by kernel_rfl) (H 7) (by kernel_rfl); have f62 := gE (a 62) (by kernel_rfl) (H 13) (by kernel_rfl); have f63 := gE (a 63) (by kernel_rfl) (H 14) (by kernel_rfl); have q16 := c 16 uE; rw [if_neg (by simp [q16]), if_neg (by simp [b])] at f; have hS := f; clear f c b d a H; refine oP rfl ?_; go_simp; refine (HC1.out W hS).mono ?_; rintro e W' ⟨v, rfl, hs⟩; exact g.out v W' trivial trivial (by simpa [upB, upd, q16] using hs)
       refine EC 17 rfl (fun h i W F a b c d f H K g => ?_) ?_
       ·have f49 := gE (a 49) (by kernel_rfl) (H 0) (by kernel_rfl); have f50 := gE (a 50) (by kernel_rfl) (H 1) (by kernel_rfl); have f64 : F.tmps.getD 64 undef = i 15 := (a 64).trans (by kernel_rfl); have q15 := (H 15 uE).1; rw [if_neg (by simp [b]), if_pos q15] at f; have hS := f; clear f c b d a H; refine oP rfl ?_; go_simp; refine (HC2.out W _ hS).mono ?_; rintro e W' ⟨rfl, hs⟩; exact g.out _ W' trivial trivial (by simpa [upB, upd] using hs)
       exact EN
      ·intro dn xv W hI H; have qe : dn 16 = true := (H 16 (of_decide_eq_true (by kernel_rfl))).1; rw [if_pos qe] at hI; have hS := hI; clear H hI qe; simp only [putAll, Act.put, List.setIfInBounds_toArray, List.set_cons_zero, List.set_cons_succ, Nat.reduceAdd]; have HA7 := Lib.hid hS.pop; have HK7 : Hid (Calm T (k + 1) (T0.take true fF)) := Lib.hid ⟨U, true, fF, Rf, HK.out, HFW.out, by rw [← HT0.out]; rfl⟩; clear hS
       go_wp2_with fail
       go_roundw
       case rel => exact ⟨k + 1, _, by go_num, by rw [Hphi.out]; exact hk1, HK7, HA7⟩
       case measure => simp only [Hphi.out, intOf]; simp; omega
    ·have e0 : ((n0 : Int) == 0) = false := by simp; omega
     have e00 : (n0 == 0) = false := by simp; omega
     have hpos : 0 < n0 := by omega
     obtain ⟨bw, ow, hA, _, _⟩ := hasV0.at_ (k := 0) (by rw [frRow_len, Hl0.out]; omega); subst hA; obtain ⟨p, RW, hW⟩ : ∃ p RW, W0 = p :: RW := by
      cases W0 with
      | nil => exact absurd Hl0.out (by simp only [List.length_nil]; omega)
      | cons p RW => exact ⟨p, RW, rfl⟩
     have hp : W0[0]? = some p := by rw [hW]; rfl
     have hpB : (p.2, p.1.body) ∈ BB := by
      have hm : (p.2, p.1.body) ∈ fB_ W0 := List.mem_map.2 ⟨_, List.mem_of_getElem? hp, rfl⟩; exact HQW.out.2.2.1 _ hm
     obtain ⟨AU, cU, hu, _, _, hasU⟩ := sep_bodsAt (i := 7) hS rfl hpB; have hfw : U.way false = p.1 :: RW.map Prod.fst := by rw [← HQW.out.1, hW, List.map_cons]
     obtain ⟨Rf, HRf⟩ : ∃ y, Hid (RW.map Prod.fst = y) := ⟨_, Lib.hid rfl⟩; rw [HRf.out] at hfw; have hfo := HO.out.frs false p.1 (by rw [hfw]; exact List.mem_cons_self); obtain ⟨⟨kind, ffr, fto, finc, fconn, pinc, pconn, fack, fseq, body⟩, u⟩ := p; simp only at hu; subst hu; have HPB : Hid ((Value.slice AU body.length cU, body) ∈ BB) := Lib.hid hpB; obtain ⟨fF, HfF⟩ : ∃ y, Hid ((⟨kind, ffr, fto, finc, fconn, pinc, pconn, fack, fseq, body⟩ : Fr) = y) := ⟨_, Lib.hid rfl⟩; have HFW : Hid (U.way false = fF :: Rf) := Lib.hid (by rw [← HfF.out]; exact hfw); have HFO : Hid (FrOk C fF) := Lib.hid (by rw [← HfF.out]; exact hfo); have HRW := Lib.hid hW; have hk1 : k + 1 ≤ phi := by
      have h1 := phi_comes HGU.out HO.out (by omega) HFW.out; omega
     have hbl : body.length ≤ 448 := hfo.2.2.2.2; have HS3 := Lib.hid (show Sep w0 w3 (Ce g 34 #[.pointer (some ⟨a0, 0, none⟩), .pointer (some ⟨a1, 0, none⟩), .int .u64 (((U.l false).si : Nat) : Int), .int .u64 (((U.l true).si : Nat) : Int), .int .u64 ((U.now false : Nat) : Int), .int .u64 ((U.now true : Nat) : Int), .slice (some ⟨bw, ow, none⟩) n0 c0, .slice A1 n1 c1, .map (some bs), .map (some bt), .int .i64 ((U.n : Nat) : Int), .bool false] :: Ce a0 72 ((U.l false).cells b0) :: BoxT b0 (U.l false).box :: Ce a1 72 ((U.l true).cells b1) :: BoxT b1 (U.l true).box :: RwO 51 10 (.slice (some ⟨bw, ow, none⟩) n0 c0) n0 (fR_ W0) :: RwO 51 10 (.slice A1 n1 c1) n1 (fR_ W1) :: Bods BB :: MapT bs U.sent :: MapT bt U.told :: Qs) from hS); have hr := sep_rwoHas (i := 5) HS3.out rfl; have kf0 := hK4 hr (frRow_at (r := 0) (v := .int .i64 kind) hp (by omega)); simp only [Nat.zero_mul, Nat.zero_add, Nat.add_zero] at kf0; have kf1 := hK4 hr (frRow_at (r := 1) (v := .int .i64 ffr) hp (by omega)); simp only [Nat.zero_mul, Nat.zero_add, Nat.add_zero] at kf1; have kf2 := hK4 hr (frRow_at (r := 2) (v := .int .i64 fto) hp (by omega)); simp only [Nat.zero_mul, Nat.zero_add, Nat.add_zero] at kf2; have kf3 := hK4 hr (frRow_at (r := 3) (v := .int .u64 (finc : Int)) hp (by omega)); simp only [Nat.zero_mul, Nat.zero_add, Nat.add_zero] at kf3; have kf4 := hK4 hr (frRow_at (r := 4) (v := .int .u64 (fconn : Int)) hp (by omega)); simp only [Nat.zero_mul, Nat.zero_add, Nat.add_zero] at kf4; have kf5 := hK4 hr (frRow_at (r := 5) (v := .int .u64 (pinc : Int)) hp (by omega)); simp only [Nat.zero_mul, Nat.zero_add, Nat.add_zero] at kf5; have kf6 := hK4 hr (frRow_at (r := 6) (v := .int .u64 (pconn : Int)) hp (by omega)); simp only [Nat.zero_mul, Nat.zero_add, Nat.add_zero] at kf6; have kf7 := hK4 hr (frRow_at (r := 7) (v := .int .u64 (fack : Int)) hp (by omega)); simp only [Nat.zero_mul, Nat.zero_add, Nat.add_zero] at kf7; have kf8 := hK4 hr (frRow_at (r := 8) (v := .int .u64 (fseq : Int)) hp (by omega)); simp only [Nat.zero_mul, Nat.zero_add, Nat.add_zero] at kf8; have kf9 := hK4 hr (frRow_at (r := 9) (v := .slice AU body.length cU) hp (by omega)); simp only [Nat.zero_mul, Nat.zero_add, Nat.add_zero] at kf9; have kk := cA (v := .slice (some ⟨bw, ow, none⟩ : Option Addr) n0 c0) (i := 0) HS3.out rfl 6 rfl; have HZ := Lib.hid (sep_ce (Sep.nil w3) #[.int .i64 0, .int .i64 0, .int .i64 0, .int .u64 0, .int .u64 0, .int .u64 0, .int .u64 0, .int .u64 0, .int .u64 0, .slice none 0 0] 51); have zf0 := cA (i := 0) HZ.out rfl 0 rfl; have yf0 := cFz (i := 0) HZ.out rfl 0; have zf1 := cA (i := 0) HZ.out rfl 1 rfl; have yf1 := cFz (i := 0) HZ.out rfl 1; have zf2 := cA (i := 0) HZ.out rfl 2 rfl; have yf2 := cFz (i := 0) HZ.out rfl 2; have zf3 := cA (i := 0) HZ.out rfl 3 rfl; have yf3 := cFz (i := 0) HZ.out rfl 3; have zf4 := cA (i := 0) HZ.out rfl 4 rfl
     have yf4 := cFz (i := 0) HZ.out rfl 4; have zf5 := cA (i := 0) HZ.out rfl 5 rfl; have yf5 := cFz (i := 0) HZ.out rfl 5; have zf6 := cA (i := 0) HZ.out rfl 6 rfl; have yf6 := cFz (i := 0) HZ.out rfl 6; have zf7 := cA (i := 0) HZ.out rfl 7 rfl; have yf7 := cFz (i := 0) HZ.out rfl 7; have zf8 := cA (i := 0) HZ.out rfl 8 rfl; have yf8 := cFz (i := 0) HZ.out rfl 8; have zf9 := cA (i := 0) HZ.out rfl 9 rfl; have yf9 := cFz (i := 0) HZ.out rfl 9; clear hr hW hp hpB hfo hfw hasU hS
     go_wp2_with fail
     clear kf0 kf1 kf2 kf3 kf4 kf5 kf6 kf7 kf8 kf9 zf0 yf0 zf1 yf1 zf2 yf2 zf3 yf3 zf4 yf4 zf5 yf5 zf6 yf6 zf7 yf7 zf8 yf8 zf9 yf9 kk HZ; have HS5 := Lib.hid (show Sep w0 (w3.alloc (.cells #[.int .i64 kind, .int .i64 ffr, .int .i64 fto, .int .u64 (finc : Int), .int .u64 (fconn : Int), .int .u64 (pinc : Int), .int .u64 (pconn : Int), .int .u64 (fack : Int), .int .u64 (fseq : Int), .slice AU body.length cU] 51)) (Ce g 34 #[.pointer (some ⟨a0, 0, none⟩), .pointer (some ⟨a1, 0, none⟩), .int .u64 (((U.l false).si : Nat) : Int), .int .u64 (((U.l true).si : Nat) : Int), .int .u64 ((U.now false : Nat) : Int), .int .u64 ((U.now true : Nat) : Int), .slice (some ⟨bw, ow, none⟩) n0 c0, .slice A1 n1 c1, .map (some bs), .map (some bt), .int .i64 ((U.n : Nat) : Int), .bool false] :: Ce a0 72 ((U.l false).cells b0) :: BoxT b0 (U.l false).box :: Ce a1 72 ((U.l true).cells b1) :: BoxT b1 (U.l true).box :: RwO 51 10 (.slice (some ⟨bw, ow, none⟩) n0 c0) n0 (fR_ W0) :: RwO 51 10 (.slice A1 n1 c1) n1 (fR_ W1) :: Bods BB :: MapT bs U.sent :: MapT bt U.told :: Ce w3.heap.size 51 #[.int .i64 kind, .int .i64 ffr, .int .i64 fto, .int .u64 (finc : Int), .int .u64 (fconn : Int), .int .u64 (pinc : Int), .int .u64 (pconn : Int), .int .u64 (fack : Int), .int .u64 (fseq : Int), .slice AU body.length cU] :: Qs) from (show Sep w0 (w3.alloc (.cells #[.int .i64 kind, .int .i64 ffr, .int .i64 fto, .int .u64 (finc : Int), .int .u64 (fconn : Int), .int .u64 (pinc : Int), .int .u64 (pconn : Int), .int .u64 (fack : Int), .int .u64 (fseq : Int), .slice AU body.length cU] 51)) (Ce w3.heap.size 51 #[.int .i64 kind, .int .i64 ffr, .int .i64 fto, .int .u64 (finc : Int), .int .u64 (fconn : Int), .int .u64 (pinc : Int), .int .u64 (pconn : Int), .int .u64 (fack : Int), .int .u64 (fseq : Int), .slice AU body.length cU] :: Ce g 34 #[.pointer (some ⟨a0, 0, none⟩), .pointer (some ⟨a1, 0, none⟩), .int .u64 (((U.l false).si : Nat) : Int), .int .u64 (((U.l true).si : Nat) : Int), .int .u64 ((U.now false : Nat) : Int), .int .u64 ((U.now true : Nat) : Int), .slice (some ⟨bw, ow, none⟩) n0 c0, .slice A1 n1 c1, .map (some bs), .map (some bt), .int .i64 ((U.n : Nat) : Int), .bool false] :: Ce a0 72 ((U.l false).cells b0) :: BoxT b0 (U.l false).box :: Ce a1 72 ((U.l true).cells b1) :: BoxT b1 (U.l true).box :: RwO 51 10 (.slice (some ⟨bw, ow, none⟩) n0 c0) n0 (fR_ W0) :: RwO 51 10 (.slice A1 n1 c1) n1 (fR_ W1) :: Bods BB :: MapT bs U.sent :: MapT bt U.told :: Qs) from sep_ceF HS3.out _ _) |> fun h => (((((((((((h).tF 0 rfl).tF 10 rfl).tF 10 rfl).tF 10 rfl).tF 10 rfl).tF 10 rfl).tF 10 rfl).tF 10 rfl).tF 10 rfl).tF 10 rfl).tF 10 rfl)
     obtain ⟨SA, HSA⟩ : ∃ y, Hid ((if c0 = 1 then (some ⟨bw, ow, none⟩ : Option Addr) else (some ⟨bw, ow, none⟩ : Option Addr).map (·.add (1 * 10))) = y) := ⟨_, Lib.hid rfl⟩; obtain ⟨sn, Hsn⟩ : ∃ y, Hid (n0 - 1 = y) := ⟨_, Lib.hid rfl⟩; obtain ⟨sc, Hsc⟩ : ∃ y, Hid (c0 - 1 = y) := ⟨_, Lib.hid rfl⟩; have HRS : Hid (∀ W, (Instr.slice 30 (.slice (some ⟨bw, ow, none⟩ : Option Addr) n0 c0) (some (.int .i64 1)) none none).run Try.prog W = .ok (.slice SA sn sc) W) := Lib.hid (fun W => by
      have hq := run_fromF W (some ⟨bw, ow, none⟩ : Option Addr) n0 c0 1 (by omega); rw [HSA.out, Hsn.out, Hsc.out] at hq; exact hq)
     have HPUT : Hid (∀ W, Sep w0 W (Ce g 34 #[.pointer (some ⟨a0, 0, none⟩), .pointer (some ⟨a1, 0, none⟩), .int .u64 (((U.l false).si : Nat) : Int), .int .u64 (((U.l true).si : Nat) : Int), .int .u64 ((U.now false : Nat) : Int), .int .u64 ((U.now true : Nat) : Int), .slice (some ⟨bw, ow, none⟩) n0 c0, .slice A1 n1 c1, .map (some bs), .map (some bt), .int .i64 ((U.n : Nat) : Int), .bool false] :: Ce a0 72 ((U.l false).cells b0) :: BoxT b0 (U.l false).box :: Ce a1 72 ((U.l true).cells b1) :: BoxT b1 (U.l true).box :: RwO 51 10 (.slice (some ⟨bw, ow, none⟩) n0 c0) n0 (fR_ W0) :: RwO 51 10 (.slice A1 n1 c1) n1 (fR_ W1) :: Bods BB :: MapT bs U.sent :: MapT bt U.told :: Ce w3.heap.size 51 #[.int .i64 kind, .int .i64 ffr, .int .i64 fto, .int .u64 (finc : Int), .int .u64 (fconn : Int), .int .u64 (pinc : Int), .int .u64 (pconn : Int), .int .u64 (fack : Int), .int .u64 (fseq : Int), .slice AU body.length cU] :: Qs) → Sep w0 (W.setCell ⟨g, 6, none⟩ (.slice SA sn sc)) (Ce g 34 #[.pointer (some ⟨a0, 0, none⟩), .pointer (some ⟨a1, 0, none⟩), .int .u64 (((U.l false).si : Nat) : Int), .int .u64 (((U.l true).si : Nat) : Int), .int .u64 ((U.now false : Nat) : Int), .int .u64 ((U.now true : Nat) : Int), .slice SA sn sc, .slice A1 n1 c1, .map (some bs), .map (some bt), .int .i64 ((U.n : Nat) : Int), .bool false] :: Ce a0 72 ((U.l false).cells b0) :: BoxT b0 (U.l false).box :: Ce a1 72 ((U.l true).cells b1) :: BoxT b1 (U.l true).box :: RwO 51 10 (.slice SA sn sc) sn ((fR_ W0).drop 10) :: RwO 51 10 (.slice A1 n1 c1) n1 (fR_ W1) :: Bods BB :: MapT bs U.sent :: MapT bt U.told :: Ce w3.heap.size 51 #[.int .i64 kind, .int .i64 ffr, .int .i64 fto, .int .u64 (finc : Int), .int .u64 (fconn : Int), .int .u64 (pinc : Int), .int .u64 (pconn : Int), .int .u64 (fack : Int), .int .u64 (fseq : Int), .slice AU body.length cU] :: Qs)) := Lib.hid (fun W hS => by
      have h1 := sep_rwoFrom (i := 5) (j := 1) (cS (i := 0) hS rfl 6 (.slice SA sn sc)) rfl (by omega); rw [HSA.out, Hsn.out, Hsc.out] at h1; exact h1)
     obtain ⟨T0, HT0⟩ : ∃ x, Hid (({ U with way := atB U.way false Rf } : TW) = x) := ⟨_, Lib.hid rfl⟩; have HO0 : Hid (T0.Ok C) := Lib.hid (by
      have h1 := HO.out.lose false 0; rw [HFW.out] at h1; rw [← HT0.out]; exact h1)
     refine wRG (fun dn xv W => if dn 12 = true then Sep w0 W (Ce g 34 #[.pointer (some ⟨a0, 0, none⟩), .pointer (some ⟨a1, 0, none⟩), .int .u64 (((U.l false).si : Nat) : Int), .int .u64 (((U.l true).si : Nat) : Int), .int .u64 ((U.now false : Nat) : Int), .int .u64 ((U.now true : Nat) : Int), .slice SA sn sc, .slice A1 n1 c1, .map (some bs), .map (some bt), .int .i64 ((U.n : Nat) : Int), .bool false] :: Ce a0 72 ((U.l false).cells b0) :: BoxT b0 (U.l false).box :: Ce a1 72 ((U.l true).cells b1) :: BoxT b1 (U.l true).box :: RwO 51 10 (.slice SA sn sc) sn ((fR_ W0).drop 10) :: RwO 51 10 (.slice A1 n1 c1) n1 (fR_ W1) :: Bods BB :: MapT bs U.sent :: MapT bt U.told :: Ce w3.heap.size 51 #[.int .i64 kind, .int .i64 ffr, .int .i64 fto, .int .u64 (finc : Int), .int .u64 (fconn : Int), .int .u64 (pinc : Int), .int .u64 (pconn : Int), .int .u64 (fack : Int), .int .u64 (fseq : Int), .slice AU body.length cU] :: Qs) else Sep w0 W (Ce g 34 #[.pointer (some ⟨a0, 0, none⟩), .pointer (some ⟨a1, 0, none⟩), .int .u64 (((U.l false).si : Nat) : Int), .int .u64 (((U.l true).si : Nat) : Int), .int .u64 ((U.now false : Nat) : Int), .int .u64 ((U.now true : Nat) : Int), .slice (some ⟨bw, ow, none⟩) n0 c0, .slice A1 n1 c1, .map (some bs), .map (some bt), .int .i64 ((U.n : Nat) : Int), .bool false] :: Ce a0 72 ((U.l false).cells b0) :: BoxT b0 (U.l false).box :: Ce a1 72 ((U.l true).cells b1) :: BoxT b1 (U.l true).box :: RwO 51 10 (.slice (some ⟨bw, ow, none⟩) n0 c0) n0 (fR_ W0) :: RwO 51 10 (.slice A1 n1 c1) n1 (fR_ W1) :: Bods BB :: MapT bs U.sent :: MapT bt U.told :: Ce w3.heap.size 51 #[.int .i64 kind, .int .i64 ffr, .int .i64 fto, .int .u64 (finc : Int), .int .u64 (fconn : Int), .int .u64 (pinc : Int), .int .u64 (pconn : Int), .int .u64 (fack : Int), .int .u64 (fseq : Int), .slice AU body.length cU] :: Qs)) (fun _ _ => True) [xP_ g 0, xV_ (.int .i64 0), xP_ g 0, xV_ (.int .i64 0), xP_ g 0, xP_ g 6, xP_ g 6, xV_ (.slice (some ⟨bw, ow, none⟩) n0 c0), xV_ (.slice SA sn sc), xP_ g 0, xP_ g 6, xP_ g 6, fun v _ => True] (fun xv => by simpa using HS5.out.drew) ?_ ?_
     ·refine Ep 1 0 g 0 ?_
      refine Ei 2 4 (.int .i64 0) ?_
      refine Ep 3 0 g 0 ?_
      refine Ei 4 4 (.int .i64 0) ?_
      refine Ee 5 39 2 ?_
      refine Ee 6 41 4 ?_
      refine Eee 7 40 3 42 5 ?_
      refine EC 8 rfl (fun g h W F a b c d e H K f => ?_) ?_
      ·have f43 := gE (a 43) (by kernel_rfl) (H 6) (by kernel_rfl); have q12 := c 12 (uM 8 uE); have hq := e; rw [if_neg (by simp [q12])] at hq; have kk := cA (v := .slice (some ⟨bw, ow, none⟩) n0 c0) (i := 0) hq rfl 6 rfl; clear H c b d a; refine oP rfl ?_; go_simp; exact f.out _ _ rfl trivial e
      refine Eek 9 44 7 (fun _ _ W _ => HRS.out W) ?_
      refine Ee 10 37 0 ?_
      refine Ee 11 46 9 ?_
      refine Eee 12 38 1 47 10 ?_
      refine EC 13 rfl (fun h j W F a b c d e H K f => ?_) ?_
      ·have f45 := gE (a 45) (by kernel_rfl) (H 8) (by kernel_rfl); have f48 := gE (a 48) (by kernel_rfl) (H 11) (by kernel_rfl); rw [if_neg (by simp [b])] at e; have hS := e; clear e c b d a H; refine oP rfl ?_; have yy := cFz (i := 0) hS rfl 6; have kk := cA (v := .slice (some ⟨bw, ow, none⟩) n0 c0) (i := 0) hS rfl 6 rfl; have hs : Sep w0 (W.setCell ⟨g, 6, none⟩ (.slice SA sn sc)) (Ce g 34 #[.pointer (some ⟨a0, 0, none⟩), .pointer (some ⟨a1, 0, none⟩), .int .u64 (((U.l false).si : Nat) : Int), .int .u64 (((U.l true).si : Nat) : Int), .int .u64 ((U.now false : Nat) : Int), .int .u64 ((U.now true : Nat) : Int), .slice SA sn sc, .slice A1 n1 c1, .map (some bs), .map (some bt), .int .i64 ((U.n : Nat) : Int), .bool false] :: Ce a0 72 ((U.l false).cells b0) :: BoxT b0 (U.l false).box :: Ce a1 72 ((U.l true).cells b1) :: BoxT b1 (U.l true).box :: RwO 51 10 (.slice SA sn sc) sn ((fR_ W0).drop 10) :: RwO 51 10 (.slice A1 n1 c1) n1 (fR_ W1) :: Bods BB :: MapT bs U.sent :: MapT bt U.told :: Ce w3.heap.size 51 #[.int .i64 kind, .int .i64 ffr, .int .i64 fto, .int .u64 (finc : Int), .int .u64 (fconn : Int), .int .u64 (pinc : Int), .int .u64 (pconn : Int), .int .u64 (fack : Int), .int .u64 (fseq : Int), .slice AU body.length cU] :: Qs) := HPUT.out W hS; go_simp; exact f.out undef _ trivial trivial (by simpa [upB, upd] using hs)
      exact EN
     ·intro dn xv W hI H; have qe : dn 12 = true := (H 12 (of_decide_eq_true (by kernel_rfl))).1; rw [if_pos qe] at hI; have hS := hI; clear H hI qe; simp only [putAll, Act.put, List.setIfInBounds_toArray, List.set_cons_zero, List.set_cons_succ, Nat.reduceAdd]; have HX6 : Hid (TwX (.slice AU body.length cU) body a0 a1 w0 W.drew g T0 (Ce w3.heap.size 51 #[.int .i64 kind, .int .i64 ffr, .int .i64 fto, .int .u64 (finc : Int), .int .u64 (fconn : Int), .int .u64 (pinc : Int), .int .u64 (pconn : Int), .int .u64 (fack : Int), .int .u64 (fseq : Int), .slice AU body.length cU] :: Qs)) := Lib.hid (by
       refine ⟨b0, b1, .slice SA sn sc, .slice A1 n1 c1, RW, W1, BB, bs, bt, ?_, ?_, fun y hy => HQW.out.2.2.1 y (by rw [HRW.out]; exact List.mem_cons_of_mem _ hy), HQW.out.2.2.2, HPB.out, ?_⟩
       ·rw [← HT0.out]; simp only [atB]; exact HRf.out
       ·rw [← HT0.out]; simp only [atB]; exact HQW.out.2.1
       ·have h1 := hS.drew; have e1 : (fR_ W0).drop 10 = fR_ RW := by rw [HRW.out]; rfl
        have e2 : sn = RW.length := by have h2 := Hl0.out; rw [HRW.out, List.length_cons] at h2; have := Hsn.out; omega
        rw [← HT0.out]; rw [e1] at h1; subst e2; rw [← Hl1.out] at h1 ⊢; exact h1)
      have HC1 := Lib.hid (fun (W : World) (hS : TwX (.slice AU body.length cU) body a0 a1 w0 W g T0 (Ce w3.heap.size 51 #[.int .i64 kind, .int .i64 ffr, .int .i64 fto, .int .u64 (finc : Int), .int .u64 (fconn : Int), .int .u64 (pinc : Int), .int .u64 (pconn : Int), .int .u64 (fack : Int), .int .u64 (fseq : Int), .slice AU body.length cU] :: Qs)) => show Calls Try.prog 15 #[.pointer (some ⟨a0, 0, none⟩), .int .u64 ((T0.now false : Nat) : Int), .agg #[.int .i64 kind, .int .i64 ffr, .int .i64 fto, .int .u64 (finc : Int), .int .u64 (fconn : Int), .int .u64 (pinc : Int), .int .u64 (pconn : Int), .int .u64 (fack : Int), .int .u64 (fseq : Int), .slice AU body.length cU]] W (fun e w' => ∃ v, e = .returned v ∧ MidA a0 a1 v w0 w' g (T0.withL false ((T0.l false).take (T0.now false) fF)) ((T0.l false).takeF (T0.now false) fF) ((T0.l false).takeE (T0.now false) fF) (Ce w3.heap.size 51 #[.int .i64 kind, .int .i64 ffr, .int .i64 fto, .int .u64 (finc : Int), .int .u64 (fconn : Int), .int .u64 (pinc : Int), .int .u64 (pconn : Int), .int .u64 (fack : Int), .int .u64 (fseq : Int), .slice AU body.length cU] :: Qs)) from by
       have hb := HFO.out; rw [← HfF.out] at hb ⊢; exact takeX0 (f := ⟨kind, ffr, fto, finc, fconn, pinc, pconn, fack, fseq, body⟩) (A := AU) (c := cU) hS HO0.out (by omega) (by have := hb.2.2.2.2; unfold maxLen; simp only at this ⊢; omega) (by have := hb.2.2.1; simp only at this ⊢; omega) (by have := hb.2.2.2.1; simp only at this ⊢; omega))
      have HC2 := Lib.hid (fun (W : World) (v : Value) (hS : MidA a0 a1 v w0 W g (T0.withL false ((T0.l false).take (T0.now false) fF)) ((T0.l false).takeF (T0.now false) fF) ((T0.l false).takeE (T0.now false) fF) (Ce w3.heap.size 51 #[.int .i64 kind, .int .i64 ffr, .int .i64 fto, .int .u64 (finc : Int), .int .u64 (fconn : Int), .int .u64 (pinc : Int), .int .u64 (pconn : Int), .int .u64 (fack : Int), .int .u64 (fseq : Int), .slice AU body.length cU] :: Qs)) => show Calls Try.prog 31 #[.pointer (some ⟨g, 0, none⟩), .int .i64 0, v] W (fun e w' => e = .returned (.tuple #[]) ∧ TwA a0 a1 w0 w' g (T0.take false fF) (Ce w3.heap.size 51 #[.int .i64 kind, .int .i64 ffr, .int .i64 fto, .int .u64 (finc : Int), .int .u64 (fconn : Int), .int .u64 (pinc : Int), .int .u64 (pconn : Int), .int .u64 (fack : Int), .int .u64 (fseq : Int), .slice AU body.length cU] :: Qs)) from by
       have hn := HO0.out.now false; have hk := takeF_ok (HO0.out.num false) (HO0.out.ids false) (now := T0.now false) (by omega) (f := fF) ⟨HFO.out.1, HFO.out.2.1⟩; exact ansA0 hS (HO0.out.withL false ((HO0.out.num false).take (now := T0.now false) (by omega) fF) (ids_take (HO0.out.ids false) (T0.now false) ⟨HFO.out.1, HFO.out.2.1⟩)) (by omega) (by omega) (by omega))
      clear hS HS5 HS3 HRS HPUT
      go_wp2_with fail
      refine wRG (fun dn xv W => if dn 16 = true then TwA a0 a1 w0 W g (T0.take false fF) (Ce w3.heap.size 51 #[.int .i64 kind, .int .i64 ffr, .int .i64 fto, .int .u64 (finc : Int), .int .u64 (fconn : Int), .int .u64 (pinc : Int), .int .u64 (pconn : Int), .int .u64 (fack : Int), .int .u64 (fseq : Int), .slice AU body.length cU] :: Qs) else if dn 15 = true then MidA a0 a1 (xv 15) w0 W g (T0.withL false ((T0.l false).take (T0.now false) fF)) ((T0.l false).takeF (T0.now false) fF) ((T0.l false).takeE (T0.now false) fF) (Ce w3.heap.size 51 #[.int .i64 kind, .int .i64 ffr, .int .i64 fto, .int .u64 (finc : Int), .int .u64 (fconn : Int), .int .u64 (pinc : Int), .int .u64 (pconn : Int), .int .u64 (fack : Int), .int .u64 (fseq : Int), .slice AU body.length cU] :: Qs) else TwX (.slice AU body.length cU) body a0 a1 w0 W g T0 (Ce w3.heap.size 51 #[.int .i64 kind, .int .i64 ffr, .int .i64 fto, .int .u64 (finc : Int), .int .u64 (fconn : Int), .int .u64 (pinc : Int), .int .u64 (pconn : Int), .int .u64 (fack : Int), .int .u64 (fseq : Int), .slice AU body.length cU] :: Qs)) (fun _ _ => True) [xP_ g 0, xV_ (.int .i64 0), xP_ g 0, xV_ (.int .i64 0), xP_ g 0, xP_ g 0, xP_ g 0, xP_ a0 0, xP_ g 0, xV_ (.int .i64 0), xP_ g 0, xP_ g 4, xP_ g 4, xV_ (.int .u64 ((T0.now false : Nat) : Int)), xV_ (.agg #[.int .i64 kind, .int .i64 ffr, .int .i64 fto, .int .u64 (finc : Int), .int .u64 (fconn : Int), .int .u64 (pinc : Int), .int .u64 (pconn : Int), .int .u64 (fack : Int), .int .u64 (fseq : Int), .slice AU body.length cU]), fun v _ => True, fun v _ => True] (fun xv => by simpa using HX6.out) ?_ ?_
      ·refine Ep 1 0 g 0 ?_
       refine Ei 2 4 (.int .i64 0) ?_
       refine Ep 3 0 g 0 ?_
       refine Ei 4 4 (.int .i64 0) ?_
       refine Ee 5 51 2 ?_
       refine Ee 6 53 4 ?_
       refine Eee 7 52 3 54 5 ?_
       refine EC 8 rfl (fun h i W F b c d e f H K g => ?_) ?_
       ·have f55 := gE (b 55) (by kernel_rfl) (H 6) (by kernel_rfl); have q1 := d 15 uE; have q2 := d 16 (uM 15 uE); have hq := f; rw [if_neg (by simp [q2]), if_neg (by simp [q1])] at hq; have hq := hq.a; have kk := hq.l0; clear H d c e b; refine oP rfl ?_; go_simp; exact g.out _ _ rfl trivial f
       refine Ep 9 0 g 0 ?_
       refine Ei 10 4 (.int .i64 0) ?_
       refine Ee 11 57 8 ?_
       refine Ee 12 59 10 ?_
       refine Eee 13 58 9 60 11 ?_
       refine EC 14 rfl (fun h i W F b c d e f H K g => ?_) ?_
       ·have f61 := gE (b 61) (by kernel_rfl) (H 12) (by kernel_rfl); have q1 := d 15 uE; have q2 := d 16 (uM 15 uE); have hq := f; rw [if_neg (by simp [q2]), if_neg (by simp [q1])] at hq; have hq := hq.a; have kk := hq.t0; clear H d c e b; refine oP rfl ?_; go_simp; exact g.out _ _ rfl trivial f
       refine EC 15 rfl (fun h i W F b c d e f H K g => ?_) ?_
       ·have f5 : F.tmps.getD 5 undef = .pointer (some ⟨w3.heap.size, 0, none⟩) := (b 5).trans (by kernel_rfl); have q1 := d 15 uE; have q2 := d 16 (uM 15 uE); have hq := f; rw [if_neg (by simp [q2]), if_neg (by simp [q1])] at hq; have hq := hq.a; have kf0 := hq.q0 0 (v := .int .i64 kind) rfl; have kf1 := hq.q0 1 (v := .int .i64 ffr) rfl; have kf2 := hq.q0 2 (v := .int .i64 fto) rfl; have kf3 := hq.q0 3 (v := .int .u64 (finc : Int)) rfl; have kf4 := hq.q0 4 (v := .int .u64 (fconn : Int)) rfl; have kf5 := hq.q0 5 (v := .int .u64 (pinc : Int)) rfl; have kf6 := hq.q0 6 (v := .int .u64 (pconn : Int)) rfl; have kf7 := hq.q0 7 (v := .int .u64 (fack : Int)) rfl; have kf8 := hq.q0 8 (v := .int .u64 (fseq : Int)) rfl; have kf9 := hq.q0 9 (v := .slice AU body.length cU) rfl; clear H d c e b; refine oP rfl ?_; go_simp; exact g.out _ _ rfl trivial f
       refine EC 16 rfl (fun h i W F a b c d f H K g => ?_) ?_
       ·have f56 := gE (a 56) (by kernel_rfl) (H 7) (by kernel_rfl); have f62 := gE (a 62) (by kernel_rfl) (H 13) (by kernel_rfl); have f63 := gE (a 63) (by kernel_rfl) (H 14) (by kernel_rfl); have q16 := c 16 uE; rw [if_neg (by simp [q16]), if_neg (by simp [b])] at f; have hS := f; clear f c b d a H; refine oP rfl ?_; go_simp; refine (HC1.out W hS).mono ?_; rintro e W' ⟨v, rfl, hs⟩; exact g.out v W' trivial trivial (by simpa [upB, upd, q16] using hs)
       refine EC 17 rfl (fun h i W F a b c d f H K g => ?_) ?_
       ·have f49 := gE (a 49) (by kernel_rfl) (H 0) (by kernel_rfl); have f50 := gE (a 50) (by kernel_rfl) (H 1) (by kernel_rfl); have f64 : F.tmps.getD 64 undef = i 15 := (a 64).trans (by kernel_rfl); have q15 := (H 15 uE).1; rw [if_neg (by simp [b]), if_pos q15] at f; have hS := f; clear f c b d a H; refine oP rfl ?_; go_simp; refine (HC2.out W _ hS).mono ?_; rintro e W' ⟨rfl, hs⟩; exact g.out _ W' trivial trivial (by simpa [upB, upd] using hs)
       exact EN
      ·intro dn xv W hI H; have qe : dn 16 = true := (H 16 (of_decide_eq_true (by kernel_rfl))).1; rw [if_pos qe] at hI; have hS := hI; clear H hI qe; simp only [putAll, Act.put, List.setIfInBounds_toArray, List.set_cons_zero, List.set_cons_succ, Nat.reduceAdd]; have HA7 := Lib.hid hS.pop; have HK7 : Hid (Calm T (k + 1) (T0.take false fF)) := Lib.hid ⟨U, false, fF, Rf, HK.out, HFW.out, by rw [← HT0.out]; rfl⟩; clear hS
       go_wp2_with fail
       go_roundw
       case rel => exact ⟨k + 1, _, by go_num, by rw [Hphi.out]; exact hk1, HK7, HA7⟩
       case measure => simp only [Hphi.out, intOf]; simp; omega
end Go.Proofs.Ytngegjboenfmeaa
/- A turn: both tick, and all frames come; whether both are up by one another. -/
namespace Go.Proofs.Ytngegjboenfmeaa
open Go Go.RowKit Go.Shelf
set_option linter.unusedVariables false
set_option maxRecDepth 100000
set_option linter.unusedSimpArgs false

def Ht (m : Nat) (T U : TW) : Prop := (m = 0 ∧ T = U) ∨ (m = 1 ∧ Half false T U) ∨ (m = 2 ∧ Turn T U)
def TurnP (T : TW) (a0 a1 : Nat) (w0 : World) (g : Nat) (Qs : List SP) (w' : World) : Prop := ∃ V, Turn T V ∧ TwA a0 a1 w0 w' g V Qs
set_option maxHeartbeats 6400000 in
theorem turn_any {w0 w : World} {Qs : List SP} {g a0 a1 B : Nat} {T : TW} (h : TwA a0 a1 w0 w g T Qs) (hG : T.Gl) (hO : T.Ok B) (hB : B ≤ 9000000) (hw : ways T ≤ 40) :
  Calls Try.prog 26 #[.pointer (some ⟨g, 0, none⟩)] w fun e w' => e = .returned (.bool true) ∧ TurnP T a0 a1 w0 g Qs w' := by
 have HA := Lib.hid h; have HGT := Lib.hid hG; have HOT := Lib.hid hO; have HWT := Lib.hid hw; clear h hG hO hw; go_enter Try.func26, Try.ntmps26
 go_wp2_with fail
 go_loopw [3] (fun iv wr => ∃ (m : Nat) (U : TW), m ≤ 2 ∧ iv = .int .i64 (m : Int) ∧ Hid (Ht m T U) ∧ Hid (TwA a0 a1 w0 wr g U Qs)) (fun iv _ => 2 - (intOf iv).toNat)
 case atStart => exact ⟨0, T, by omega, rfl, Lib.hid (.inl ⟨rfl, rfl⟩), HA⟩
 case round =>
  obtain ⟨m, U, hm, rfl, HT, HM⟩ := hrel
  rcases (show m = 0 ∨ m = 1 ∨ m = 2 by omega) with e | e | e
  ·subst e; obtain ⟨C, HC⟩ : ∃ y, Hid (B = y) := ⟨_, Lib.hid rfl⟩; have hC : C ≤ 9000000 := by have := HC.out; omega
   have HU0 : Hid (T = U) := Lib.hid (by rcases HT.out with ⟨_, h⟩ | ⟨h, _⟩ | ⟨h, _⟩ <;> first | exact h | omega)
   have HG : Hid U.Gl := Lib.hid (by rw [← HU0.out]; exact HGT.out); have HO : Hid (U.Ok C) := Lib.hid (by rw [← HU0.out, ← HC.out]; exact HOT.out); have hwU : ways U ≤ 40 := by rw [← HU0.out]; exact HWT.out
   have hnow := HO.out.now false; obtain ⟨kq, Hkq⟩ : ∃ x, Hid ((1 : Nat) = x) := ⟨_, Lib.hid rfl⟩; have ew : IntKind.u64.wrap (((U.now false : Nat) : Int) + 1) = ((U.now false : Nat) : Int) + (kq : Int) := by rw [← Hkq.out]; exact u64_wrapG (by omega) (by omega)
   clear hnow
   go_wp2_with fail
   refine wRG (fun dn xv W => if dn 10 = true then TwA a0 a1 w0 W g (U.later false kq) Qs else TwA a0 a1 w0 W g U Qs) (fun _ _ => True) [xP_ g 0, xV_ (.int .i64 0), xP_ g 0, xP_ g 4, xP_ g 4, xV_ (.int .u64 ((U.now false : Nat) : Int)), xV_ (.int .u64 ((U.now false : Nat) + (kq : Nat) : Int)), xP_ g 0, xP_ g 4, xP_ g 4, fun v _ => True] (fun xv => by simpa using HM.out.drew) ?_ ?_
   ·refine Ep 1 0 g 0 ?_
    refine Ei 2 3 (.int .i64 0) ?_
    refine Ee 3 8 0 ?_
    refine Ee 4 10 2 ?_
    refine Eee 5 9 1 11 3 ?_
    refine EC 6 rfl (fun g h W F a b c d e H K f => ?_) ?_
    ·have f12 := gE (a 12) (by kernel_rfl) (H 4) (by kernel_rfl); have q10 := c 10 (uM 6 uE); have hq := e; rw [if_neg (by simp [q10])] at hq; have kk := hq.t0; clear H c b d a; refine oP rfl ?_; go_simp; exact f.out _ _ rfl trivial e
    refine Ee 7 13 5 ?_
    refine Ee 8 8 0 ?_
    refine Ee 9 15 7 ?_
    refine Eee 10 9 1 16 8 ?_
    refine EC 11 rfl (fun g h W F a b c d e H K f => ?_) ?_
    ·have f14 := gE (a 14) (by kernel_rfl) (H 6) (by kernel_rfl); have f17 := gE (a 17) (by kernel_rfl) (H 9) (by kernel_rfl); rw [if_neg (by simp [b])] at e; have hS := e; clear e c b d a H; refine oP rfl ?_; obtain ⟨yy, hs⟩ := hS.later0 kq; have kk := hS.t0; go_simp; exact f.out undef _ trivial trivial (by simpa [upB, upd] using hs)
    exact EN
   ·intro dn xv w3 hI H; have qe : dn 10 = true := (H 10 (of_decide_eq_true (by kernel_rfl))).1; rw [if_pos qe] at hI; have hS := hI; clear H hI qe; simp only [putAll, Act.put, List.setIfInBounds_toArray, List.set_cons_zero, List.set_cons_succ, Nat.reduceAdd]; obtain ⟨T0, HT0⟩ : ∃ x, Hid (U.later false kq = x) := ⟨_, Lib.hid rfl⟩; rw [HT0.out] at hS; have HA1 := Lib.hid hS; have HO0 : Hid (T0.Ok (C + 3)) := Lib.hid (by rw [← HT0.out]; exact HO.out.later false (by have := Hkq.out; omega)); have HC1 := Lib.hid (fun (W : World) (hS : TwA a0 a1 w0 W g T0 Qs) => tickA0 hS HO0.out (by omega)); have HC2 := Lib.hid (fun (W : World) (v : Value) (hS : MidA a0 a1 v w0 W g (T0.withL false ((T0.l false).tick (T0.now false))) ((T0.l false).tickF (T0.now false)) ((T0.l false).tickE (T0.now false)) Qs) => show Calls Try.prog 31 #[.pointer (some ⟨g, 0, none⟩), .int .i64 0, v] W (fun e w' => e = .returned (.tuple #[]) ∧ TwA a0 a1 w0 w' g (T0.tick false) Qs) from
     ansA0 hS ((HO0.out.mono (Nat.le_add_right _ 1)).withL false ((HO0.out.num false).tick (now := T0.now false) (by have := HO0.out.now false; omega)) (ids_tick (HO0.out.ids false) (T0.now false))) (by omega) (by have := (tickF_ok (HO0.out.num false) (HO0.out.ids false) (T0.now false)).2.1; omega) (by have := (tickF_ok (HO0.out.num false) (HO0.out.ids false) (T0.now false)).2.2; omega))
    clear hS ew
    go_wp2_with fail
    refine wRG (fun dn xv W => if dn 15 = true then TwA a0 a1 w0 W g (T0.tick false) Qs else if dn 14 = true then MidA a0 a1 (xv 14) w0 W g (T0.withL false ((T0.l false).tick (T0.now false))) ((T0.l false).tickF (T0.now false)) ((T0.l false).tickE (T0.now false)) Qs else TwA a0 a1 w0 W g T0 Qs) (fun _ _ => True) [xP_ g 0, xV_ (.int .i64 0), xP_ g 0, xV_ (.int .i64 0), xP_ g 0, xP_ g 0, xP_ g 0, xP_ a0 0, xP_ g 0, xV_ (.int .i64 0), xP_ g 0, xP_ g 4, xP_ g 4, xV_ (.int .u64 ((T0.now false : Nat) : Int)), fun v _ => True, fun v _ => True] (fun xv => by simpa using HA1.out.drew) ?_ ?_
    ·refine Ep 1 0 g 0 ?_
     refine Ei 2 3 (.int .i64 0) ?_
     refine Ep 3 0 g 0 ?_
     refine Ei 4 3 (.int .i64 0) ?_
     refine Ee 5 20 2 ?_
     refine Ee 6 22 4 ?_
     refine Eee 7 21 3 23 5 ?_
     refine EC 8 rfl (fun g h W F a b c d e H K f => ?_) ?_
     ·have f24 := gE (a 24) (by kernel_rfl) (H 6) (by kernel_rfl); have q1 := c 14 uE; have q2 := c 15 (uM 14 uE); have hq := e; rw [if_neg (by simp [q2]), if_neg (by simp [q1])] at hq; have kk := hq.l0; clear H c b d a; refine oP rfl ?_; go_simp; exact f.out _ _ rfl trivial e
     refine Ep 9 0 g 0 ?_
     refine Ei 10 3 (.int .i64 0) ?_
     refine Ee 11 26 8 ?_
     refine Ee 12 28 10 ?_
     refine Eee 13 27 9 29 11 ?_
     refine EC 14 rfl (fun g h W F a b c d e H K f => ?_) ?_
     ·have f30 := gE (a 30) (by kernel_rfl) (H 12) (by kernel_rfl); have q1 := c 14 uE; have q2 := c 15 (uM 14 uE); have hq := e; rw [if_neg (by simp [q2]), if_neg (by simp [q1])] at hq; have kk := hq.t0; clear H c b d a; refine oP rfl ?_; go_simp; exact f.out _ _ rfl trivial e
     refine EC 15 rfl (fun h i W F a b c d f H K g => ?_) ?_
     ·have f25 := gE (a 25) (by kernel_rfl) (H 7) (by kernel_rfl); have f31 := gE (a 31) (by kernel_rfl) (H 13) (by kernel_rfl); have q15 := c 15 uE; rw [if_neg (by simp [q15]), if_neg (by simp [b])] at f; have hS := f; clear f c b d a H; refine oP rfl ?_; go_simp; refine (HC1.out W hS).mono ?_; rintro e W' ⟨v, rfl, hs⟩; exact g.out v W' trivial trivial (by simpa [upB, upd, q15] using hs)
     refine EC 16 rfl (fun h i W F a b c d f H K g => ?_) ?_
     ·have f18 := gE (a 18) (by kernel_rfl) (H 0) (by kernel_rfl); have f19 := gE (a 19) (by kernel_rfl) (H 1) (by kernel_rfl); have f32 : F.tmps.getD 32 undef = i 14 := (a 32).trans (by kernel_rfl); have q14 := (H 14 uE).1; rw [if_neg (by simp [b]), if_pos q14] at f; have hS := f; clear f c b d a H; refine oP rfl ?_; go_simp; refine (HC2.out W _ hS).mono ?_; rintro e W' ⟨rfl, hs⟩; exact g.out _ W' trivial trivial (by simpa [upB, upd] using hs)
     exact EN
    ·intro dn xv w5 hI H; have qe : dn 15 = true := (H 15 (of_decide_eq_true (by kernel_rfl))).1; rw [if_pos qe] at hI; have hS := hI; clear H hI qe; simp only [putAll, Act.put, List.setIfInBounds_toArray, List.set_cons_zero, List.set_cons_succ, Nat.reduceAdd]; have HA2 : Hid (TwA a0 a1 w0 w5 g ((U.later false 1).tick false) Qs) := Lib.hid (by
      rw [← HT0.out, ← Hkq.out] at hS; exact hS)
     clear hS HC1 HC2
     go_wp2_with fail
     refine (calm_any HA2.out (gl_ltick HG.out HO.out (by omega) false).1 (gl_ltick HG.out HO.out (by omega) false).2 (by have := phi_ltick (x := false) HG.out HO.out (by omega) hwU; omega) (by have := phi_ltick (x := false) HG.out HO.out (by omega) hwU; omega)).mono ?_; rintro e w6 ⟨rfl, k, V, hk, hcalm, hways, hV⟩; have HA3 := Lib.hid hV; have HH : Hid (Half false U V) := Lib.hid ⟨k, hk, hcalm, hways⟩; clear hk hcalm hways hV
     go_wp2_with fail
     go_roundw
     case rel => exact ⟨1, V, by omega, rfl, Lib.hid (.inr (.inl ⟨rfl, by rw [HU0.out]; exact HH.out⟩)), HA3⟩
     case measure => simp [intOf]
  ·subst e; obtain ⟨C, HC⟩ : ∃ y, Hid (B + 2800 = y) := ⟨_, Lib.hid rfl⟩; have hC : C ≤ 9002800 := by have := HC.out; omega
   have HU0 : Hid (Half false T U) := Lib.hid (by rcases HT.out with ⟨h, _⟩ | ⟨_, h⟩ | ⟨h, _⟩ <;> first | exact h | omega)
   have hk := half_ok HGT.out HOT.out (by omega) HWT.out HU0.out; have HG : Hid U.Gl := Lib.hid hk.1; have HO : Hid (U.Ok C) := Lib.hid (by rw [← HC.out]; exact hk.2.1); have hwU : ways U ≤ 40 := by rw [hk.2.2]; omega
   clear hk; have hnow := HO.out.now true; obtain ⟨kq, Hkq⟩ : ∃ x, Hid ((1 : Nat) = x) := ⟨_, Lib.hid rfl⟩; have ew : IntKind.u64.wrap (((U.now true : Nat) : Int) + 1) = ((U.now true : Nat) : Int) + (kq : Int) := by rw [← Hkq.out]; exact u64_wrapG (by omega) (by omega)
   clear hnow
   go_wp2_with fail
   refine wRG (fun dn xv W => if dn 10 = true then TwA a0 a1 w0 W g (U.later true kq) Qs else TwA a0 a1 w0 W g U Qs) (fun _ _ => True) [xP_ g 0, xV_ (.int .i64 1), xP_ g 0, xP_ g 4, xP_ g 5, xV_ (.int .u64 ((U.now true : Nat) : Int)), xV_ (.int .u64 ((U.now true : Nat) + (kq : Nat) : Int)), xP_ g 0, xP_ g 4, xP_ g 5, fun v _ => True] (fun xv => by simpa using HM.out.drew) ?_ ?_
   ·refine Ep 1 0 g 0 ?_
    refine Ei 2 3 (.int .i64 1) ?_
    refine Ee 3 8 0 ?_
    refine Ee 4 10 2 ?_
    refine Eee 5 9 1 11 3 ?_
    refine EC 6 rfl (fun g h W F a b c d e H K f => ?_) ?_
    ·have f12 := gE (a 12) (by kernel_rfl) (H 4) (by kernel_rfl); have q10 := c 10 (uM 6 uE); have hq := e; rw [if_neg (by simp [q10])] at hq; have kk := hq.t1; clear H c b d a; refine oP rfl ?_; go_simp; exact f.out _ _ rfl trivial e
    refine Ee 7 13 5 ?_
    refine Ee 8 8 0 ?_
    refine Ee 9 15 7 ?_
    refine Eee 10 9 1 16 8 ?_
    refine EC 11 rfl (fun g h W F a b c d e H K f => ?_) ?_
    ·have f14 := gE (a 14) (by kernel_rfl) (H 6) (by kernel_rfl); have f17 := gE (a 17) (by kernel_rfl) (H 9) (by kernel_rfl); rw [if_neg (by simp [b])] at e; have hS := e; clear e c b d a H; refine oP rfl ?_; obtain ⟨yy, hs⟩ := hS.later1 kq; have kk := hS.t1; go_simp; exact f.out undef _ trivial trivial (by simpa [upB, upd] using hs)
    exact EN
   ·intro dn xv w3 hI H; have qe : dn 10 = true := (H 10 (of_decide_eq_true (by kernel_rfl))).1; rw [if_pos qe] at hI; have hS := hI; clear H hI qe; simp only [putAll, Act.put, List.setIfInBounds_toArray, List.set_cons_zero, List.set_cons_succ, Nat.reduceAdd]; obtain ⟨T0, HT0⟩ : ∃ x, Hid (U.later true kq = x) := ⟨_, Lib.hid rfl⟩; rw [HT0.out] at hS; have HA1 := Lib.hid hS; have HO0 : Hid (T0.Ok (C + 3)) := Lib.hid (by rw [← HT0.out]; exact HO.out.later true (by have := Hkq.out; omega)); have HC1 := Lib.hid (fun (W : World) (hS : TwA a0 a1 w0 W g T0 Qs) => tickA1 hS HO0.out (by omega)); have HC2 := Lib.hid (fun (W : World) (v : Value) (hS : MidA a0 a1 v w0 W g (T0.withL true ((T0.l true).tick (T0.now true))) ((T0.l true).tickF (T0.now true)) ((T0.l true).tickE (T0.now true)) Qs) => show Calls Try.prog 31 #[.pointer (some ⟨g, 0, none⟩), .int .i64 1, v] W (fun e w' => e = .returned (.tuple #[]) ∧ TwA a0 a1 w0 w' g (T0.tick true) Qs) from
     ansA1 hS ((HO0.out.mono (Nat.le_add_right _ 1)).withL true ((HO0.out.num true).tick (now := T0.now true) (by have := HO0.out.now true; omega)) (ids_tick (HO0.out.ids true) (T0.now true))) (by omega) (by have := (tickF_ok (HO0.out.num true) (HO0.out.ids true) (T0.now true)).2.1; omega) (by have := (tickF_ok (HO0.out.num true) (HO0.out.ids true) (T0.now true)).2.2; omega))
    clear hS ew
    go_wp2_with fail
    refine wRG (fun dn xv W => if dn 15 = true then TwA a0 a1 w0 W g (T0.tick true) Qs else if dn 14 = true then MidA a0 a1 (xv 14) w0 W g (T0.withL true ((T0.l true).tick (T0.now true))) ((T0.l true).tickF (T0.now true)) ((T0.l true).tickE (T0.now true)) Qs else TwA a0 a1 w0 W g T0 Qs) (fun _ _ => True) [xP_ g 0, xV_ (.int .i64 1), xP_ g 0, xV_ (.int .i64 1), xP_ g 0, xP_ g 0, xP_ g 1, xP_ a1 0, xP_ g 0, xV_ (.int .i64 1), xP_ g 0, xP_ g 4, xP_ g 5, xV_ (.int .u64 ((T0.now true : Nat) : Int)), fun v _ => True, fun v _ => True] (fun xv => by simpa using HA1.out.drew) ?_ ?_
    ·refine Ep 1 0 g 0 ?_
     refine Ei 2 3 (.int .i64 1) ?_
     refine Ep 3 0 g 0 ?_
     refine Ei 4 3 (.int .i64 1) ?_
     refine Ee 5 20 2 ?_
     refine Ee 6 22 4 ?_
     refine Eee 7 21 3 23 5 ?_
     refine EC 8 rfl (fun g h W F a b c d e H K f => ?_) ?_
     ·have f24 := gE (a 24) (by kernel_rfl) (H 6) (by kernel_rfl); have q1 := c 14 uE; have q2 := c 15 (uM 14 uE); have hq := e; rw [if_neg (by simp [q2]), if_neg (by simp [q1])] at hq; have kk := hq.l1; clear H c b d a; refine oP rfl ?_; go_simp; exact f.out _ _ rfl trivial e
     refine Ep 9 0 g 0 ?_
     refine Ei 10 3 (.int .i64 1) ?_
     refine Ee 11 26 8 ?_
     refine Ee 12 28 10 ?_
     refine Eee 13 27 9 29 11 ?_
     refine EC 14 rfl (fun g h W F a b c d e H K f => ?_) ?_
     ·have f30 := gE (a 30) (by kernel_rfl) (H 12) (by kernel_rfl); have q1 := c 14 uE; have q2 := c 15 (uM 14 uE); have hq := e; rw [if_neg (by simp [q2]), if_neg (by simp [q1])] at hq; have kk := hq.t1; clear H c b d a; refine oP rfl ?_; go_simp; exact f.out _ _ rfl trivial e
     refine EC 15 rfl (fun h i W F a b c d f H K g => ?_) ?_
     ·have f25 := gE (a 25) (by kernel_rfl) (H 7) (by kernel_rfl); have f31 := gE (a 31) (by kernel_rfl) (H 13) (by kernel_rfl); have q15 := c 15 uE; rw [if_neg (by simp [q15]), if_neg (by simp [b])] at f; have hS := f; clear f c b d a H; refine oP rfl ?_; go_simp; refine (HC1.out W hS).mono ?_; rintro e W' ⟨v, rfl, hs⟩; exact g.out v W' trivial trivial (by simpa [upB, upd, q15] using hs)
     refine EC 16 rfl (fun h i W F a b c d f H K g => ?_) ?_
     ·have f18 := gE (a 18) (by kernel_rfl) (H 0) (by kernel_rfl); have f19 := gE (a 19) (by kernel_rfl) (H 1) (by kernel_rfl); have f32 : F.tmps.getD 32 undef = i 14 := (a 32).trans (by kernel_rfl); have q14 := (H 14 uE).1; rw [if_neg (by simp [b]), if_pos q14] at f; have hS := f; clear f c b d a H; refine oP rfl ?_; go_simp; refine (HC2.out W _ hS).mono ?_; rintro e W' ⟨rfl, hs⟩; exact g.out _ W' trivial trivial (by simpa [upB, upd] using hs)
     exact EN
    ·intro dn xv w5 hI H; have qe : dn 15 = true := (H 15 (of_decide_eq_true (by kernel_rfl))).1; rw [if_pos qe] at hI; have hS := hI; clear H hI qe; simp only [putAll, Act.put, List.setIfInBounds_toArray, List.set_cons_zero, List.set_cons_succ, Nat.reduceAdd]; have HA2 : Hid (TwA a0 a1 w0 w5 g ((U.later true 1).tick true) Qs) := Lib.hid (by
      rw [← HT0.out, ← Hkq.out] at hS; exact hS)
     clear hS HC1 HC2
     go_wp2_with fail
     refine (calm_any HA2.out (gl_ltick HG.out HO.out (by omega) true).1 (gl_ltick HG.out HO.out (by omega) true).2 (by have := phi_ltick (x := true) HG.out HO.out (by omega) hwU; omega) (by have := phi_ltick (x := true) HG.out HO.out (by omega) hwU; omega)).mono ?_; rintro e w6 ⟨rfl, k, V, hk, hcalm, hways, hV⟩; have HA3 := Lib.hid hV; have HH : Hid (Half true U V) := Lib.hid ⟨k, hk, hcalm, hways⟩; clear hk hcalm hways hV
     go_wp2_with fail
     go_roundw
     case rel => exact ⟨2, V, by omega, rfl, Lib.hid (.inr (.inr ⟨rfl, _, HU0.out, HH.out⟩)), HA3⟩
     case measure => simp [intOf]
  ·subst e; have HU0 : Hid (Turn T U) := Lib.hid (by rcases HT.out with ⟨h, _⟩ | ⟨h, _⟩ | ⟨_, h⟩ <;> first | exact h | omega)
   go_wp2_with fail
   go_ret
   exact ⟨rfl, U, HU0.out, HM.out⟩
set_option maxHeartbeats 3200000 in
theorem joined_any {w0 w : World} {Qs : List SP} {g a0 a1 B : Nat} {T : TW} (h : TwA a0 a1 w0 w g T Qs) (hO : T.Ok B) (hJ : Js T) :
  Calls Try.prog 27 #[.pointer (some ⟨g, 0, none⟩)] w fun e w' => e = .returned (.bool true) ∧ Below w.heap.size w w' := by
 obtain ⟨i0, Hi0⟩ : ∃ y, Hid ((T.l false).si = y) := ⟨_, Lib.hid rfl⟩; obtain ⟨i1, Hi1⟩ : ∃ y, Hid ((T.l true).si = y) := ⟨_, Lib.hid rfl⟩; obtain ⟨c0, Hc0⟩ : ∃ y, Hid ((T.l false).conn = y) := ⟨_, Lib.hid rfl⟩; obtain ⟨c1, Hc1⟩ : ∃ y, Hid ((T.l true).conn = y) := ⟨_, Lib.hid rfl⟩; have HP0 : Hid (T.pr false = (0, i0, c0, i1, c1)) := Lib.hid (by
  obtain ⟨k1, k2⟩ := hJ.J.kn false; unfold TW.pr; rw [k1, k2, Hi0.out, Hc0.out]; show (side false, i0, c0, (T.l true).si, (T.l true).conn) = _; rw [Hi1.out, Hc1.out]; rfl)
 have HP1 : Hid (T.pr true = (1, i1, c1, i0, c0)) := Lib.hid (by
  obtain ⟨k1, k2⟩ := hJ.J.kn true; unfold TW.pr; rw [k1, k2, Hi1.out, Hc1.out]; show (side true, i1, c1, (T.l false).si, (T.l false).conn) = _; rw [Hi0.out, Hc0.out]; rfl)
 have HU0 : Hid ((T.l false).up = true) := Lib.hid (hJ.up false); have HU1 : Hid ((T.l true).up = true) := Lib.hid (hJ.up true); have HA := Lib.hid h; have HO := Lib.hid hO; clear h hO hJ; go_enter Try.func27, Try.ntmps27
 go_wp2_with fail
 refine (ofA0 HA.out HO.out).mono ?_; rintro e w1 ⟨rfl, hb1⟩; rw [HP0.out]; have HB1 := Lib.hid hb1; have HA1 := Lib.hid (HA.out.grow hb1); unfold prV; clear hb1
 go_wp2_with fail
 refine (ofA1 HA1.out HO.out).mono ?_; rintro e w2 ⟨rfl, hb2⟩; rw [HP1.out]; unfold prV; have HB2 : Hid (Below w.heap.size w w2) := Lib.hid (HB1.out.trans (hb2.mono HB1.out.size)); have HA2 := Lib.hid (HA1.out.grow hb2); clear hb2; have HA3 := Lib.hid ((HA2.out.ce #[.int .i64 0, .int .u64 (i0 : Int), .int .u64 (c0 : Int), .int .u64 (i1 : Int), .int .u64 (c1 : Int)] 81).ce #[.int .i64 1, .int .u64 (i1 : Int), .int .u64 (c1 : Int), .int .u64 (i0 : Int), .int .u64 (c0 : Int)] 81); have HB3 : Hid (Below w.heap.size w ((w2.alloc (.cells #[.int .i64 0, .int .u64 (i0 : Int), .int .u64 (c0 : Int), .int .u64 (i1 : Int), .int .u64 (c1 : Int)] 81)).alloc (.cells #[.int .i64 1, .int .u64 (i1 : Int), .int .u64 (c1 : Int), .int .u64 (i0 : Int), .int .u64 (c0 : Int)] 81))) := Lib.hid ((HB2.out.alloc HB2.out.size (.cells #[.int .i64 0, .int .u64 (i0 : Int), .int .u64 (c0 : Int), .int .u64 (i1 : Int), .int .u64 (c1 : Int)] 81)).alloc (by rw [World.size_alloc]; have := HB2.out.size; omega) (.cells #[.int .i64 1, .int .u64 (i1 : Int), .int .u64 (c1 : Int), .int .u64 (i0 : Int), .int .u64 (c0 : Int)] 81)); have HA3' : Hid (TwA a0 a1 w0 ((w2.alloc (.cells #[.int .i64 0, .int .u64 (i0 : Int), .int .u64 (c0 : Int), .int .u64 (i1 : Int), .int .u64 (c1 : Int)] 81)).alloc (.cells #[.int .i64 1, .int .u64 (i1 : Int), .int .u64 (c1 : Int), .int .u64 (i0 : Int), .int .u64 (c0 : Int)] 81)) g T (Ce (w2.heap.size + 1) 81 #[.int .i64 1, .int .u64 (i1 : Int), .int .u64 (c1 : Int), .int .u64 (i0 : Int), .int .u64 (c0 : Int)] :: Ce w2.heap.size 81 #[.int .i64 0, .int .u64 (i0 : Int), .int .u64 (c0 : Int), .int .u64 (i1 : Int), .int .u64 (c1 : Int)] :: Qs)) := Lib.hid (by
  have h := HA3.out; rw [World.size_alloc] at h; exact h)
 obtain ⟨w3, HW3⟩ : ∃ y, Hid ((w2.alloc (.cells #[.int .i64 0, .int .u64 (i0 : Int), .int .u64 (c0 : Int), .int .u64 (i1 : Int), .int .u64 (c1 : Int)] 81)).alloc (.cells #[.int .i64 1, .int .u64 (i1 : Int), .int .u64 (c1 : Int), .int .u64 (i0 : Int), .int .u64 (c0 : Int)] 81) = y) := ⟨_, Lib.hid rfl⟩; have kl := HA3'.out.l0
 go_wp2_with fail
 refine (upA0 HA3'.out HO.out).mono ?_; rintro e w4 ⟨rfl, hb4⟩; rw [HU0.out]; have HB4 : Hid (Below w.heap.size w w4) := Lib.hid (HB3.out.trans (hb4.mono HB3.out.size)); have HA4 := Lib.hid (HA3'.out.grow hb4); clear hb4 kl; have kl := HA4.out.l1
 go_wp2_with fail
 refine (upA1 HA4.out HO.out).mono ?_; rintro e w5 ⟨rfl, hb5⟩; rw [HU1.out]; have HB5 : Hid (Below w.heap.size w w5) := Lib.hid (HB4.out.trans (hb5.mono HB4.out.size)); have HA5 := Lib.hid (HA4.out.grow hb5); clear hb5 kl; have kp0 := HA5.out.q0 0 (v := .int .i64 1) rfl; have kp1 := HA5.out.q0 1 (v := .int .u64 (i1 : Int)) rfl; have kp2 := HA5.out.q0 2 (v := .int .u64 (c1 : Int)) rfl; have kp3 := HA5.out.q0 3 (v := .int .u64 (i0 : Int)) rfl; have kp4 := HA5.out.q0 4 (v := .int .u64 (c0 : Int)) rfl; have kq0 := HA5.out.q1 0 (v := .int .i64 0) rfl; have kq1 := HA5.out.q1 1 (v := .int .u64 (i0 : Int)) rfl; have kq2 := HA5.out.q1 2 (v := .int .u64 (c0 : Int)) rfl; have kq3 := HA5.out.q1 3 (v := .int .u64 (i1 : Int)) rfl; have kq4 := HA5.out.q1 4 (v := .int .u64 (c1 : Int)) rfl
 go_wp2_with fail
 go_ret
 exact ⟨rfl, HB5.out⟩
end Go.Proofs.Ytngegjboenfmeaa
/- Whether the bodies that are told are the first ones that were sent: a range over one map, with look-ups in the other. -/
namespace Go.Proofs.Ytngegjboenfmeaa
open Go Go.RowKit Go.MapKept Go.ChangeMaps
open Go.WideMaps (KeyLaw)
set_option linter.unusedVariables false
set_option maxRecDepth 100000
set_option linter.unusedSimpArgs false

theorem setB_same (w : World) (b : Nat) (o : Obj) (h : b < w.heap.size) : (setBlock w b o).heap[b]? = some o := by
 show (w.heap.setIfInBounds b o)[b]? = _; rw [Array.getElem?_setIfInBounds, if_pos rfl, if_pos h]
theorem setB_other (w : World) (b : Nat) (o : Obj) {k : Nat} (h : k ≠ b) : (setBlock w b o).heap[k]? = w.heap[k]? := by
 show (w.heap.setIfInBounds b o)[k]? = _; rw [Array.getElem?_setIfInBounds, if_neg (fun e => h e.symm)]
/-- how many entries are still to come -/
def itLeft (es : Array MapEntry) (r : Nat) (w : World) : Nat := match w.heap[r]? with | some (.mapIter _ _ seen _) => (leftOf es seen).size | _ => 0
theorem itLeft_at {es : Array MapEntry} {r : Nat} {w : World} {a b c : _} {seen : Array Nat} (h : w.heap[r]? = some (.mapIter a b seen c)) : itLeft es r w = (leftOf es seen).size := by unfold itLeft; rw [h]
/-- a look-up, in whatever world the map is as it was -/
theorem map_lookupK {w : World} {F : Nat → Prop} {b : Nat} {m : Pr → List (List UInt8)} {q : Pr} (hq : prOk q) (h : MapT b m w F) :
  ∃ u, StrR w u (m q) ∧ (∀ k, u.ownBlock = some k → F k) ∧ ∀ W : World, (∀ k, F k → W.heap[k]? = w.heap[k]?) → (Instr.lookup 32 (.map (some b)) (prV q) false).run Try.prog W = .ok u W := by
 obtain ⟨es, clock, h1, h2, h3, h4⟩ := h; obtain ⟨kl, hkl⟩ := prKey hq
 rcases prLaw.find w hkl es.toList (keys_of h1) with ⟨g1, g2⟩ | ⟨j, e0, g1, g2, g3⟩
 ·refine ⟨.slice none 0 0, by rw [h4 q g2]; exact strR_nil _, fun k hk => by simp [Value.ownBlock] at hk, fun W hW => ?_⟩; have h1' := h1.keep hW; have g1' : _ := g1
  rcases prLaw.find W hkl es.toList (keys_of h1) with ⟨f1, f2⟩ | ⟨j, e0, f1, f2, f3⟩
  ·simp [Instr.lookup, run_underlying pairUnder, MapKept.run_getObj_map h1'.hp, prLaw.check W _ hkl, f1, zeroStrs, Result.andThen]
  ·exact (g2 e0 (List.mem_of_getElem? f2) f3).elim
 ·have hm : e0 ∈ es.toList := List.mem_of_getElem? g2; obtain ⟨a1, a2⟩ := h2 e0 hm q g3; refine ⟨e0.val, a1, fun k hk => (a2 k hk).1, fun W hW => ?_⟩; have h1' := h1.keep hW
  rcases prLaw.find W hkl es.toList (keys_of h1) with ⟨f1, f2⟩ | ⟨j', e1, f1, f2, f3⟩
  ·exact (f2 e0 hm g3).elim
  ·have hm1 : e1 ∈ es.toList := List.mem_of_getElem? f2; have he : e1 = e0 := by
    have hnd := ((stamped_iff es clock).1 h1.st).2.2; exact entry_eq_of_key hnd hm1 hm (f3.trans g3.symm)
   subst he; simp [Instr.lookup, run_underlying pairUnder, MapKept.run_getObj_map h1'.hp, prLaw.check W _ hkl, f1, Result.andThen]
theorem strR_form {w : World} {v : Value} {L : List (List UInt8)} (h : StrR w v L) : ∃ A c, v = .slice A L.length c ∧ L.length ≤ c ∧ c ≤ maxLen ∧ Has w w.heap.size A (strsV L) := ownO_form (ownO_of h)
theorem strsV_at {L : List (List UInt8)} {k : Nat} {y : List UInt8} (h : L[k]? = some y) : (strsV L)[k]? = some (.string ⟨y.toArray⟩) := by
 unfold strsV; rw [List.getElem?_map, h]; rfl
set_option maxHeartbeats 3200000 in
theorem right_core (w : World) (g bs bt : Nat) (S D : Pr → List (List UInt8)) (Fs Ft : Nat → Prop) (h8 : w.cell? ⟨g, 8, none⟩ = some (.map (some bs))) (h9 : w.cell? ⟨g, 9, none⟩ = some (.map (some bt))) (h11 : w.cell? ⟨g, 11, none⟩ = some (.bool false))
  (hg : g < w.heap.size) (hS : MapT bs S w Fs) (hT : MapT bt D w Ft) (hpre : ∀ q, D q <+: S q) (hlen : ∀ q, (D q).length ≤ 1000000000) :
  Calls Try.prog 11 #[.pointer (some ⟨g, 0, none⟩)] w fun e w' => e = .returned (.bool true) ∧ Below w.heap.size w w' := by
 obtain ⟨es, clock, k1, k2, k3, k4⟩ := hT; have hrange := run_range_map w 32 81 84 bt es clock pairUnder k1.hp; have hrs := lt_of_heap k1.hp; have HS := Lib.hid hS; have K1 := Lib.hid k1; have K2 := Lib.hid k2; have HP := Lib.hid hpre; have H8 := Lib.hid h8; have H11 := Lib.hid h11; clear hS k1 k2 k3 k4 hpre; go_enter Try.func11, Try.ntmps11
 go_wp2_with fail
 go_loopw [] (fun wr => ∃ (seen : Array Nat), Hid (Below w.heap.size w wr) ∧ Hid (wr.heap[w.heap.size]? = some (.mapIter (some bt) clock seen clock))) (fun wr => itLeft es w.heap.size wr)
 case atStart => exact ⟨#[], Lib.hid ((Below.refl _ _).alloc (Nat.le_refl _) _), Lib.hid (heap_alloc_new _ _)⟩
 case round =>
  obtain ⟨seen, HB, HR⟩ := hrel; clear h8 h9 h11 hrange; have h8 : wr.cell? ⟨g, 8, none⟩ = some (.map (some bs)) := (show _ = _ from HB.out.cell (show (⟨g, 8, none⟩ : Addr).block < w.heap.size from hg)).trans H8.out; have h11 : wr.cell? ⟨g, 11, none⟩ = some (.bool false) := (show _ = _ from HB.out.cell (show (⟨g, 11, none⟩ : Addr).block < w.heap.size from hg)).trans H11.out
  rcases run_next_at (P := Try.prog) wr 0 w.heap.size bt clock clock seen es clock HR.out ((HB.out.block _ hrs).trans K1.out.hp) K1.out.st.1 (Nat.le_refl _) with ⟨h0, hnext⟩ | ⟨e, he, w1, hw1, hnext⟩
  ·go_wp2_with fail
   go_ret
   exact ⟨rfl, HB.out⟩
  ·have hes := (mem_left he).1; obtain ⟨p, hp, ek⟩ := K1.out.keys e hes; obtain ⟨hr1, hr2⟩ := K2.out e hes p ek; have hwl : w1.heap[w.heap.size]? = some (.mapIter (some bt) clock seen clock) := by rcases hw1 with rfl | rfl <;> exact HR.out
   have hb1 : Below w.heap.size w w1 := by
    rcases hw1 with rfl | rfl
    ·exact HB.out
    ·exact HB.out.drew
   have hb2 : Below w.heap.size w (setBlock w1 w.heap.size (.mapIter (some bt) clock (seen.push e.born) clock)) :=
    ⟨hb1.os, hb1.tape, hb1.output, by simpa [setBlock] using hb1.size, fun k hk => (setB_other _ _ _ (by omega)).trans (hb1.block k hk)⟩
   have hi2 : (setBlock w1 w.heap.size (.mapIter (some bt) clock (seen.push e.born) clock)).heap[w.heap.size]? = some (.mapIter (some bt) clock (seen.push e.born) clock) := setB_same _ _ _ (lt_of_heap hwl); have hent := run_entry_at (P := Try.prog) _ w.heap.size bt clock seen es clock e hi2 ((hb2.block _ hrs).trans K1.out.hp) hes K1.out.st.2.1; obtain ⟨W1, HW1⟩ : ∃ y, Hid (setBlock w1 w.heap.size (.mapIter (some bt) clock (seen.push e.born) clock) = y) := ⟨_, Lib.hid rfl⟩; rw [HW1.out] at hnext hent hb2 hi2; obtain ⟨A, c, ev, hc1, hc2, hA⟩ := strR_form hr1; rw [ek, ev, prV] at hent; rw [ek, ev, prV] at hnext; have hsh := Lib.hid (left_shrinks es seen e he); obtain ⟨u, hu1, hu2, hu3⟩ := map_lookupK hp HS.out; obtain ⟨A', c', eu, hd1, hd2, hA'⟩ := strR_form hu1; subst eu; have HB2 := Lib.hid hb2; have HI2 := Lib.hid hi2; have HA := Lib.hid hA; have HA' := Lib.hid hA'; have hFs : ∀ k, Fs k → k < w.heap.size := by
    obtain ⟨_, _, q, _⟩ := HS.out; exact q.lt
   have HLK : Hid (∀ W, Below w.heap.size w W → (Instr.lookup 32 (.map (some bs)) (.agg #[.int .i64 p.1, .int .u64 (p.2.1 : Int), .int .u64 (p.2.2.1 : Int), .int .u64 (p.2.2.2.1 : Int), .int .u64 (p.2.2.2.2 : Int)]) false).run Try.prog W = .ok (.slice A' (S p).length c') W) := Lib.hid (fun W hW => hu3 W fun k hk => hW.block k (hFs k hk)); have HPL := Lib.hid (HP.out p); have hdb : (D p).length ≤ 1000000000 := hlen p; have hle : (D p).length ≤ (S p).length := (HP.out p).length_le; obtain ⟨DL, HDL⟩ : ∃ y, Hid (D p = y) := ⟨_, Lib.hid rfl⟩; obtain ⟨SL, HSL⟩ : ∃ y, Hid (S p = y) := ⟨_, Lib.hid rfl⟩; rw [HDL.out] at hnext hent hle HPL HA hdb; rw [HSL.out] at hle HPL HA' HLK; obtain ⟨p0, p1, p2, p3, p4⟩ := p; simp only at hnext hent HLK; clear hr1 hr2 hwl hb1 hb2 hi2 hA hA' hu1 hu2 hu3 ek ev hc1 hc2 hd1 hd2 hw1 h8 h11; have HB3 := Lib.hid (HB2.out.alloc HB2.out.size (.cells #[.int .i64 p0, .int .u64 (p1 : Int), .int .u64 (p2 : Int), .int .u64 (p3 : Int), .int .u64 (p4 : Int)] 81)); have h8 := (show _ = _ from HB3.out.cell (show (⟨g, 8, none⟩ : Addr).block < w.heap.size from hg)).trans H8.out; have hl3 := HLK.out _ HB3.out; have hl4 := HLK.out _ HB3.out.drew; obtain ⟨dn, HDN⟩ : ∃ y, Hid (DL.length = y) := ⟨_, Lib.hid rfl⟩; obtain ⟨sn, HSN⟩ : ∃ y, Hid (SL.length = y) := ⟨_, Lib.hid rfl⟩; rw [HDN.out] at hnext hent hle hdb; rw [HSN.out] at hl3 hl4 hle; have egt : decide (sn < dn) = false := decide_eq_false (by omega); obtain ⟨W2, HW2⟩ : ∃ y, Hid (W1.alloc (.cells #[.int .i64 p0, .int .u64 (p1 : Int), .int .u64 (p2 : Int), .int .u64 (p3 : Int), .int .u64 (p4 : Int)] 81) = y) := ⟨_, Lib.hid rfl⟩; have HI3 : Hid (W2.drew.heap[w.heap.size]? = some (.mapIter (some bt) clock (seen.push e.born) clock)) := Lib.hid (by
    rw [← HW2.out]; exact (heap_alloc_old W1 _ (lt_of_heap HI2.out)).trans HI2.out)
   have HB4 : Hid (Below w.heap.size w W2.drew) := Lib.hid (by rw [← HW2.out]; exact HB3.out.drew)
   go_wp2_with fail
   go_region
   go_wp2_with fail
   go_loopw [6] (fun iv wr => ∃ (j : Nat), j ≤ dn ∧ iv = .int .i64 (j : Int) ∧ Hid (Below w.heap.size w wr) ∧ Hid (wr.heap[w.heap.size]? = some (.mapIter (some bt) clock (seen.push e.born) clock))) (fun iv _ => dn - (intOf iv).toNat)
   case atStart => exact ⟨0, Nat.zero_le _, rfl, Lib.hid (by rw [HW2.out]; exact HB4.out), Lib.hid (by rw [HW2.out]; exact HI3.out)⟩
   case round =>
    obtain ⟨j, hj, rfl, HB5, HI5⟩ := hrel
    by_cases hjd : j < dn
    ·have elt : decide (j < dn) = true := decide_eq_true hjd; obtain ⟨y, hy⟩ : ∃ y, DL[j]? = some y := ⟨_, List.getElem?_eq_getElem (by rw [HDN.out]; exact hjd)⟩; have hy2 : SL[j]? = some y := by
      obtain ⟨z, hz⟩ := HPL.out; rw [← hz, List.getElem?_append_left (by rw [HDN.out]; exact hjd)]; exact hy
     have hh1 : Has wr w.heap.size A (strsV DL) := HA.out.below HB5.out; have hh2 : Has wr w.heap.size A' (strsV SL) := HA'.out.below HB5.out; have c0 := strsV_at hy; have c1 := strsV_at hy2; obtain ⟨ba, oa, rfl, _, _⟩ := hh1 _ _ c0; obtain ⟨bb, ob, rfl, _, _⟩ := hh2 _ _ c1; have f0 := hK4 hh1 c0; have f1 := hK4 hh2 c1; have i0 : (0 : Int) ≤ (j : Int) := by omega
     have i1 : (j : Int) < (dn : Int) := by omega
     have i2 : (j : Int) < (sn : Int) := by omega
     clear c0 c1 hh1 hh2 hy hy2
     go_wp2_with fail
     go_region
     go_wp2_with fail
     go_roundw
     case rel => exact ⟨j + 1, by omega, by go_num, Lib.hid HB5.out.drew, HI5⟩
     case measure => simp [intOf]; omega
    ·have elt : decide (j < dn) = false := decide_eq_false hjd
     go_wp2_with fail
     go_roundw
     case rel => exact ⟨_, HB5, HI5⟩
     case measure => rw [itLeft_at HI5.out, itLeft_at HR.out]; exact hsh.out
end Go.Proofs.Ytngegjboenfmeaa
/- The states that two links go through while they come to rest, in plain words; look-ups in the harness's maps. -/
namespace Go.Proofs.Ytngegjboenfmeaa
open Go Go.RowKit
set_option linter.unusedVariables false
set_option linter.unusedSimpArgs false
set_option maxRecDepth 100000

theorem and_1 (k : Nat) (hk : k < 1000000) : bits .and .i64 (k : Int) 1 = ((k % 2 : Nat) : Int) := by
 have h := bits_mask .i64 62 (by decide) (fun n h0 h1 => by rw [IntKind.wrap_i64]; omega) 1 (by decide) (k : Int) (by omega) (by omega); simpa using h
structure R0 (k : Nat) (T : TW) : Prop where
 gl : T.Gl
 ok : T.Ok (1 + 20 * k)
 few : T.Few
theorem r0_start : R0 0 TW.start := ⟨gl_start, start_ok, fun i => by simp [TW.start]⟩
theorem r0_act {k : Nat} {T : TW} (h : R0 k T) (hk : k ≤ 1500) (d : Int) (i : Bool) (q : Nat) (ho : (T.act d i q).Ok (1 + 20 * k + 20)) : R0 (k + 1) (T.act d i q) :=
 ⟨gl_act h.gl h.ok (by omega) d i q, ho.mono (by omega), few_act h.few d i q⟩
theorem r0_phi {k : Nat} {T : TW} (h : R0 k T) : T.phi ≤ 1962 := by
 have h1 := phi_le h.ok; have h2 := h.few false; have h3 := h.few true; omega
structure R1 (m : Nat) (T : TW) : Prop where
 gl : T.Gl
 ok : T.Ok (50000 + 5600 * m)
 w : ways T = 0
 js : 1 ≤ m → Js T
theorem r1_start {k q : Nat} {T U : TW} (h : R0 k T) (hk : k ≤ 1500) (hq : q ≤ 20000) (hc : Calm T q U) (hw : ∀ i, U.way i = []) : R1 0 U := by
 obtain ⟨g1, g2, g3⟩ := calm_gl h.gl h.ok q U hc (by omega); have := r0_phi h; exact ⟨g1, g2.mono (by omega), by unfold ways; rw [hw, hw]; rfl, fun e => by omega⟩
theorem r1_turn {m : Nat} {T V : TW} (h : R1 m T) (hm : m ≤ 6) (hc : Turn T V) : R1 (m + 1) V := by
 obtain ⟨g1, g2, g3⟩ := turn_ok h.gl h.ok (by omega) (by rw [h.w]; omega) hc; refine ⟨g1, g2.mono (by omega), g3, fun _ => ?_⟩
 by_cases e : 1 ≤ m
 ·exact (js_turn (h.js e) h.gl h.ok (by omega) hc).1
 ·exact turn_first h.gl h.ok (by omega) (ways_nil h.w) hc
structure R2 (p : Pr) (i : Nat) (T : TW) : Prop where
 gl : T.Gl
 ok : T.Ok (90000 + 6000 * i)
 w : ways T ≤ 2 * (i % 20)
 js : Js T
 pr : T.pr false = p
theorem r2_start {T : TW} (h : R1 6 T) : R2 (T.pr false) 0 T := ⟨h.gl, h.ok.mono (by omega), by rw [h.w]; omega, h.js (by omega), rfl⟩
/-- behind a body that is sent -/
structure R2s (p : Pr) (i : Nat) (T : TW) : Prop where
 gl : T.Gl
 ok : T.Ok (90000 + 6000 * i + 10)
 w : ways T ≤ 2 * (i % 20) + 2
 js : Js T
 pr : T.pr false = p
theorem r2_send {p : Pr} {i : Nat} {T : TW} (h : R2 p i T) (hi : i ≤ 200) (b : Bool) : R2s p i (T.send b) := by
 obtain ⟨j1, j2⟩ := js_send h.js b; refine ⟨gl_send h.gl h.ok (by omega) b, h.ok.send (by omega) b, ?_, j1, ?_⟩
 ·have h1 := j2 false; have h2 := j2 true; have h3 := h.w; unfold ways at *; omega
 ·rw [← h.pr]; obtain ⟨e1, _⟩ := send_l T b; obtain ⟨u1, u2, u3, u4, u5, u6, u7⟩ := send_up (s := T.l b) (now := T.now b) (b := bodyN T.n b); unfold TW.pr; rw [e1]; cases b
  ·have e : atB T.l false ((T.l false).send (T.now false) (bodyN T.n false)) false = (T.l false).send (T.now false) (bodyN T.n false) := atB_same _ _ _; rw [e, u3, u5, u6, u7]
  ·have e : atB T.l true ((T.l true).send (T.now true) (bodyN T.n true)) false = T.l false := atB_not T.l true _; rw [e]
theorem r2_next {p : Pr} {i : Nat} {T : TW} (h : R2s p i T) (hi : i ≤ 200) (h19 : i % 20 ≠ 19) : R2 p (i + 1) T :=
 ⟨h.gl, h.ok.mono (by omega), by have := h.w; omega, h.js, h.pr⟩
theorem r2_turn {p : Pr} {i : Nat} {T V : TW} (h : R2s p i T) (hi : i ≤ 200) (hc : Turn T V) : R2 p (i + 1) V := by
 have hw : ways T ≤ 40 := by have := h.w; omega
 obtain ⟨g1, g2, g3⟩ := turn_ok h.gl h.ok (by omega) hw hc; obtain ⟨j1, j2, _⟩ := js_turn h.js h.gl h.ok (by omega) hc; exact ⟨g1, g2.mono (by omega), by rw [g3]; omega, j1, j2.trans h.pr⟩
structure R3 (p : Pr) (m : Nat) (T : TW) : Prop where
 gl : T.Gl
 ok : T.Ok (1300000 + 5600 * m)
 w : ways T ≤ 40
 tn : Tn m T
 pr : T.pr false = p
theorem r3_start {p : Pr} {i : Nat} {T : TW} (h : R2 p i T) (hi : i ≤ 200) : R3 p 0 T :=
 ⟨h.gl, h.ok.mono (by omega), by have := h.w; omega, ⟨h.js, fun e => by omega, fun e => by omega, fun e => by omega, fun e => by omega⟩, h.pr⟩
theorem r3_turn {p : Pr} {m : Nat} {T V : TW} (h : R3 p m T) (hm : m ≤ 28) (hc : Turn T V) : R3 p (m + 1) V := by
 obtain ⟨g1, g2, g3⟩ := turn_ok h.gl h.ok (by omega) h.w hc; obtain ⟨j1, j2⟩ := tn_turn h.tn h.gl h.ok (by omega) hc; exact ⟨g1, g2.mono (by omega), by rw [g3]; omega, j1, j2.trans h.pr⟩
/-- the maps' blocks known -/
def TwM (bs bt a0 a1 : Nat) (w0 w : World) (g : Nat) (T : TW) (Qs : List SP) : Prop := ∃ b0 b1 v0 v1 W0 W1 BB, W0.map Prod.fst = T.way false ∧ W1.map Prod.fst = T.way true ∧ (∀ x ∈ fB_ W0, x ∈ BB) ∧ (∀ x ∈ fB_ W1, x ∈ BB) ∧
 Sep w0 w (TWL g a0 a1 b0 b1 v0 v1 W0 W1 BB bs bt T Qs)
section
variable {bs bt : Nat} {w0 w : World} {g a0 a1 : Nat} {T : TW} {Qs : List SP}
theorem TwA.m (h : TwA a0 a1 w0 w g T Qs) : ∃ bs bt, TwM bs bt a0 a1 w0 w g T Qs := by
 obtain ⟨b0, b1, v0, v1, W0, W1, BB, bs, bt, q1, q2, q3, q4, h⟩ := h; exact ⟨bs, bt, b0, b1, v0, v1, W0, W1, BB, q1, q2, q3, q4, h⟩
theorem TwM.a (h : TwM bs bt a0 a1 w0 w g T Qs) : TwA a0 a1 w0 w g T Qs := by
 obtain ⟨b0, b1, v0, v1, W0, W1, BB, q1, q2, q3, q4, h⟩ := h; exact ⟨b0, b1, v0, v1, W0, W1, BB, bs, bt, q1, q2, q3, q4, h⟩
theorem TwM.grow {w' : World} (h : TwM bs bt a0 a1 w0 w g T Qs) (hb : Below w.heap.size w w') : TwM bs bt a0 a1 w0 w' g T Qs := by
 obtain ⟨b0, b1, v0, v1, W0, W1, BB, q1, q2, q3, q4, h⟩ := h; exact ⟨b0, b1, v0, v1, W0, W1, BB, q1, q2, q3, q4, h.grow hb⟩
theorem TwM.drew (h : TwM bs bt a0 a1 w0 w g T Qs) : TwM bs bt a0 a1 w0 w.drew g T Qs := h.grow (Below.refl _ _).drew
theorem TwM.m8 (h : TwM bs bt a0 a1 w0 w g T Qs) : w.cell? ⟨g, 8, none⟩ = some (.map (some bs)) := by
 obtain ⟨b0, b1, v0, v1, W0, W1, BB, q1, q2, q3, q4, h⟩ := h; exact cA (i := 0) h rfl 8 rfl
theorem TwM.m9 (h : TwM bs bt a0 a1 w0 w g T Qs) : w.cell? ⟨g, 9, none⟩ = some (.map (some bt)) := by
 obtain ⟨b0, b1, v0, v1, W0, W1, BB, q1, q2, q3, q4, h⟩ := h; exact cA (i := 0) h rfl 9 rfl
theorem TwM.look8 (h : TwM bs bt a0 a1 w0 w g T Qs) {q : Pr} (hq : prOk q) : ∃ A c, (Instr.lookup 32 (.map (some bs)) (prV q) false).run Try.prog w = .ok (.slice A (T.sent q).length c) w := by
 obtain ⟨b0, b1, v0, v1, W0, W1, BB, q1, q2, q3, q4, h⟩ := h; obtain ⟨u, h1, h2, _⟩ := sep_mapLookup (i := 8) h rfl hq; obtain ⟨A, c, rfl, _⟩ := strR_form h2; exact ⟨A, c, h1⟩
theorem TwM.look9 (h : TwM bs bt a0 a1 w0 w g T Qs) {q : Pr} (hq : prOk q) : ∃ A c, (Instr.lookup 32 (.map (some bt)) (prV q) false).run Try.prog w = .ok (.slice A (T.told q).length c) w := by
 obtain ⟨b0, b1, v0, v1, W0, W1, BB, q1, q2, q3, q4, h⟩ := h; obtain ⟨u, h1, h2, _⟩ := sep_mapLookup (i := 9) h rfl hq; obtain ⟨A, c, rfl, _⟩ := strR_form h2; exact ⟨A, c, h1⟩
end
end Go.Proofs.Ytngegjboenfmeaa
