/- side.come: a copy comes. -/
import Derived.Test.YtmjlehofjholaaaSideD
namespace Go.Proofs.Ytmjlehofjholaaa
open Go Go.RowKit Go.Shelf
set_option linter.unusedVariables false
set_option maxRecDepth 100000
attribute [local go_sem] Oper.semAt_some

section
variable {w w' : World} {base e size n g i : Nat} {v z a b c d e' f : Value} {xs : List Value} {L : List (List UInt8)}
theorem row_setG (h : w.ownsRow base e size v n xs) (hs : Six w g a b c d e' f) (hne : e ≠ 55) : (w.setCell ⟨g, i, none⟩ z).ownsRow base e size v n xs :=
  row_grown h (grown_set w g i z) fun k hk hv => by
    obtain ⟨_, _, cur, hcur⟩ := row_lt h hv
    injection hk with hk
    exact kind_ne hcur hs hne hk.symm
theorem OwnB.setG (h : OwnB w base v L) (hs : Six w g a b c d e' f) : OwnB (w.setCell ⟨g, i, none⟩ z) base v L :=
  h.grown (grown_set w g i z) fun k hk => by
    injection hk with hk
    subst hk
    exact ⟨_, _, hs, by decide, by decide⟩
end
section
variable {B0 : Nat} {w w' : World} {g : Nat} {s : St} {vB vP vT vW : Value}
theorem SideAt.lt (h : SideAt B0 w g s vB vP vT vW) : g < w.heap.size := h.six.lt
theorem SideAt.setGot (h : SideAt B0 w g s vB vP vT vW) (x : Nat) : SideAt B0 (w.setCell ⟨g, 2, none⟩ (.int .u64 (x : Int))) g { s with got := x } vB vP vT vW :=
  ⟨h.hg, h.six.set2 _, h.box.setG h.six, row_setG h.ps h.six (by decide), row_setG h.ts h.six (by decide), row_setG h.ws h.six (by decide), h.ap⟩
theorem SideAt.setS {u : Value} {L : List (List UInt8)} (h : SideAt B0 w g s vB vP vT vW) (x : Nat) (hu : OwnB w B0 u L) : SideAt B0 ((w.setCell ⟨g, 0, none⟩ (.int .u64 (x : Int))).setCell ⟨g, 1, none⟩ u) g { s with base := x, box := L } u vP vT vW :=
  ⟨h.hg, (h.six.set0 _).set1 _, (hu.setG h.six).setG (h.six.set0 _), row_setG (row_setG h.ps h.six (by decide)) (h.six.set0 _) (by decide), row_setG (row_setG h.ts h.six (by decide)) (h.six.set0 _) (by decide), row_setG (row_setG h.ws h.six (by decide)) (h.six.set0 _) (by decide), h.ap⟩
theorem SideAt.setW {u : Value} {l : List Cp} (h : SideAt B0 w g s vB vP vT vW) (hu : CpRow w B0 u l) : SideAt B0 (w.setCell ⟨g, 5, none⟩ u) g { s with way := l } vB vP vT u :=
  ⟨h.hg, h.six.set5 _, h.box.setG h.six, row_setG h.ps h.six (by decide), row_setG h.ts h.six (by decide), row_setG hu h.six (by decide), h.ap⟩
/-- a row of texts has grown by an append: all else stands -/
theorem six_grown {a b c d e f : Value} {row : Option Nat} {t : TypeId} (h : Six w g a b c d e f) (hg : w.grownBy w' row) (hr : ∀ k, row = some k → ∃ cur, w.heap[k]? = some (.cells cur t (0, 0))) (hne : t ≠ 55) : Six w' g a b c d e f :=
  (hg.block g h.lt fun e => by
    obtain ⟨cur, hcur⟩ := hr g e.symm
    exact kind_ne hcur h hne rfl).trans h
theorem SideAt.appT {u : Value} {l : List (List UInt8)} (h : SideAt B0 w g s vB vP vT vW) (hg : w.grownBy w' vT.ownBlock) (hu : StrRow w' B0 u l) (hap : u.ownBlock = vT.ownBlock ∨ u.ownBlock = some w.heap.size) : SideAt B0 w' g s vB vP vT vW ∨ True → SideAt B0 (w'.setCell ⟨g, 4, none⟩ u) g { s with taken := l } vB vP u vW := fun _ => by
  have hr : ∀ k, vT.ownBlock = some k → ∃ cur, w.heap[k]? = some (.cells cur 9 (0, 0)) := fun k hk => (row_lt h.ts hk).2.2
  have h6 := six_grown h.six hg hr (by decide)
  have hb : OwnB w' B0 vB s.box := h.box.grown hg fun k hk => by
    obtain ⟨cur, hcur⟩ := hr k hk
    exact ⟨cur, _, hcur, by decide, by decide⟩
  have hp : StrRow w' B0 vP s.pushed := row_grown h.ps hg fun k hk hv => h.ap k hv hk
  have hw : CpRow w' B0 vW s.way := row_grown h.ws hg fun k hk hv => by
    obtain ⟨_, _, cur, hcur⟩ := row_lt h.ws hv
    obtain ⟨cur2, hcur2⟩ := hr k hk
    exact kind_ne hcur hcur2 (by decide) rfl
  refine ⟨h.hg, h6.set4 _, hb.setG h6, row_setG hp h6 (by decide), row_setG hu h6 (by decide), row_setG hw h6 (by decide), fun k hk e => ?_⟩
  rcases hap with e2 | e2
  · exact h.ap k hk (e2 ▸ e)
  · rw [e2] at e
    injection e with e
    have := (row_lt h.ps hk).2.1
    omega
theorem SideAt.appP {u : Value} {l : List (List UInt8)} (h : SideAt B0 w g s vB vP vT vW) (hg : w.grownBy w' vP.ownBlock) (hu : StrRow w' B0 u l) (hap : u.ownBlock = vP.ownBlock ∨ u.ownBlock = some w.heap.size) : SideAt B0 (w'.setCell ⟨g, 3, none⟩ u) g { s with pushed := l } vB u vT vW := by
  have hr : ∀ k, vP.ownBlock = some k → ∃ cur, w.heap[k]? = some (.cells cur 9 (0, 0)) := fun k hk => (row_lt h.ps hk).2.2
  have h6 := six_grown h.six hg hr (by decide)
  have hb : OwnB w' B0 vB s.box := h.box.grown hg fun k hk => by
    obtain ⟨cur, hcur⟩ := hr k hk
    exact ⟨cur, _, hcur, by decide, by decide⟩
  have hp : StrRow w' B0 vT s.taken := row_grown h.ts hg fun k hk hv => h.ap k hk hv
  have hw : CpRow w' B0 vW s.way := row_grown h.ws hg fun k hk hv => by
    obtain ⟨_, _, cur, hcur⟩ := row_lt h.ws hv
    obtain ⟨cur2, hcur2⟩ := hr k hk
    exact kind_ne hcur hcur2 (by decide) rfl
  refine ⟨h.hg, h6.set3 _, hb.setG h6, row_setG hu h6 (by decide), row_setG hp h6 (by decide), row_setG hw h6 (by decide), fun k hk e => ?_⟩
  rcases hap with e2 | e2
  · exact h.ap k (e2 ▸ hk) e
  · rw [e2] at hk
    injection hk with hk
    have := (row_lt h.ts e).2.1
    omega
theorem SideAt.appW {u : Value} {l : List Cp} (h : SideAt B0 w g s vB vP vT vW) (hg : w.grownBy w' vW.ownBlock) (hu : CpRow w' B0 u l) : SideAt B0 (w'.setCell ⟨g, 5, none⟩ u) g { s with way := l } vB vP vT u := by
  have hr : ∀ k, vW.ownBlock = some k → ∃ cur, w.heap[k]? = some (.cells cur 62 (0, 0)) := fun k hk => (row_lt h.ws hk).2.2
  have h6 := six_grown h.six hg hr (by decide)
  have hb : OwnB w' B0 vB s.box := h.box.grown hg fun k hk => by
    obtain ⟨cur, hcur⟩ := hr k hk
    exact ⟨cur, _, hcur, by decide, by decide⟩
  have key : ∀ (v : Value) (l : List (List UInt8)), StrRow w B0 v l → StrRow w' B0 v l := fun v l hv => row_grown hv hg fun k hk hv2 => by
    obtain ⟨_, _, cur, hcur⟩ := row_lt hv hv2
    obtain ⟨cur2, hcur2⟩ := hr k hk
    exact kind_ne hcur hcur2 (by decide) rfl
  exact ⟨h.hg, h6.set5 _, hb.setG h6, row_setG (key _ _ h.ps) h6 (by decide), row_setG (key _ _ h.ts) h6 (by decide), row_setG hu h6 (by decide), h.ap⟩
end
def OneS (b : List UInt8) (v : Value) (w : World) : Prop := ∃ A c, v = .slice A 1 c ∧ Has w w.heap.size A (strs [b])
theorem OneS.new (w : World) (b : List UInt8) : OneS b (.slice (some ⟨w.heap.size, 0, none⟩) 1 1) (w.alloc (.cells #[.string ⟨b.toArray⟩] 9)) := ⟨_, 1, rfl, by have := has_new w #[.string ⟨b.toArray⟩] 9; rw [World.size_alloc]; exact this⟩

/-- blocks of copies stay as they are -/
def KeepC (w w' : World) : Prop := ∀ (k : Nat) (cur : Array Value), w.heap[k]? = some (.cells cur 62 (0, 0)) → w'.heap[k]? = w.heap[k]?
theorem KeepC.trans {A B C : World} (h : KeepC A B) (h2 : KeepC B C) : KeepC A C := fun k cur hk => (h2 k cur ((h k cur hk).trans hk)).trans (h k cur hk)
theorem KeepC.of_below {A B : World} (h : Below A.heap.size A B) : KeepC A B := fun k cur hk => h.block k (Array.getElem?_eq_some_iff.1 hk).1
theorem KeepC.grown {A B : World} {row : Option Nat} {t : TypeId} (hg : A.grownBy B row) (hr : ∀ k, row = some k → ∃ cur, A.heap[k]? = some (.cells cur t (0, 0))) (hne : t ≠ 62) : KeepC A B := fun k cur hk =>
  hg.block k (Array.getElem?_eq_some_iff.1 hk).1 fun e => by
    obtain ⟨cur2, hcur⟩ := hr k e.symm
    exact kind_ne hcur hk hne rfl
theorem KeepC.setG {A : World} {g i : Nat} {z a b c d e f : Value} (h : Six A g a b c d e f) : KeepC A (A.setCell ⟨g, i, none⟩ z) :=
  KeepC.grown (t := 55) (grown_set A g i z) (fun k hk => by injection hk with hk; subst hk; exact ⟨_, h⟩) (by decide)
theorem CpRow.keepC {A B : World} {base : Nat} {v : Value} {l : List Cp} (h : CpRow A base v l) (hk : KeepC A B) : CpRow B base v l := row_same h fun k hv => by
  obtain ⟨_, _, cur, hcur⟩ := row_lt h hv
  exact hk k cur hcur

/-- 'r, ok := Take(x.r, c.seq)': how far it has come -/
def PJ (W0 : World) (val : Value) (d10 : Bool) (x10 : Value) (d11 : Bool) (W : World) : Prop :=
  Below W0.heap.size W0 W ∧ (d10 = true → ∃ p, x10 = .pointer (some ⟨p, 0, none⟩) ∧ W0.heap.size ≤ p ∧ ∃ u, Boxed W p 45 u ∧ (d11 = true → u = val))
theorem PJ.call {W0 : World} {val x10 : Value} {d10 : Bool} {W W' : World} (h : PJ W0 val d10 x10 false W) (hb : Below W.heap.size W W') : PJ W0 val d10 x10 false W' := by
  refine ⟨h.1.trans (hb.mono h.1.size), fun hd => ?_⟩
  obtain ⟨p, e, h1, u, h2, h3⟩ := h.2 hd
  exact ⟨p, e, h1, u, (hb.block p h2.lt).trans h2, fun h => by cases h⟩
theorem PJ.alloc {W0 : World} {val x10 : Value} {W : World} (h : PJ W0 val false x10 false W) : PJ W0 val true (.pointer (some ⟨W.heap.size, 0, none⟩)) false (W.alloc (.cells #[.int .u64 0] 45)) :=
  ⟨h.1.trans (((Below.refl _ _).alloc (Nat.le_refl _) _).mono h.1.size), fun _ => ⟨_, rfl, h.1.size, _, Boxed.new W _ _, fun h => by cases h⟩⟩
theorem PJ.store {W0 : World} {val : Value} {p : Nat} {W : World} (h : PJ W0 val true (.pointer (some ⟨p, 0, none⟩)) false W) : PJ W0 val true (.pointer (some ⟨p, 0, none⟩)) true (W.setCell ⟨p, 0, none⟩ val) := by
  obtain ⟨p', e, h1, u, h2, h3⟩ := h.2 rfl
  obtain rfl : p = p' := by simpa using e
  exact ⟨h.1.setCell h1 _, fun _ => ⟨p, rfl, h1, val, h2.set _, fun _ => rfl⟩⟩

set_option maxHeartbeats 2000000 in
theorem come_any (B0 : Nat) (w : World) (g : Nat) (s : St) (vB vP vT vW : Value) (hs : SideAt B0 w g s vB vP vT vW) (hB : B0 ≤ w.heap.size) (m : Nat) (bd : List UInt8) (hgt : s.got < 18446744073709551616) (hm : m < 18446744073709551616) (htl : s.taken.length ≤ 1000) :
    Calls Try.prog 27 #[.pointer (some ⟨g, 0, none⟩), .agg #[.int .u64 (m : Int), .string ⟨bd.toArray⟩]] w fun e w' => e = .returned (.tuple #[]) ∧ (∃ vT', SideAt B0 w' g (s.come (m, bd)) vB vP vT' vW) ∧ Below B0 w w' ∧ KeepC w w' := by
  obtain ⟨W0, HW⟩ : ∃ W, Hid (W = w.alloc (.cells #[.int .u64 (m : Int), .string ⟨bd.toArray⟩] 62)) := ⟨_, Lib.hid rfl⟩
  have hbW : Below w.heap.size w W0 := by rw [HW.out]; exact (Below.refl _ w).alloc (Nat.le_refl _) _
  have hzW : w.heap.size + 1 ≤ W0.heap.size := by rw [HW.out]; simp
  have kc : W0.heap[w.heap.size]? = some (.cells #[.int .u64 (m : Int), .string ⟨bd.toArray⟩] 62 (0, 0)) := by rw [HW.out]; exact World.alloc_heap_new w _
  have hc0 : ∀ W, Below W0.heap.size W0 W → W.cell? ⟨w.heap.size, 0, none⟩ = some (.int .u64 (m : Int)) := fun W hb => (hb.cell (p := ⟨w.heap.size, 0, none⟩) (show w.heap.size < W0.heap.size by omega)).trans (by simp [World.cell?, kc])
  have hc1 : ∀ W B, Below B W0 W → w.heap.size < B → W.cell? ⟨w.heap.size, 1, none⟩ = some (.string ⟨bd.toArray⟩) := fun W B hb hl => (hb.cell (p := ⟨w.heap.size, 1, none⟩) (show w.heap.size < B by omega)).trans (by simp [World.cell?, kc])
  have HC0 := Lib.hid hc0
  have HC1 := Lib.hid hc1
  have hs0 := hs.below hbW
  have hgl := hs0.lt
  have hgw := hs.lt
  have HS := Lib.hid hs0
  obtain ⟨tv, HV⟩ : ∃ v, Hid (takeV s.got m = v) := ⟨_, Lib.hid rfl⟩
  obtain ⟨b, HBB⟩ : ∃ b, Hid (takeB s.got m = b) := ⟨_, Lib.hid rfl⟩
  have HT : Hid (TakeRes s.got m = .tuple #[.agg #[.int .u64 (tv : Int)], .bool b]) := Lib.hid (by rw [← HV.out, ← HBB.out]; rfl)
  clear hs hs0 kc hc0 hc1
  go_enter Try.func27, Try.ntmps27
  go_wp2_with fail
  rw [← HW.out]
  refine wp_region_f (fun dn xv W => PJ W0 (.int .u64 (tv : Int)) (dn 10) (xv 10) (dn 11) W) (fun _ _ => True) [fun v _ => v = .pointer (some ⟨g, 0, none⟩), fun v _ => v = .pointer (some ⟨g, 0, none⟩), fun v _ => v = .pointer (some ⟨g, 2, none⟩), fun v _ => v = .agg #[.int .u64 (s.got : Int)], fun v _ => v = .pointer (some ⟨w.heap.size, 0, none⟩), fun v _ => v = .int .u64 (m : Int), fun v _ => v = .tuple #[.agg #[.int .u64 (tv : Int)], .bool b], fun v _ => v = .tuple #[.agg #[.int .u64 (tv : Int)], .bool b], fun v _ => v = .agg #[.int .u64 (tv : Int)], fun v _ => v = .bool b, fun v _ => True, fun v _ => True, fun v _ => v = .bool b] (by kernel_rfl) (by kernel_rfl) (by kernel_rfl) (by kernel_rfl) (fun xv => by simpa using (show PJ W0 (.int .u64 (tv : Int)) false (xv 10) false W0.drew from ⟨(Below.refl _ W0).drew, (fun h => by cases h)⟩))
    (by exact ⟨fun _ _ _ _ h => h, fun _ _ _ _ h => h, fun _ _ _ _ h => h, fun _ _ _ _ h => h, fun _ _ _ _ h => h, fun _ _ _ _ h => h, fun _ _ _ _ h => h, fun _ _ _ _ h => h, fun _ _ _ _ h => h, fun _ _ _ _ h => h, fun _ _ _ _ h => h, fun _ _ _ _ h => h, fun _ _ _ _ h => h, trivial⟩) ?_ ?_
  · refine EachF.cons 1 rfl (fun dn xv W F hF hd hN hX hI H K hK => ?_) ?_
    · have f0 : F.tmps.getD 0 undef = .pointer (some ⟨g, 0, none⟩) := (hF 0).trans (by kernel_rfl)
      clear H hN hd hX hF
      refine on_plain rfl ?_
      go_simp
      exact hK.out _ _ rfl trivial (by simpa [upB, upd] using hI)
    refine EachF.cons 2 rfl (fun dn xv W F hF hd hN hX hI H K hK => ?_) ?_
    · have h0 : xv 0 = .pointer (some ⟨g, 0, none⟩) := (H 0 (.edge (by kernel_rfl))).2
      have f7 : F.tmps.getD 7 undef = .pointer (some ⟨g, 0, none⟩) := (hF 7).trans (Eq.trans (by kernel_rfl) h0)
      clear H hN hd hX hF
      refine on_plain rfl ?_
      go_simp
      exact hK.out _ _ rfl trivial (by simpa [upB, upd] using hI)
    refine EachF.cons 3 rfl (fun dn xv W F hF hd hN hX hI H K hK => ?_) ?_
    · have h1 : xv 1 = .pointer (some ⟨g, 0, none⟩) := (H 1 (.edge (by kernel_rfl))).2
      have f8 : F.tmps.getD 8 undef = .pointer (some ⟨g, 0, none⟩) := (hF 8).trans (Eq.trans (by kernel_rfl) h1)
      clear H hN hd hX hF
      refine on_plain rfl ?_
      go_simp
      exact hK.out _ _ rfl trivial (by simpa [upB, upd] using hI)
    refine EachF.cons 4 rfl (fun dn xv W F hF hd hN hX hI H K hK => ?_) ?_
    · have h2 : xv 2 = .pointer (some ⟨g, 2, none⟩) := (H 2 (.edge (by kernel_rfl))).2
      have f9 : F.tmps.getD 9 undef = .pointer (some ⟨g, 2, none⟩) := (hF 9).trans (Eq.trans (by kernel_rfl) h2)
      have hc2 := (HS.out.six.below hI.1 hgl).c2
      clear H hN hd hX hF
      refine on_plain rfl ?_
      go_simp
      exact hK.out _ _ rfl trivial (by simpa [upB, upd] using hI)
    refine EachF.cons 5 rfl (fun dn xv W F hF hd hN hX hI H K hK => ?_) ?_
    · have f3 : F.tmps.getD 3 undef = .pointer (some ⟨w.heap.size, 0, none⟩) := (hF 3).trans (by kernel_rfl)
      clear H hN hd hX hF
      refine on_plain rfl ?_
      go_simp
      exact hK.out _ _ rfl trivial (by simpa [upB, upd] using hI)
    refine EachF.cons 6 rfl (fun dn xv W F hF hd hN hX hI H K hK => ?_) ?_
    · have h4 : xv 4 = .pointer (some ⟨w.heap.size, 0, none⟩) := (H 4 (.edge (by kernel_rfl))).2
      have f11 : F.tmps.getD 11 undef = .pointer (some ⟨w.heap.size, 0, none⟩) := (hF 11).trans (Eq.trans (by kernel_rfl) h4)
      have hc3 := HC0.out W hI.1
      clear H hN hd hX hF
      refine on_plain rfl ?_
      go_simp
      exact hK.out _ _ rfl trivial (by simpa [upB, upd] using hI)
    refine EachF.cons 7 rfl (fun dn xv W F hF hd hN hX hI H K hK => ?_) ?_
    · have h3 : xv 3 = .agg #[.int .u64 (s.got : Int)] := (H 3 (.edge (by kernel_rfl))).2
      have f10 : F.tmps.getD 10 undef = .agg #[.int .u64 (s.got : Int)] := (hF 10).trans (Eq.trans (by kernel_rfl) h3)
      have h5 : xv 5 = .int .u64 (m : Int) := (H 5 (.edge (by kernel_rfl))).2
      have f12 : F.tmps.getD 12 undef = .int .u64 (m : Int) := (hF 12).trans (Eq.trans (by kernel_rfl) h5)
      have h11 := hN 11 (.edge (by kernel_rfl))
      rw [h11] at hI
      clear H hN hd hX hF
      refine on_plain rfl ?_
      go_simp
      refine (take_any W s.got m hgt hm).mono ?_
      rintro e W' ⟨rfl, hb⟩
      rw [HT.out]
      have hs := hI.call hb
      exact hK.out _ W' rfl trivial (by simpa [upB, upd, h11] using hs)
    refine EachF.cons 8 rfl (fun dn xv W F hF hd hN hX hI H K hK => ?_) ?_
    · have h6 : xv 6 = .tuple #[.agg #[.int .u64 (tv : Int)], .bool b] := (H 6 (.edge (by kernel_rfl))).2
      have f13 : F.tmps.getD 13 undef = .tuple #[.agg #[.int .u64 (tv : Int)], .bool b] := (hF 13).trans (Eq.trans (by kernel_rfl) h6)
      clear H hN hd hX hF
      refine on_plain rfl ?_
      go_simp
      exact hK.out _ _ rfl trivial (by simpa [upB, upd] using hI)
    refine EachF.cons 9 rfl (fun dn xv W F hF hd hN hX hI H K hK => ?_) ?_
    · have h7 : xv 7 = .tuple #[.agg #[.int .u64 (tv : Int)], .bool b] := (H 7 (.edge (by kernel_rfl))).2
      have f6 : F.tmps.getD 6 undef = .tuple #[.agg #[.int .u64 (tv : Int)], .bool b] := (hF 6).trans (Eq.trans (by kernel_rfl) h7)
      clear H hN hd hX hF
      refine on_plain rfl ?_
      go_simp
      exact hK.out _ _ rfl trivial (by simpa [upB, upd] using hI)
    refine EachF.cons 10 rfl (fun dn xv W F hF hd hN hX hI H K hK => ?_) ?_
    · have h7 : xv 7 = .tuple #[.agg #[.int .u64 (tv : Int)], .bool b] := (H 7 (.edge (by kernel_rfl))).2
      have f6 : F.tmps.getD 6 undef = .tuple #[.agg #[.int .u64 (tv : Int)], .bool b] := (hF 6).trans (Eq.trans (by kernel_rfl) h7)
      clear H hN hd hX hF
      refine on_plain rfl ?_
      go_simp
      exact hK.out _ _ rfl trivial (by simpa [upB, upd] using hI)
    refine EachF.cons 11 rfl (fun dn xv W F hF hd hN hX hI H K hK => ?_) ?_
    · have h11 := hN 11 (.edge (by kernel_rfl))
      rw [hd, h11] at hI
      clear H hN hd hX hF
      refine on_plain rfl ?_
      go_simp
      have hs := hI.alloc
      exact hK.out _ _ trivial trivial (by simpa [upB, upd, h11] using hs)
    refine EachF.cons 12 rfl (fun dn xv W F hF hd hN hX hI H K hK => ?_) ?_
    · have h10 := (H 10 (.edge (by kernel_rfl))).2
      simp only [Dl] at h10
      have f4 : F.tmps.getD 4 undef = xv 10 := (hF 4).trans (by kernel_rfl)
      have h8 : xv 8 = .agg #[.int .u64 (tv : Int)] := (H 8 (.edge (by kernel_rfl))).2
      have f14 : F.tmps.getD 14 undef = .agg #[.int .u64 (tv : Int)] := (hF 14).trans (Eq.trans (by kernel_rfl) h8)
      have d10 : dn 10 = true := (H 10 (.edge (by kernel_rfl))).1
      rw [hd, d10] at hI
      obtain ⟨p, e4, g1, u, t, _⟩ := hI.2 rfl
      have f4x := f4.trans e4
      have hI2 := hI
      rw [e4] at hI2
      have hs := hI2.store
      have hc0 := t.cell
      have hf0 := t.frozen
      clear f4
      clear H hN hd hX hF
      refine on_plain rfl ?_
      go_simp
      exact hK.out undef _ trivial trivial (by simpa [upB, upd, d10, e4] using hs)
    refine EachF.cons 13 rfl (fun dn xv W F hF hd hN hX hI H K hK => ?_) ?_
    · have h9 : xv 9 = .bool b := (H 9 (.edge (by kernel_rfl))).2
      have f15 : F.tmps.getD 15 undef = .bool b := (hF 15).trans (Eq.trans (by kernel_rfl) h9)
      clear H hN hd hX hF
      refine on_plain rfl ?_
      go_simp
      exact hK.out _ _ rfl trivial (by simpa [upB, upd] using hI)
    exact EachF.nil
  · intro dn xv W hI H
    have q12 : xv 12 = .bool b := (H 12 (of_decide_eq_true (by kernel_rfl))).2
    have hS : PJ W0 (.int .u64 (tv : Int)) (dn 10) (xv 10) (dn 11) W := hI
    rw [(H 10 (of_decide_eq_true (by kernel_rfl))).1, (H 11 (of_decide_eq_true (by kernel_rfl))).1] at hS
    clear H hI
    simp only [putAll, Act.put, List.setIfInBounds_toArray, List.set_cons_zero, List.set_cons_succ, Nat.reduceAdd, q12]
    clear q12
    obtain ⟨hb1, h2⟩ := hS
    obtain ⟨p, ex, hp1, u, hbx, hu⟩ := h2 rfl
    obtain rfl := hu rfl
    simp only [ex]
    clear ex h2 hu
    have hs1 := HS.out.below hb1
    have n1 := hbx.cell
    have n2 := hs1.six.c2
    have n3 := hs1.six.fz 2
    have HS1 := Lib.hid hs1
    have hz1 := hb1.size
    clear hs1
    obtain ⟨wr, HWR⟩ : ∃ W', Hid (W' = W.setCell ⟨g, 2, none⟩ (.int .u64 (tv : Int))) := ⟨_, Lib.hid rfl⟩
    have hs2 := HS1.out.setGot tv
    rw [← HWR.out] at hs2
    have hBr : Below B0 w wr := by rw [HWR.out]; exact ((hbW.trans (hb1.mono (by omega))).mono hB).setCell HS1.out.hg _
    have hzr : wr.heap.size = W.heap.size := by rw [HWR.out]; simp
    have hKr : KeepC w wr := by rw [HWR.out]; exact ((KeepC.of_below hbW).trans (KeepC.of_below hb1)).trans (KeepC.setG HS1.out.six)
    have hB0r : B0 ≤ wr.heap.size := by omega
    have hcs : wr.cell? ⟨w.heap.size, 1, none⟩ = some (.string ⟨bd.toArray⟩) := by
      rw [HWR.out]
      refine (World.cell?_of_block (Below.heap_setCell W ⟨g, 2, none⟩ (.int .u64 (tv : Int)) w.heap.size (by simp; omega))).trans (HC1.out W _ hb1 (by omega))
    cases b with
    | false =>
      go_wp2_with fail
      go_end0
      rw [← HWR.out]
      refine ⟨rfl, ⟨vT, ?_⟩, hBr, hKr⟩
      have : s.come (m, bd) = { s with got := tv } := by simp [St.come, HBB.out, HV.out]
      rw [this]
      exact hs2
    | true =>
      have HS2 := Lib.hid hs2
      obtain ⟨At, ct, rfl, _, _, _⟩ := row_form hs2.ts
      have hwl : w.heap.size < wr.heap.size := by omega
      clear hs2
      go_wp2_with fail
      rw [← HWR.out]
      clear n1 n2 n3
      have hbel : ∀ (dn : Nat → Bool) (xv : Nat → Value) (W : World), (if dn 11 = true then SideAt B0 W g { s with got := tv, taken := s.taken ++ [bd] } vB vP (xv 8) vW ∧ Below B0 wr W ∧ KeepC wr W else if dn 8 = true then ∃ Wm, Below wr.heap.size wr Wm ∧ Wm.grownBy W (Value.slice At s.taken.length ct).ownBlock ∧ StrRow W B0 (xv 8) (s.taken ++ [bd]) ∧ ((xv 8).ownBlock = (Value.slice At s.taken.length ct).ownBlock ∨ (xv 8).ownBlock = some Wm.heap.size) else if dn 7 = true then Below wr.heap.size wr W ∧ OneS bd (xv 7) W else Below wr.heap.size wr W) → dn 8 = false → dn 11 = false → Below wr.heap.size wr W := fun dn xv W h h8 h0 => by
        rw [if_neg (by simp [h0]), if_neg (by simp [h8])] at h
        split at h
        · exact h.1
        exact h
      refine wp_region_f (fun dn xv W => if dn 11 = true then SideAt B0 W g { s with got := tv, taken := s.taken ++ [bd] } vB vP (xv 8) vW ∧ Below B0 wr W ∧ KeepC wr W else if dn 8 = true then ∃ Wm, Below wr.heap.size wr Wm ∧ Wm.grownBy W (Value.slice At s.taken.length ct).ownBlock ∧ StrRow W B0 (xv 8) (s.taken ++ [bd]) ∧ ((xv 8).ownBlock = (Value.slice At s.taken.length ct).ownBlock ∨ (xv 8).ownBlock = some Wm.heap.size) else if dn 7 = true then Below wr.heap.size wr W ∧ OneS bd (xv 7) W else Below wr.heap.size wr W) (fun _ _ => True) [fun v _ => v = .pointer (some ⟨g, 0, none⟩), fun v _ => v = .pointer (some ⟨g, 0, none⟩), fun v _ => v = .pointer (some ⟨g, 0, none⟩), fun v _ => v = .pointer (some ⟨g, 4, none⟩), fun v _ => v = .slice At s.taken.length ct, fun v _ => v = .pointer (some ⟨w.heap.size, 1, none⟩), fun v _ => v = .string ⟨bd.toArray⟩, fun v _ => True, fun v _ => True, fun v _ => v = .pointer (some ⟨g, 0, none⟩), fun v _ => v = .pointer (some ⟨g, 4, none⟩), fun v _ => True] (by kernel_rfl) (by kernel_rfl) (by kernel_rfl) (by kernel_rfl) (fun xv => by simpa using (Below.refl _ wr).drew)
        (by exact ⟨fun _ _ _ _ h => h, fun _ _ _ _ h => h, fun _ _ _ _ h => h, fun _ _ _ _ h => h, fun _ _ _ _ h => h, fun _ _ _ _ h => h, fun _ _ _ _ h => h, fun _ _ _ _ h => h, fun _ _ _ _ h => h, fun _ _ _ _ h => h, fun _ _ _ _ h => h, fun _ _ _ _ h => h, trivial⟩) ?_ ?_
      · refine EachF.cons 1 rfl (fun dn xv W F hF hd hN hX hI H K hK => ?_) ?_
        · have f0 : F.tmps.getD 0 undef = .pointer (some ⟨g, 0, none⟩) := (hF 0).trans (by kernel_rfl)
          clear H hN hd hX hF
          refine on_plain rfl ?_
          go_simp
          exact hK.out _ _ rfl trivial (by simpa [upB, upd] using hI)
        refine EachF.cons 2 rfl (fun dn xv W F hF hd hN hX hI H K hK => ?_) ?_
        · have f0 : F.tmps.getD 0 undef = .pointer (some ⟨g, 0, none⟩) := (hF 0).trans (by kernel_rfl)
          clear H hN hd hX hF
          refine on_plain rfl ?_
          go_simp
          exact hK.out _ _ rfl trivial (by simpa [upB, upd] using hI)
        refine EachF.cons 3 rfl (fun dn xv W F hF hd hN hX hI H K hK => ?_) ?_
        · have h1 : xv 1 = .pointer (some ⟨g, 0, none⟩) := (H 1 (.edge (by kernel_rfl))).2
          have f22 : F.tmps.getD 22 undef = .pointer (some ⟨g, 0, none⟩) := (hF 22).trans (Eq.trans (by kernel_rfl) h1)
          clear H hN hd hX hF
          refine on_plain rfl ?_
          go_simp
          exact hK.out _ _ rfl trivial (by simpa [upB, upd] using hI)
        refine EachF.cons 4 rfl (fun dn xv W F hF hd hN hX hI H K hK => ?_) ?_
        · have h2 : xv 2 = .pointer (some ⟨g, 0, none⟩) := (H 2 (.edge (by kernel_rfl))).2
          have f23 : F.tmps.getD 23 undef = .pointer (some ⟨g, 0, none⟩) := (hF 23).trans (Eq.trans (by kernel_rfl) h2)
          clear H hN hd hX hF
          refine on_plain rfl ?_
          go_simp
          exact hK.out _ _ rfl trivial (by simpa [upB, upd] using hI)
        refine EachF.cons 5 rfl (fun dn xv W F hF hd hN hX hI H K hK => ?_) ?_
        · have h3 : xv 3 = .pointer (some ⟨g, 4, none⟩) := (H 3 (.edge (by kernel_rfl))).2
          have f24 : F.tmps.getD 24 undef = .pointer (some ⟨g, 4, none⟩) := (hF 24).trans (Eq.trans (by kernel_rfl) h3)
          have hb0 := hbel dn xv W hI (hN 8 (.edge (by kernel_rfl))) (hN 11 (.more (j := 8) (by kernel_rfl) (.edge (by kernel_rfl))))
          have hc4 := (HS2.out.six.below hb0 HS2.out.lt).c4
          clear H hN hd hX hF
          refine on_plain rfl ?_
          go_simp
          exact hK.out _ _ rfl trivial (by simpa [upB, upd] using hI)
        refine EachF.cons 6 rfl (fun dn xv W F hF hd hN hX hI H K hK => ?_) ?_
        · have f3 : F.tmps.getD 3 undef = .pointer (some ⟨w.heap.size, 0, none⟩) := (hF 3).trans (by kernel_rfl)
          clear H hN hd hX hF
          refine on_plain rfl ?_
          go_simp
          exact hK.out _ _ rfl trivial (by simpa [upB, upd] using hI)
        refine EachF.cons 7 rfl (fun dn xv W F hF hd hN hX hI H K hK => ?_) ?_
        · have h5 : xv 5 = .pointer (some ⟨w.heap.size, 1, none⟩) := (H 5 (.edge (by kernel_rfl))).2
          have f26 : F.tmps.getD 26 undef = .pointer (some ⟨w.heap.size, 1, none⟩) := (hF 26).trans (Eq.trans (by kernel_rfl) h5)
          have hb0 := hbel dn xv W hI (hN 8 (.more (j := 7) (by kernel_rfl) (.edge (by kernel_rfl)))) (hN 11 (.more (j := 8) (by kernel_rfl) (.more (j := 7) (by kernel_rfl) (.edge (by kernel_rfl)))))
          have hc4 := (hb0.cell (p := ⟨w.heap.size, 1, none⟩) hwl).trans hcs
          clear H hN hd hX hF
          refine on_plain rfl ?_
          go_simp
          exact hK.out _ _ rfl trivial (by simpa [upB, upd] using hI)
        refine EachF.cons 8 rfl (fun dn xv W F hF hd hN hX hI H K hK => ?_) ?_
        · have h6 : xv 6 = .string ⟨bd.toArray⟩ := (H 6 (.edge (by kernel_rfl))).2
          have f27 : F.tmps.getD 27 undef = .string ⟨bd.toArray⟩ := (hF 27).trans (Eq.trans (by kernel_rfl) h6)
          have q8 : dn 8 = false := hN 8 (.edge (by kernel_rfl))
          have q11 : dn 11 = false := hN 11 (.more (j := 8) (by kernel_rfl) (.edge (by kernel_rfl)))
          have hS : Below wr.heap.size wr W := by simpa [hd, q8, q11] using hI
          clear hI hN hd hX hF H
          refine on_plain rfl ?_
          have g27 := f27
          rw [Array.getD_eq_getD_getElem?] at g27
          go_simp
          have hb : Below W.heap.size W (W.alloc (.cells #[.string ⟨bd.toArray⟩] 9)) := (Below.refl _ _).alloc (Nat.le_refl _) _
          have hs : Below wr.heap.size wr (W.alloc (.cells #[.string ⟨bd.toArray⟩] 9)) ∧ OneS bd (.slice (some ⟨W.heap.size, 0, none⟩) 1 1) (W.alloc (.cells #[.string ⟨bd.toArray⟩] 9)) := ⟨hS.trans (hb.mono hS.size), OneS.new W bd⟩
          exact hK.out _ _ trivial trivial (by simpa [upB, upd, q8, q11] using hs)
        refine EachF.cons 9 rfl (fun dn xv W F hF hd hN hX hI H K hK => ?_) ?_
        · have h4 : xv 4 = .slice At s.taken.length ct := (H 4 (.edge (by kernel_rfl))).2
          have f25 : F.tmps.getD 25 undef = .slice At s.taken.length ct := (hF 25).trans (Eq.trans (by kernel_rfl) h4)
          have h7 := (H 7 (.edge (by kernel_rfl))).2
          simp only [Dl] at h7
          have f28 : F.tmps.getD 28 undef = xv 7 := (hF 28).trans (by kernel_rfl)
          have q7 : dn 7 = true := (H 7 (.edge (by kernel_rfl))).1
          have q11 : dn 11 = false := hN 11 (.edge (by kernel_rfl))
          have hS : Below wr.heap.size wr W ∧ OneS bd (xv 7) W := by simpa [hd, q11, q7] using hI
          clear hI hN hd hX hF H
          refine on_plain rfl ?_
          obtain ⟨s1, A3, c3, e3, hh3⟩ := hS
          have f28x := f28.trans e3
          refine op_appS (base := B0) (l := s.taken) (m := [bd]) (s := .tmp 25) (x := .tmp 28) (by rfl) f25 f28x (row_below HS2.out.ts s1) hh3 (by simp; omega) (Nat.le_trans hB0r s1.size) ?_
          intro v W' h1 h2 h3
          have hs : ∃ Wm, Below wr.heap.size wr Wm ∧ Wm.grownBy W' (Value.slice At s.taken.length ct).ownBlock ∧ StrRow W' B0 v (s.taken ++ [bd]) ∧ (v.ownBlock = (Value.slice At s.taken.length ct).ownBlock ∨ v.ownBlock = some Wm.heap.size) := ⟨W, s1, h2, h1, h3⟩
          exact hK.out v _ trivial trivial (by simpa [upB, upd, q11] using hs)
        refine EachF.cons 10 rfl (fun dn xv W F hF hd hN hX hI H K hK => ?_) ?_
        · have h0 : xv 0 = .pointer (some ⟨g, 0, none⟩) := (H 0 (.edge (by kernel_rfl))).2
          have f21 : F.tmps.getD 21 undef = .pointer (some ⟨g, 0, none⟩) := (hF 21).trans (Eq.trans (by kernel_rfl) h0)
          clear H hN hd hX hF
          refine on_plain rfl ?_
          go_simp
          exact hK.out _ _ rfl trivial (by simpa [upB, upd] using hI)
        refine EachF.cons 11 rfl (fun dn xv W F hF hd hN hX hI H K hK => ?_) ?_
        · have h9 : xv 9 = .pointer (some ⟨g, 0, none⟩) := (H 9 (.edge (by kernel_rfl))).2
          have f30 : F.tmps.getD 30 undef = .pointer (some ⟨g, 0, none⟩) := (hF 30).trans (Eq.trans (by kernel_rfl) h9)
          clear H hN hd hX hF
          refine on_plain rfl ?_
          go_simp
          exact hK.out _ _ rfl trivial (by simpa [upB, upd] using hI)
        refine EachF.cons 12 rfl (fun dn xv W F hF hd hN hX hI H K hK => ?_) ?_
        · have h8 := (H 8 (.edge (by kernel_rfl))).2
          simp only [Dl] at h8
          have f29 : F.tmps.getD 29 undef = xv 8 := (hF 29).trans (by kernel_rfl)
          have h10 : xv 10 = .pointer (some ⟨g, 4, none⟩) := (H 10 (.edge (by kernel_rfl))).2
          have f31 : F.tmps.getD 31 undef = .pointer (some ⟨g, 4, none⟩) := (hF 31).trans (Eq.trans (by kernel_rfl) h10)
          have q8 : dn 8 = true := (H 8 (.edge (by kernel_rfl))).1
          have hS : ∃ Wm, Below wr.heap.size wr Wm ∧ Wm.grownBy W (Value.slice At s.taken.length ct).ownBlock ∧ StrRow W B0 (xv 8) (s.taken ++ [bd]) ∧ ((xv 8).ownBlock = (Value.slice At s.taken.length ct).ownBlock ∨ (xv 8).ownBlock = some Wm.heap.size) := by simpa [hd, q8] using hI
          clear hI hN hd hX hF H
          refine on_plain rfl ?_
          obtain ⟨Wm, s1, s2, s3, s4⟩ := hS
          have hsm := HS2.out.below s1
          have hs0 := hsm.appT s2 s3 s4 (.inr trivial)
          obtain ⟨A2, c2, e2, _⟩ := row_form s3
          have e2x : xv 8 = .slice A2 (s.taken.length + 1) c2 := e2.trans (by simp)
          have f29x := f29.trans e2x
          have h6 := six_grown hsm.six s2 (fun k hk => (row_lt hsm.ts hk).2.2) (by decide)
          have hc3 := h6.c4
          have hf3 := h6.fz 4
          have hbw : Below B0 wr W := (s1.mono hB0r).trans ((Below.refl _ _).grown s2 (Nat.le_trans hB0r s1.size) (fun k hk => (row_lt hsm.ts hk).1))
          have hs : SideAt B0 (W.setCell ⟨g, 4, none⟩ (xv 8)) g { s with got := tv, taken := s.taken ++ [bd] } vB vP (xv 8) vW ∧ Below B0 wr (W.setCell ⟨g, 4, none⟩ (xv 8)) ∧ KeepC wr (W.setCell ⟨g, 4, none⟩ (xv 8)) := ⟨hs0, hbw.setCell HS2.out.hg _, ((KeepC.of_below s1).trans (KeepC.grown (t := 9) s2 (fun k hk => (row_lt hsm.ts hk).2.2) (by decide))).trans (KeepC.setG h6)⟩
          clear e2 hs0
          go_simp
          rw [← e2x]
          exact hK.out undef _ trivial trivial (by simpa [upB, upd] using hs)
        exact EachF.nil
      · intro dn xv W hI H
        have qe : dn 11 = true := (H 11 (of_decide_eq_true (by kernel_rfl))).1
        have hS : SideAt B0 W g { s with got := tv, taken := s.taken ++ [bd] } vB vP (xv 8) vW ∧ Below B0 wr W ∧ KeepC wr W := by simpa [qe] using hI
        clear H hI qe
        simp only [putAll, Act.put, List.setIfInBounds_toArray, List.set_cons_zero, List.set_cons_succ, Nat.reduceAdd]
        have e1 : s.come (m, bd) = { s with got := tv, taken := s.taken ++ [bd] } := by simp [St.come, HBB.out, HV.out]
        obtain ⟨hS1, hS2, hS3⟩ := hS
        go_end0
        rw [e1]
        exact ⟨rfl, ⟨_, hS1⟩, hBr.trans hS2, hKr.trans hS3⟩
end Go.Proofs.Ytmjlehofjholaaa
