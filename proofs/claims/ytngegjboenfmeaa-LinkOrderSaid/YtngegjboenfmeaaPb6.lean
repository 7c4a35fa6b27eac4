/- Part 6 of the texts of a claim: TwC TwE PartP OrdP Rgt Tck Part OpenA Awk Ord LinkOrderCard -/
import Derived.Test.YtngegjboenfmeaaPb1
import Derived.Test.YtngegjboenfmeaaPb2
import Derived.Test.YtngegjboenfmeaaPb3
import Derived.Test.YtngegjboenfmeaaPb4
import Derived.Test.YtngegjboenfmeaaPb5
import Derived.Test.YtngegjboenfmeaaRows
import Derived.Deep.CutBlock
import Derived.Deep.DeepCutAuto
import Derived.Maps.RangeWalk
import Derived.WalkKit
import Derived.ProofKit
import Derived.OpenShut
import Derived.ShutString
import Derived.ChangeOld
import Derived.Below
import Derived.SizedLaws
namespace Go.Proofs.Ytngegjboenfmeaa
open Go Go.RowKit Go.Shelf
set_option linter.unusedVariables false
set_option maxRecDepth 100000
set_option linter.unusedSimpArgs false

/-- what an act leaves -/
def ActP (w0 w' : World) (g : Nat) (T : TW) (d : Int) (Qs : List SP) (B : Nat) : Prop := ∃ i k b0 b1, TwA b0 b1 w0 w' g (T.act d i k) Qs ∧ (T.act d i k).Ok (B + 20)
theorem trimTo_step0 (T : TW) (h : (T.way false).length ≤ 300) : T.trimTo 1 = T.trimTo 0 := by
 unfold TW.trimTo; congr 1; funext i; cases i
 ·simp [trim_short h]
 ·simp
theorem trimTo_step1 (T : TW) (h : (T.way true).length ≤ 300) : T.trimTo 2 = T.trimTo 1 := by
 unfold TW.trimTo; congr 1; funext i; cases i
 ·simp
 ·simp [trim_short h]
theorem trim_nd (T : TW) (i : Bool) {nl nd : Nat} (h : nl = ((T.trimTo (if i then 1 else 0)).way i).length) (hd : nl - 300 = nd) : ((T.trimTo (if i then 1 else 0)).way i).drop nd = (T.trimTo ((if i then 1 else 0) + 1)).way i := by
 have e : (T.trimTo (if i then 1 else 0)).way i = T.way i := by cases i <;> simp [TW.trimTo]
 rw [e] at h ⊢; rw [← hd, h]; cases i <;> simp [TW.trimTo, Go.Proofs.Ytngegjboenfmeaa.trim]
theorem map_erase {α β : Type} (f : α → β) (l : List α) (n : Nat) : (l.eraseIdx n).map f = (l.map f).eraseIdx n := by
 rw [List.eraseIdx_eq_take_drop_succ, List.eraseIdx_eq_take_drop_succ, List.map_append, List.map_take, List.map_drop]
theorem frBods_erase {W : List (Fr × Value)} {n : Nat} {y : Value × List UInt8} (h : y ∈ fB_ (W.eraseIdx n)) : y ∈ fB_ W := by
 obtain ⟨p, hp, rfl⟩ := List.mem_map.1 h; exact List.mem_map.2 ⟨p, List.mem_of_mem_eraseIdx hp, rfl⟩
theorem frBods_drop {W : List (Fr × Value)} {n : Nat} {y : Value × List UInt8} (h : y ∈ fB_ (W.drop n)) : y ∈ fB_ W := by
 obtain ⟨p, hp, rfl⟩ := List.mem_map.1 h; exact List.mem_map.2 ⟨p, List.mem_of_mem_drop hp, rfl⟩
set_option maxHeartbeats 6400000 in
theorem act0 {w0 w : World} {Qs : List SP} {g a0 a1 B : Nat} {T : TW} (h : TwA a0 a1 w0 w g T Qs) (hO : T.Ok B) (hB : B ≤ 1000000) (d at_ nn : Int) (heb : bits .and .i64 at_ 1 = 0) :
  Calls Try.prog 10 #[.pointer (some ⟨g, 0, none⟩), .agg #[.int .i64 d, .int .i64 at_, .int .i64 nn]] w fun e w' => e = .returned (.tuple #[]) ∧ ActP w0 w' g T d Qs B := by
 obtain ⟨k, hk, hk2⟩ := and_low nn 65535 (by omega); have ek : bits .and .i64 nn 65535 = (k : Int) := hk2; have HSB := Lib.hid (sep_ce (Sep.nil w) #[.int .i64 d, .int .i64 at_, .int .i64 nn] 37); have HA := Lib.hid (h.grow ((Below.refl _ _).alloc (Nat.le_refl _) (.cells #[.int .i64 d, .int .i64 at_, .int .i64 nn] 37))); have HAB := Lib.hid (h.ce #[.int .i64 d, .int .i64 at_, .int .i64 nn] 37); have k0 := cA (i := 0) HSB.out rfl 0 rfl; have k1 := cA (i := 0) HSB.out rfl 1 rfl; have k2 := cA (i := 0) HSB.out rfl 2 rfl; clear h hk2; have ei : bits .and .i64 at_ 1 = 0 := heb; go_enter Try.func10, Try.ntmps10
 go_upto_block 0 with fail
 go_cut [6, 7] from 18 to 137 (fun u6 u7 wx => ∃ b0 b1 T1, TwA b0 b1 w0 wx g T1 Qs ∧ Hid (T.act d false k = T1.trim ∧ T1.Ok (B + 20)))
 case first =>
  clear k1 k2
  by_cases h0 : d = 0
  ·subst h0; have HB0 := Lib.hid k0; obtain ⟨kq, Hkq⟩ : ∃ x, Hid (k % 4 = x) := ⟨_, Lib.hid rfl⟩; have hkq : kq ≤ 3 := by rw [← Hkq.out]; omega
   have e3 : bits .and .i64 (k : Int) 3 = (kq : Int) := by rw [and_3 k (by omega), Hkq.out]
   have hnow := hO.now false; have ew1 : IntKind.u64.wrap (kq : Int) = (kq : Int) := u64_wrapG (by omega) (by omega); have ew2 : IntKind.u64.wrap (((T.now false : Nat) : Int) + (kq : Int)) = ((T.now false : Nat) : Int) + (kq : Int) := u64_wrapG (by omega) (by omega); clear hnow
   go_wp2_with fail
   refine wRF (fun dn xv W => if dn 13 = true then TwA a0 a1 w0 W g (T.later false kq) Qs else TwA a0 a1 w0 W g T Qs) (fun _ _ => True) [fun v _ => v = .pointer (some ⟨g, 0, none⟩), fun v _ => v = .int .i64 0, fun v _ => v = .pointer (some ⟨g, 0, none⟩), fun v _ => v = .pointer (some ⟨g, 4, none⟩), fun v _ => v = .pointer (some ⟨g, 4, none⟩), fun v _ => v = .int .u64 ((T.now false : Nat) : Int), fun v _ => v = .int .i64 (k : Int), fun v _ => v = .int .i64 (kq : Int), fun v _ => v = .int .u64 (kq : Int), fun v _ => v = .int .u64 ((T.now false : Nat) + (kq : Nat) : Int), fun v _ => v = .pointer (some ⟨g, 0, none⟩), fun v _ => v = .pointer (some ⟨g, 4, none⟩), fun v _ => v = .pointer (some ⟨g, 4, none⟩), fun v _ => True] (by kernel_rfl) (by kernel_rfl) (by kernel_rfl) (by kernel_rfl) (fun xv => by simpa using HA.out.drew)
    (by repeat (first | exact trivial | refine ⟨fun _ _ _ _ h => h, ?_⟩)) ?_ ?_
   ·refine EC 1 rfl (fun h i W F a b c d e H K f => ?_) ?_
    ·have f0 : F.tmps.getD 0 undef = .pointer (some ⟨g, 0, none⟩) := (a 0).trans (by kernel_rfl); clear H c b d a; refine oP rfl ?_; go_simp; exact f.out _ _ rfl trivial e
    refine EC 2 rfl (fun g h W F a b c d e H K f => ?_) ?_
    ·have f4 : F.tmps.getD 4 undef = .int .i64 0 := (a 4).trans (by kernel_rfl); clear H c b d a; refine oP rfl ?_; go_simp; exact f.out _ _ rfl trivial e
    refine EC 3 rfl (fun g h W F a b c d e H K f => ?_) ?_
    ·have f20 := gE (a 20) (by kernel_rfl) (H 0) (by kernel_rfl); clear H c b d a; refine oP rfl ?_; go_simp; exact f.out _ _ rfl trivial e
    refine EC 4 rfl (fun g h W F a b c d e H K f => ?_) ?_
    ·have f22 := gE (a 22) (by kernel_rfl) (H 2) (by kernel_rfl); clear H c b d a; refine oP rfl ?_; go_simp; exact f.out _ _ rfl trivial e
    refine EC 5 rfl (fun g h W F a b c d e H K f => ?_) ?_
    ·have f21 := gE (a 21) (by kernel_rfl) (H 1) (by kernel_rfl); have f23 := gE (a 23) (by kernel_rfl) (H 3) (by kernel_rfl); clear H c b d a; refine oP rfl ?_; go_simp; exact f.out _ _ rfl trivial e
    refine EC 6 rfl (fun g h W F a b c d e H K f => ?_) ?_
    ·have f24 := gE (a 24) (by kernel_rfl) (H 4) (by kernel_rfl); have q13 : g 13 = false := c 13 (.more (j := 9) (by kernel_rfl) (.edge (by kernel_rfl))); have hq := e; rw [if_neg (by simp [q13])] at hq; have kk := hq.t0; clear H c b d a; refine oP rfl ?_; go_simp; exact f.out _ _ rfl trivial e
    refine EC 7 rfl (fun g h W F a b c d e H K f => ?_) ?_
    ·have f5 : F.tmps.getD 5 undef = .int .i64 (k : Int) := (a 5).trans (by kernel_rfl); clear H c b d a; refine oP rfl ?_; go_simp; exact f.out _ _ rfl trivial e
    refine EC 8 rfl (fun g h W F a b c d e H K f => ?_) ?_
    ·have f26 := gE (a 26) (by kernel_rfl) (H 6) (by kernel_rfl); clear H c b d a; refine oP rfl ?_; go_simp; exact f.out _ _ rfl trivial e
    refine EC 9 rfl (fun g h W F a b c d e H K f => ?_) ?_
    ·have f27 := gE (a 27) (by kernel_rfl) (H 7) (by kernel_rfl); clear H c b d a; refine oP rfl ?_; go_simp; exact f.out _ _ rfl trivial e
    refine EC 10 rfl (fun g h W F a b c d e H K f => ?_) ?_
    ·have f25 := gE (a 25) (by kernel_rfl) (H 5) (by kernel_rfl); have f28 := gE (a 28) (by kernel_rfl) (H 8) (by kernel_rfl); clear H c b d a; refine oP rfl ?_; go_simp; exact f.out _ _ rfl trivial e
    refine EC 11 rfl (fun g h W F a b c d e H K f => ?_) ?_
    ·have f20 := gE (a 20) (by kernel_rfl) (H 0) (by kernel_rfl); clear H c b d a; refine oP rfl ?_; go_simp; exact f.out _ _ rfl trivial e
    refine EC 12 rfl (fun g h W F a b c d e H K f => ?_) ?_
    ·have f30 := gE (a 30) (by kernel_rfl) (H 10) (by kernel_rfl); clear H c b d a; refine oP rfl ?_; go_simp; exact f.out _ _ rfl trivial e
    refine EC 13 rfl (fun g h W F a b c d e H K f => ?_) ?_
    ·have f21 := gE (a 21) (by kernel_rfl) (H 1) (by kernel_rfl); have f31 := gE (a 31) (by kernel_rfl) (H 11) (by kernel_rfl); clear H c b d a; refine oP rfl ?_; go_simp; exact f.out _ _ rfl trivial e
    refine EC 14 rfl (fun g h W F a b c d e H K f => ?_) ?_
    ·have f29 := gE (a 29) (by kernel_rfl) (H 9) (by kernel_rfl); have f32 := gE (a 32) (by kernel_rfl) (H 12) (by kernel_rfl); rw [if_neg (by simp [b])] at e; have hS := e; clear e c b d a H; refine oP rfl ?_; obtain ⟨yy, hs⟩ := hS.later0 kq; have kk := hS.t0; go_simp; exact f.out undef _ trivial trivial (by simpa [upB, upd] using hs)
    exact EN
   ·intro dn xv W hI H; have qe : dn 13 = true := (H 13 (of_decide_eq_true (by kernel_rfl))).1; rw [if_pos qe] at hI; have hS := hI; clear H hI qe; simp only [putAll, Act.put, List.setIfInBounds_toArray, List.set_cons_zero, List.set_cons_succ, Nat.reduceAdd]; obtain ⟨T0, HT0⟩ : ∃ x, Hid (T.later false kq = x) := ⟨_, Lib.hid rfl⟩; rw [HT0.out] at hS; have HA1 := Lib.hid hS; have HO0 : Hid (T0.Ok (B + 3)) := Lib.hid (by rw [← HT0.out]; exact hO.later false hkq); have HC1 := Lib.hid (fun (W : World) (hS : TwA a0 a1 w0 W g T0 Qs) => tickA0 hS HO0.out (by omega)); have HC2 := Lib.hid (fun (W : World) (v : Value) (hS : MidA a0 a1 v w0 W g (T0.withL false ((T0.l false).tick (T0.now false))) ((T0.l false).tickF (T0.now false)) ((T0.l false).tickE (T0.now false)) Qs) => show Calls Try.prog 31 #[.pointer (some ⟨g, 0, none⟩), .int .i64 0, v] W (fun e w' => e = .returned (.tuple #[]) ∧ TwA a0 a1 w0 w' g (T0.tick false) Qs) from
     ansA0 hS ((HO0.out.mono (Nat.le_add_right _ 1)).withL false ((HO0.out.num false).tick (now := T0.now false) (by have := HO0.out.now false; omega)) (ids_tick (HO0.out.ids false) (T0.now false))) (by omega) (by have := (tickF_ok (HO0.out.num false) (HO0.out.ids false) (T0.now false)).2.1; omega) (by have := (tickF_ok (HO0.out.num false) (HO0.out.ids false) (T0.now false)).2.2; omega))
    clear hS e3 ew1 ew2 hkq
    go_wp2_with fail
    refine wRF (fun dn xv W => if dn 15 = true then TwA a0 a1 w0 W g (T0.tick false) Qs else if dn 14 = true then MidA a0 a1 (xv 14) w0 W g (T0.withL false ((T0.l false).tick (T0.now false))) ((T0.l false).tickF (T0.now false)) ((T0.l false).tickE (T0.now false)) Qs else TwA a0 a1 w0 W g T0 Qs) (fun _ _ => True) [fun v _ => v = .pointer (some ⟨g, 0, none⟩), fun v _ => v = .int .i64 0, fun v _ => v = .pointer (some ⟨g, 0, none⟩), fun v _ => v = .int .i64 0, fun v _ => v = .pointer (some ⟨g, 0, none⟩), fun v _ => v = .pointer (some ⟨g, 0, none⟩), fun v _ => v = .pointer (some ⟨g, 0, none⟩), fun v _ => v = .pointer (some ⟨a0, 0, none⟩), fun v _ => v = .pointer (some ⟨g, 0, none⟩), fun v _ => v = .int .i64 0, fun v _ => v = .pointer (some ⟨g, 0, none⟩), fun v _ => v = .pointer (some ⟨g, 4, none⟩), fun v _ => v = .pointer (some ⟨g, 4, none⟩), fun v _ => v = .int .u64 ((T0.now false : Nat) : Int), fun v _ => True, fun v _ => True] (by kernel_rfl) (by kernel_rfl) (by kernel_rfl) (by kernel_rfl) (fun xv => by simpa using HA1.out.drew)
     (by repeat (first | exact trivial | refine ⟨fun _ _ _ _ h => h, ?_⟩)) ?_ ?_
    ·refine EC 1 rfl (fun h i W F a b c d e H K f => ?_) ?_
     ·have f0 : F.tmps.getD 0 undef = .pointer (some ⟨g, 0, none⟩) := (a 0).trans (by kernel_rfl); clear H c b d a; refine oP rfl ?_; go_simp; exact f.out _ _ rfl trivial e
     refine EC 2 rfl (fun g h W F a b c d e H K f => ?_) ?_
     ·have f4 : F.tmps.getD 4 undef = .int .i64 0 := (a 4).trans (by kernel_rfl); clear H c b d a; refine oP rfl ?_; go_simp; exact f.out _ _ rfl trivial e
     refine EC 3 rfl (fun h i W F a b c d e H K f => ?_) ?_
     ·have f0 : F.tmps.getD 0 undef = .pointer (some ⟨g, 0, none⟩) := (a 0).trans (by kernel_rfl); clear H c b d a; refine oP rfl ?_; go_simp; exact f.out _ _ rfl trivial e
     refine EC 4 rfl (fun g h W F a b c d e H K f => ?_) ?_
     ·have f4 : F.tmps.getD 4 undef = .int .i64 0 := (a 4).trans (by kernel_rfl); clear H c b d a; refine oP rfl ?_; go_simp; exact f.out _ _ rfl trivial e
     refine EC 5 rfl (fun g h W F a b c d e H K f => ?_) ?_
     ·have f35 := gE (a 35) (by kernel_rfl) (H 2) (by kernel_rfl); clear H c b d a; refine oP rfl ?_; go_simp; exact f.out _ _ rfl trivial e
     refine EC 6 rfl (fun g h W F a b c d e H K f => ?_) ?_
     ·have f37 := gE (a 37) (by kernel_rfl) (H 4) (by kernel_rfl); clear H c b d a; refine oP rfl ?_; go_simp; exact f.out _ _ rfl trivial e
     refine EC 7 rfl (fun g h W F a b c d e H K f => ?_) ?_
     ·have f36 := gE (a 36) (by kernel_rfl) (H 3) (by kernel_rfl); have f38 := gE (a 38) (by kernel_rfl) (H 5) (by kernel_rfl); clear H c b d a; refine oP rfl ?_; go_simp; exact f.out _ _ rfl trivial e
     refine EC 8 rfl (fun g h W F a b c d e H K f => ?_) ?_
     ·have f39 := gE (a 39) (by kernel_rfl) (H 6) (by kernel_rfl); have q1 : g 14 = false := c 14 (.edge (by kernel_rfl)); have q2 : g 15 = false := c 15 (.more (j := 14) (by kernel_rfl) (.edge (by kernel_rfl))); have hq := e; rw [if_neg (by simp [q2]), if_neg (by simp [q1])] at hq; have kk := hq.l0; clear H c b d a; refine oP rfl ?_; go_simp; exact f.out _ _ rfl trivial e
     refine EC 9 rfl (fun h i W F a b c d e H K f => ?_) ?_
     ·have f0 : F.tmps.getD 0 undef = .pointer (some ⟨g, 0, none⟩) := (a 0).trans (by kernel_rfl); clear H c b d a; refine oP rfl ?_; go_simp; exact f.out _ _ rfl trivial e
     refine EC 10 rfl (fun g h W F a b c d e H K f => ?_) ?_
     ·have f4 : F.tmps.getD 4 undef = .int .i64 0 := (a 4).trans (by kernel_rfl); clear H c b d a; refine oP rfl ?_; go_simp; exact f.out _ _ rfl trivial e
     refine EC 11 rfl (fun g h W F a b c d e H K f => ?_) ?_
     ·have f41 := gE (a 41) (by kernel_rfl) (H 8) (by kernel_rfl); clear H c b d a; refine oP rfl ?_; go_simp; exact f.out _ _ rfl trivial e
     refine EC 12 rfl (fun g h W F a b c d e H K f => ?_) ?_
     ·have f43 := gE (a 43) (by kernel_rfl) (H 10) (by kernel_rfl); clear H c b d a; refine oP rfl ?_; go_simp; exact f.out _ _ rfl trivial e
     refine EC 13 rfl (fun g h W F a b c d e H K f => ?_) ?_
     ·have f42 := gE (a 42) (by kernel_rfl) (H 9) (by kernel_rfl); have f44 := gE (a 44) (by kernel_rfl) (H 11) (by kernel_rfl); clear H c b d a; refine oP rfl ?_; go_simp; exact f.out _ _ rfl trivial e
     refine EC 14 rfl (fun g h W F a b c d e H K f => ?_) ?_
     ·have f45 := gE (a 45) (by kernel_rfl) (H 12) (by kernel_rfl); have q1 : g 14 = false := c 14 (.edge (by kernel_rfl)); have q2 : g 15 = false := c 15 (.more (j := 14) (by kernel_rfl) (.edge (by kernel_rfl))); have hq := e; rw [if_neg (by simp [q2]), if_neg (by simp [q1])] at hq; have kk := hq.t0; clear H c b d a; refine oP rfl ?_; go_simp; exact f.out _ _ rfl trivial e
     refine EC 15 rfl (fun h i W F a b c d f H K g => ?_) ?_
     ·have f40 := gE (a 40) (by kernel_rfl) (H 7) (by kernel_rfl); have f46 := gE (a 46) (by kernel_rfl) (H 13) (by kernel_rfl); have q15 : h 15 = false := c 15 (.edge (by kernel_rfl)); rw [if_neg (by simp [q15]), if_neg (by simp [b])] at f; have hS := f; clear f c b d a H; refine oP rfl ?_; go_simp; refine (HC1.out W hS).mono ?_; rintro e W' ⟨v, rfl, hs⟩; exact g.out v W' trivial trivial (by simpa [upB, upd, q15] using hs)
     refine EC 16 rfl (fun h i W F a b c d f H K g => ?_) ?_
     ·have f33 := gE (a 33) (by kernel_rfl) (H 0) (by kernel_rfl); have f34 := gE (a 34) (by kernel_rfl) (H 1) (by kernel_rfl); have f47 : F.tmps.getD 47 undef = i 14 := (a 47).trans (by kernel_rfl); have q14 : h 14 = true := (H 14 (.edge (by kernel_rfl))).1; rw [if_neg (by simp [b]), if_pos q14] at f; have hS := f; clear f c b d a H; refine oP rfl ?_; go_simp; refine (HC2.out W _ hS).mono ?_; rintro e W' ⟨rfl, hs⟩; exact g.out _ W' trivial trivial (by simpa [upB, upd] using hs)
     exact EN
    ·intro dn xv W hI H; have qe : dn 15 = true := (H 15 (of_decide_eq_true (by kernel_rfl))).1; rw [if_pos qe] at hI; have hS := hI; clear H hI qe; simp only [putAll, Act.put, List.setIfInBounds_toArray, List.set_cons_zero, List.set_cons_succ, Nat.reduceAdd]
     go_wp2_with fail
     go_meet
     case rel => exact ⟨a0, a1, _, hS, Lib.hid ⟨by rw [TW.act, if_pos rfl, ← HT0.out, ← Hkq.out]; rfl, (HO0.out.tick (by omega) false).mono (by omega)⟩⟩
  ·have e0 : (d == 0) = false := by simpa using h0
   by_cases h1 : d = 1
   ·subst h1
    go_wp2_with fail
    refine (sendA0 HA.out hO (by omega)).mono ?_; rintro e w2 ⟨rfl, h2⟩; have HA2 := Lib.hid h2; clear h2
    go_wp2_with fail
    go_meet
    case rel => exact ⟨a0, a1, _, HA2.out, Lib.hid ⟨by rw [TW.act, if_neg (by decide), if_pos rfl], (hO.send (by omega) false).mono (by omega)⟩⟩
   ·have e1 : (d == 1) = false := by simpa using h1
    by_cases h234 : d = 2 ∨ d = 3 ∨ d = 4
    ·skip
     have H234 := Lib.hid h234; have HA3 := Lib.hid (HAB.out)
     go_upto_if 54 with fail
     go_cut [54] from 55 to 57 (fun t54 wx => t54 = .bool true ∧ wx = (w.alloc (.cells #[.int .i64 d, .int .i64 at_, .int .i64 nn] 37)))
     case first =>
      by_cases h2 : d = 2
      ·subst h2
       go_wp2_with fail
       go_meet
       case rel => exact ⟨rfl, rfl⟩
      ·have e2 : (d == 2) = false := by simpa using h2
       by_cases h3 : d = 3
       ·subst h3
        go_wp2_with fail
        go_meet
        case rel => exact ⟨rfl, rfl⟩
       ·have h4 : d = 4 := by have := H234.out; omega
        subst h4
        go_wp2_with fail
        go_meet
        case rel => exact ⟨rfl, rfl⟩
     case rest =>
      obtain ⟨rfl, rfl⟩ := hcut; obtain ⟨b0, b1, v0, v1, W0, W1, BB, bs, bt, q1, q2, q3, q4, h⟩ := HA3.out; obtain ⟨AV, cV, hv, hcV, hcV2, hasV⟩ := sep_rwoForm (i := 5) h rfl; subst hv; have HQW := Lib.hid (And.intro q1 (And.intro q2 (And.intro q3 q4))); have hlw : W0.length = (T.way false).length := by rw [← q1, List.length_map]
      have kk := cA (v := .slice AV W0.length cV) (i := 0) h rfl 6 rfl; clear q1 q2 q3 q4
      by_cases hw : T.way false = []
      ·have e0 : ((W0.length : Int) == 0) = true := by rw [hlw, hw]; rfl
       have e00 : (W0.length == 0) = true := by rw [hlw, hw]; rfl
       have HW := Lib.hid hw; clear hw hasV h
       go_wp2_with fail
       refine bodyPost_ret (results_none rfl _ _ _) rfl ?_; exact ⟨rfl, false, k, a0, a1, by rw [act_none H234.out HW.out]; exact HA3.out.pop, by rw [act_none H234.out HW.out]; exact hO.mono (by omega)⟩
      ·have hpos : 0 < W0.length := by rw [hlw]; exact List.length_pos_iff.2 hw
       obtain ⟨nl, Hnl⟩ : ∃ y, Hid (W0.length = y) := ⟨_, Lib.hid rfl⟩; obtain ⟨bw, ow, rfl, _, _⟩ := hasV.at_ (k := 0) (by rw [frRow_len]; omega); rw [Hnl.out] at h hcV kk hlw hpos; have e0 : (nl == 0) = false := by simp; omega
       have e00 : ((nl : Int) == 0) = false := by simp; omega
       obtain ⟨jj, Hjj⟩ : ∃ y, Hid (k % nl = y) := ⟨_, Lib.hid rfl⟩; have hjn : jj < nl := by rw [← Hjj.out]; exact Nat.mod_lt _ hpos
       have er : Int.tmod (k : Int) (nl : Int) = (jj : Int) := by rw [← Hjj.out]; rfl
       have er2 : (k : Int) % (nl : Int) = (jj : Int) := by rw [← Hjj.out]; rfl
       obtain ⟨p, hp⟩ : ∃ p, W0[jj]? = some p := ⟨_, List.getElem?_eq_getElem (by rw [Hnl.out]; exact hjn)⟩; have hpB : (p.2, p.1.body) ∈ BB := by
        have hm : (p.2, p.1.body) ∈ fB_ W0 := List.mem_map.2 ⟨_, List.mem_of_getElem? hp, rfl⟩; exact HQW.out.2.2.1 _ hm
       obtain ⟨AU, cU, hu, _, _, hasU⟩ := sep_bodsAt (i := 7) h rfl hpB; have hfw : (T.way false)[jj]? = some p.1 := by rw [← HQW.out.1, List.getElem?_map, hp]; rfl
       have hfo := hO.frs false p.1 (List.mem_of_getElem? hfw); have HJW : Hid (k % (T.way false).length = jj) := Lib.hid (by rw [← hlw]; exact Hjj.out); obtain ⟨⟨kind, ffr, fto, finc, fconn, pinc, pconn, fack, fseq, body⟩, u⟩ := p; simp only at hu; subst hu; obtain ⟨fF, HfF⟩ : ∃ y, Hid ((⟨kind, ffr, fto, finc, fconn, pinc, pconn, fack, fseq, body⟩ : Fr) = y) := ⟨_, Lib.hid rfl⟩; have HFW : Hid ((T.way false)[jj]? = some fF) := Lib.hid (by rw [← HfF.out]; exact hfw); have HFO : Hid (FrOk B fF) := Lib.hid (by rw [← HfF.out]; exact hfo); have hbl : body.length ≤ 448 := hfo.2.2.2.2; have HS4 := Lib.hid (show Sep w0 (w.alloc (.cells #[.int .i64 d, .int .i64 at_, .int .i64 nn] 37)) (Ce g 34 #[.pointer (some ⟨a0, 0, none⟩), .pointer (some ⟨a1, 0, none⟩), .int .u64 (((T.l false).si : Nat) : Int), .int .u64 (((T.l true).si : Nat) : Int), .int .u64 ((T.now false : Nat) : Int), .int .u64 ((T.now true : Nat) : Int), .slice (some ⟨bw, ow, none⟩) nl cV, v1, .map (some bs), .map (some bt), .int .i64 ((T.n : Nat) : Int), .bool false] :: Ce a0 72 ((T.l false).cells b0) :: BoxT b0 (T.l false).box :: Ce a1 72 ((T.l true).cells b1) :: BoxT b1 (T.l true).box :: RwO 51 10 (.slice (some ⟨bw, ow, none⟩) nl cV) nl (fR_ W0) :: RwO 51 10 v1 W1.length (fR_ W1) :: Bods BB :: MapT bs T.sent :: MapT bt T.told :: Ce w.heap.size 37 #[.int .i64 d, .int .i64 at_, .int .i64 nn] :: Qs) by unfold TWL at h; rw [Hnl.out] at h; exact h); have hr := sep_rwoHas (i := 5) HS4.out rfl; have kf0 := hK4 hr (frRow_at (r := 0) (v := .int .i64 kind) hp (by omega)); rw [Nat.add_zero] at kf0; have kf1 := hK4 hr (frRow_at (r := 1) (v := .int .i64 ffr) hp (by omega)); rw [← Nat.add_assoc] at kf1; have kf2 := hK4 hr (frRow_at (r := 2) (v := .int .i64 fto) hp (by omega)); rw [← Nat.add_assoc] at kf2; have kf3 := hK4 hr (frRow_at (r := 3) (v := .int .u64 (finc : Int)) hp (by omega)); rw [← Nat.add_assoc] at kf3; have kf4 := hK4 hr (frRow_at (r := 4) (v := .int .u64 (fconn : Int)) hp (by omega)); rw [← Nat.add_assoc] at kf4; have kf5 := hK4 hr (frRow_at (r := 5) (v := .int .u64 (pinc : Int)) hp (by omega)); rw [← Nat.add_assoc] at kf5; have kf6 := hK4 hr (frRow_at (r := 6) (v := .int .u64 (pconn : Int)) hp (by omega)); rw [← Nat.add_assoc] at kf6; have kf7 := hK4 hr (frRow_at (r := 7) (v := .int .u64 (fack : Int)) hp (by omega)); rw [← Nat.add_assoc] at kf7; have kf8 := hK4 hr (frRow_at (r := 8) (v := .int .u64 (fseq : Int)) hp (by omega)); rw [← Nat.add_assoc] at kf8; have kf9 := hK4 hr (frRow_at (r := 9) (v := .slice AU body.length cU) hp (by omega)); rw [← Nat.add_assoc] at kf9; have HU := Lib.hid hasU; have HHP := Lib.hid hp; have HLW := Lib.hid hlw; have hnb : nl ≤ B := by rw [hlw]; exact hO.way false
       clear hr hasV hw h hp hpB hfo hfw hasU hlw
       go_wp2_with fail
       refine (own5_any _ _ ⟨kind, ffr, fto, finc, fconn, pinc, pconn, fack, fseq, body⟩ AU cU HU.out (Nat.le_refl _) (by simp only; omega)).mono ?_; rintro e w3 ⟨AZ, cZ, rfl, hoN, hbN⟩; simp only [Fr.cells]; clear kk kf0 kf1 kf2 kf3 kf4 kf5 kf6 kf7 kf8 kf9 er er2 e0 e00; have HA4 := Lib.hid (HA3.out.grow hbN); have HA5 := Lib.hid (((HA3.out.by_ hbN hoN).ce #[.int .i64 kind, .int .i64 ffr, .int .i64 fto, .int .u64 (finc : Int), .int .u64 (fconn : Int), .int .u64 (pinc : Int), .int .u64 (pconn : Int), .int .u64 (fack : Int), .int .u64 (fseq : Int), .slice AZ body.length cZ] 51).swap); have HS5 := Lib.hid (show Sep w0 (w3.alloc (.cells #[.int .i64 kind, .int .i64 ffr, .int .i64 fto, .int .u64 (finc : Int), .int .u64 (fconn : Int), .int .u64 (pinc : Int), .int .u64 (pconn : Int), .int .u64 (fack : Int), .int .u64 (fseq : Int), .slice AZ body.length cZ] 51)) (Ce g 34 #[.pointer (some ⟨a0, 0, none⟩), .pointer (some ⟨a1, 0, none⟩), .int .u64 (((T.l false).si : Nat) : Int), .int .u64 (((T.l true).si : Nat) : Int), .int .u64 ((T.now false : Nat) : Int), .int .u64 ((T.now true : Nat) : Int), .slice (some ⟨bw, ow, none⟩) nl cV, v1, .map (some bs), .map (some bt), .int .i64 ((T.n : Nat) : Int), .bool false] :: Ce a0 72 ((T.l false).cells b0) :: BoxT b0 (T.l false).box :: Ce a1 72 ((T.l true).cells b1) :: BoxT b1 (T.l true).box :: RwO 51 10 (.slice (some ⟨bw, ow, none⟩) nl cV) nl (fR_ W0) :: RwO 51 10 v1 W1.length (fR_ W1) :: Bods BB :: MapT bs T.sent :: MapT bt T.told :: By (.slice AZ body.length cZ) body :: Ce (w3.heap.size) 51 #[.int .i64 kind, .int .i64 ffr, .int .i64 fto, .int .u64 (finc : Int), .int .u64 (fconn : Int), .int .u64 (pinc : Int), .int .u64 (pconn : Int), .int .u64 (fack : Int), .int .u64 (fseq : Int), .slice AZ body.length cZ] :: Ce w.heap.size 37 #[.int .i64 d, .int .i64 at_, .int .i64 nn] :: Qs) from (show Sep w0 (w3.alloc (.cells #[.int .i64 kind, .int .i64 ffr, .int .i64 fto, .int .u64 (finc : Int), .int .u64 (fconn : Int), .int .u64 (pinc : Int), .int .u64 (pconn : Int), .int .u64 (fack : Int), .int .u64 (fseq : Int), .slice AZ body.length cZ] 51)) (Ce w3.heap.size 51 #[.int .i64 kind, .int .i64 ffr, .int .i64 fto, .int .u64 (finc : Int), .int .u64 (fconn : Int), .int .u64 (pinc : Int), .int .u64 (pconn : Int), .int .u64 (fack : Int), .int .u64 (fseq : Int), .slice AZ body.length cZ] :: By (.slice AZ body.length cZ) body :: Ce g 34 #[.pointer (some ⟨a0, 0, none⟩), .pointer (some ⟨a1, 0, none⟩), .int .u64 (((T.l false).si : Nat) : Int), .int .u64 (((T.l true).si : Nat) : Int), .int .u64 ((T.now false : Nat) : Int), .int .u64 ((T.now true : Nat) : Int), .slice (some ⟨bw, ow, none⟩) nl cV, v1, .map (some bs), .map (some bt), .int .i64 ((T.n : Nat) : Int), .bool false] :: Ce a0 72 ((T.l false).cells b0) :: BoxT b0 (T.l false).box :: Ce a1 72 ((T.l true).cells b1) :: BoxT b1 (T.l true).box :: RwO 51 10 (.slice (some ⟨bw, ow, none⟩) nl cV) nl (fR_ W0) :: RwO 51 10 v1 W1.length (fR_ W1) :: Bods BB :: MapT bs T.sent :: MapT bt T.told :: Ce w.heap.size 37 #[.int .i64 d, .int .i64 at_, .int .i64 nn] :: Qs) from sep_ceF (HS4.out.add (F := fun k => (Value.slice AZ body.length cZ).ownBlock = some k) hbN ⟨own_mono hoN (Nat.zero_le _), fun k => Iff.rfl⟩ (By.loc _ _) fun k hk => (hoN.lt k hk).1).lastFront _ _) |> fun h => ((((((((((((h).tF 0 rfl).tF 1 rfl).tF 11 rfl).tF 11 rfl).tF 11 rfl).tF 11 rfl).tF 11 rfl).tF 11 rfl).tF 11 rfl).tF 11 rfl).tF 11 rfl).tF 11 rfl)
       have HZ := Lib.hid (sep_ce (Sep.nil w3) #[.int .i64 0, .int .i64 0, .int .i64 0, .int .u64 0, .int .u64 0, .int .u64 0, .int .u64 0, .int .u64 0, .int .u64 0, .slice none 0 0] 51); have zf0 := cA (i := 0) HZ.out rfl 0 rfl; have yf0 := cFz (i := 0) HZ.out rfl 0; have zf1 := cA (i := 0) HZ.out rfl 1 rfl; have yf1 := cFz (i := 0) HZ.out rfl 1; have zf2 := cA (i := 0) HZ.out rfl 2 rfl; have yf2 := cFz (i := 0) HZ.out rfl 2; have zf3 := cA (i := 0) HZ.out rfl 3 rfl; have yf3 := cFz (i := 0) HZ.out rfl 3; have zf4 := cA (i := 0) HZ.out rfl 4 rfl; have yf4 := cFz (i := 0) HZ.out rfl 4; have zf5 := cA (i := 0) HZ.out rfl 5 rfl; have yf5 := cFz (i := 0) HZ.out rfl 5; have zf6 := cA (i := 0) HZ.out rfl 6 rfl; have yf6 := cFz (i := 0) HZ.out rfl 6; have zf7 := cA (i := 0) HZ.out rfl 7 rfl; have yf7 := cFz (i := 0) HZ.out rfl 7; have zf8 := cA (i := 0) HZ.out rfl 8 rfl; have yf8 := cFz (i := 0) HZ.out rfl 8; have zf9 := cA (i := 0) HZ.out rfl 9 rfl; have yf9 := cFz (i := 0) HZ.out rfl 9; have kd := HA5.out.q2 0 (v := .int .i64 d) rfl; obtain ⟨T0, HT0⟩ : ∃ x, Hid ((if d = 3 then T else ({ T with way := atB T.way false ((T.way false).eraseIdx jj) } : TW)) = x) := ⟨_, Lib.hid rfl⟩; have HO0 : Hid (T0.Ok B) := Lib.hid (by
        rw [← HT0.out]; split
        ·exact hO
        ·exact hO.lose false jj)
       go_upto_if 87 with fail
       go_cut [] from 88 to 112 (fun wx => TwA a0 a1 w0 wx g T0 (By (.slice AZ body.length cZ) body :: Ce (w3.heap.size) 51 #[.int .i64 kind, .int .i64 ffr, .int .i64 fto, .int .u64 (finc : Int), .int .u64 (fconn : Int), .int .u64 (pinc : Int), .int .u64 (pconn : Int), .int .u64 (fack : Int), .int .u64 (fseq : Int), .slice AZ body.length cZ] :: Ce w.heap.size 37 #[.int .i64 d, .int .i64 at_, .int .i64 nn] :: Qs))
       case first =>
        by_cases h3 : d = 3
        ·subst h3; have HT3 : Hid (T = T0) := Lib.hid (by rw [← HT0.out, if_pos rfl])
         go_wp2_with fail
         go_meet
         case rel =>
          rw [← HT3.out]; exact HA5.out
        ·have e3 : (d != 3) = true := by simpa using h3
         have H3 := Lib.hid h3; have hjn2 : jj + 1 ≤ nl := hjn; have hone := frRow_oneB (LP := W0) (i := 7) HS5.out rfl (fun x hx => HQW.out.2.2.1 _ hx); have HX1 : Hid (∀ u ∈ (fR_ W0).take (jj * 10), u.oneCell' = true) := Lib.hid (fun u hu => hone u (List.mem_of_mem_take hu)); have HX2 : Hid (∀ u ∈ (fR_ W0).drop ((jj + 1) * 10), u.oneCell' = true) := Lib.hid (fun u hu => hone u (List.mem_of_mem_drop hu)); obtain ⟨jk, Hjk⟩ : ∃ y, Hid (jj + 1 = y) := ⟨_, Lib.hid rfl⟩; obtain ⟨SB, HSB2⟩ : ∃ y, Hid ((if cV = jj + 1 then (some ⟨bw, ow, none⟩ : Option Addr) else (some (⟨bw, ow, none⟩ : Addr)).map (·.add ((jj + 1) * 10))) = y) := ⟨_, Lib.hid rfl⟩; obtain ⟨n2, Hn2⟩ : ∃ y, Hid (nl - (jj + 1) = y) := ⟨_, Lib.hid rfl⟩; obtain ⟨c2, Hc2⟩ : ∃ y, Hid (cV - (jj + 1) = y) := ⟨_, Lib.hid rfl⟩; obtain ⟨nn2, HN2⟩ : ∃ y, Hid (jj + n2 = y) := ⟨_, Lib.hid rfl⟩; have hfl : (fR_ W0).length = nl * 10 := by rw [frRow_len, Hnl.out]
         have HL1 : Hid (((fR_ W0).take (jj * 10)).length = jj * 10) := Lib.hid (by rw [List.length_take, hfl]; omega); have HL2 : Hid (((fR_ W0).drop ((jj + 1) * 10)).length = n2 * 10) := Lib.hid (by rw [List.length_drop, hfl, ← Hn2.out, Nat.sub_mul]); have HR1 : Hid (∀ W, (Instr.slice 30 (.slice (some ⟨bw, ow, none⟩) nl cV) none (some (.int .i64 (jj : Int))) none).run Try.prog W = .ok (.slice (some ⟨bw, ow, none⟩) jj cV) W) := Lib.hid (fun W => run_toF W _ nl cV jj (by omega)); have HR2 : Hid (∀ W, (Instr.slice 30 (.slice (some ⟨bw, ow, none⟩) nl cV) (some (.int .i64 (jk : Int))) none none).run Try.prog W = .ok (.slice SB n2 c2) W) := Lib.hid (fun W => by
          have hq := run_fromF W (some ⟨bw, ow, none⟩) nl cV (jj + 1) hjn2; rw [HSB2.out, Hn2.out, Hc2.out, Hjk.out] at hq; exact hq)
         have HH2 : Hid (∀ W, OwnO W 51 10 (.slice (some ⟨bw, ow, none⟩) nl cV) nl (fR_ W0) → Has W W.heap.size SB ((fR_ W0).drop ((jj + 1) * 10))) := Lib.hid (fun W ho => by
          obtain ⟨A', c', e', _, _, hh⟩ := ownO_form (ownO_from ho hjn2).1; rw [HSB2.out] at e'; simp only [Value.slice.injEq] at e'; rw [e'.1]; exact hh)
         have ejk : IntKind.i64.wrap ((jj : Int) + 1) = (jk : Int) := by rw [IntKind.wrap_i64, ← Hjk.out]; omega
         have hn2 : n2 ≤ 1000000 := by rw [← Hn2.out]; omega
         have hjb : jj ≤ 1000000 := by omega
         have HKW : ∀ (dn : Nat → Bool) (xv : Nat → Value) (W : World), (if dn 25 = true then ∃ v, Sep w0 W (Rw 51 10 v nn2 (((fR_ W0).take (jj * 10)) ++ ((fR_ W0).drop ((jj + 1) * 10))) :: Ce g 34 #[.pointer (some ⟨a0, 0, none⟩), .pointer (some ⟨a1, 0, none⟩), .int .u64 (((T.l false).si : Nat) : Int), .int .u64 (((T.l true).si : Nat) : Int), .int .u64 ((T.now false : Nat) : Int), .int .u64 ((T.now true : Nat) : Int), v, v1, .map (some bs), .map (some bt), .int .i64 ((T.n : Nat) : Int), .bool false] :: Ce a0 72 ((T.l false).cells b0) :: BoxT b0 (T.l false).box :: Ce a1 72 ((T.l true).cells b1) :: BoxT b1 (T.l true).box :: RwO 51 10 (.slice (some ⟨bw, ow, none⟩) nl cV) nl (fR_ W0) :: RwO 51 10 v1 W1.length (fR_ W1) :: Bods BB :: MapT bs T.sent :: MapT bt T.told :: By (.slice AZ body.length cZ) body :: Ce (w3.heap.size) 51 #[.int .i64 kind, .int .i64 ffr, .int .i64 fto, .int .u64 (finc : Int), .int .u64 (fconn : Int), .int .u64 (pinc : Int), .int .u64 (pconn : Int), .int .u64 (fack : Int), .int .u64 (fseq : Int), .slice AZ body.length cZ] :: Ce w.heap.size 37 #[.int .i64 d, .int .i64 at_, .int .i64 nn] :: Qs) else if dn 21 = true then Sep w0 W (Rw 51 10 (xv 21) nn2 (((fR_ W0).take (jj * 10)) ++ ((fR_ W0).drop ((jj + 1) * 10))) :: Ce g 34 #[.pointer (some ⟨a0, 0, none⟩), .pointer (some ⟨a1, 0, none⟩), .int .u64 (((T.l false).si : Nat) : Int), .int .u64 (((T.l true).si : Nat) : Int), .int .u64 ((T.now false : Nat) : Int), .int .u64 ((T.now true : Nat) : Int), .slice (some ⟨bw, ow, none⟩) nl cV, v1, .map (some bs), .map (some bt), .int .i64 ((T.n : Nat) : Int), .bool false] :: Ce a0 72 ((T.l false).cells b0) :: BoxT b0 (T.l false).box :: Ce a1 72 ((T.l true).cells b1) :: BoxT b1 (T.l true).box :: RwO 51 10 (.slice (some ⟨bw, ow, none⟩) nl cV) nl (fR_ W0) :: RwO 51 10 v1 W1.length (fR_ W1) :: Bods BB :: MapT bs T.sent :: MapT bt T.told :: By (.slice AZ body.length cZ) body :: Ce (w3.heap.size) 51 #[.int .i64 kind, .int .i64 ffr, .int .i64 fto, .int .u64 (finc : Int), .int .u64 (fconn : Int), .int .u64 (pinc : Int), .int .u64 (pconn : Int), .int .u64 (fack : Int), .int .u64 (fseq : Int), .slice AZ body.length cZ] :: Ce w.heap.size 37 #[.int .i64 d, .int .i64 at_, .int .i64 nn] :: Qs) else if dn 11 = true then Sep w0 W (Rw 51 10 (xv 11) jj ((fR_ W0).take (jj * 10)) :: Ce g 34 #[.pointer (some ⟨a0, 0, none⟩), .pointer (some ⟨a1, 0, none⟩), .int .u64 (((T.l false).si : Nat) : Int), .int .u64 (((T.l true).si : Nat) : Int), .int .u64 ((T.now false : Nat) : Int), .int .u64 ((T.now true : Nat) : Int), .slice (some ⟨bw, ow, none⟩) nl cV, v1, .map (some bs), .map (some bt), .int .i64 ((T.n : Nat) : Int), .bool false] :: Ce a0 72 ((T.l false).cells b0) :: BoxT b0 (T.l false).box :: Ce a1 72 ((T.l true).cells b1) :: BoxT b1 (T.l true).box :: RwO 51 10 (.slice (some ⟨bw, ow, none⟩) nl cV) nl (fR_ W0) :: RwO 51 10 v1 W1.length (fR_ W1) :: Bods BB :: MapT bs T.sent :: MapT bt T.told :: By (.slice AZ body.length cZ) body :: Ce (w3.heap.size) 51 #[.int .i64 kind, .int .i64 ffr, .int .i64 fto, .int .u64 (finc : Int), .int .u64 (fconn : Int), .int .u64 (pinc : Int), .int .u64 (pconn : Int), .int .u64 (fack : Int), .int .u64 (fseq : Int), .slice AZ body.length cZ] :: Ce w.heap.size 37 #[.int .i64 d, .int .i64 at_, .int .i64 nn] :: Qs) else if dn 2 = true then Sep w0 W (Rw 51 10 (xv 2) 0 [] :: Ce g 34 #[.pointer (some ⟨a0, 0, none⟩), .pointer (some ⟨a1, 0, none⟩), .int .u64 (((T.l false).si : Nat) : Int), .int .u64 (((T.l true).si : Nat) : Int), .int .u64 ((T.now false : Nat) : Int), .int .u64 ((T.now true : Nat) : Int), .slice (some ⟨bw, ow, none⟩) nl cV, v1, .map (some bs), .map (some bt), .int .i64 ((T.n : Nat) : Int), .bool false] :: Ce a0 72 ((T.l false).cells b0) :: BoxT b0 (T.l false).box :: Ce a1 72 ((T.l true).cells b1) :: BoxT b1 (T.l true).box :: RwO 51 10 (.slice (some ⟨bw, ow, none⟩) nl cV) nl (fR_ W0) :: RwO 51 10 v1 W1.length (fR_ W1) :: Bods BB :: MapT bs T.sent :: MapT bt T.told :: By (.slice AZ body.length cZ) body :: Ce (w3.heap.size) 51 #[.int .i64 kind, .int .i64 ffr, .int .i64 fto, .int .u64 (finc : Int), .int .u64 (fconn : Int), .int .u64 (pinc : Int), .int .u64 (pconn : Int), .int .u64 (fack : Int), .int .u64 (fseq : Int), .slice AZ body.length cZ] :: Ce w.heap.size 37 #[.int .i64 d, .int .i64 at_, .int .i64 nn] :: Qs) else Sep w0 W (Ce g 34 #[.pointer (some ⟨a0, 0, none⟩), .pointer (some ⟨a1, 0, none⟩), .int .u64 (((T.l false).si : Nat) : Int), .int .u64 (((T.l true).si : Nat) : Int), .int .u64 ((T.now false : Nat) : Int), .int .u64 ((T.now true : Nat) : Int), .slice (some ⟨bw, ow, none⟩) nl cV, v1, .map (some bs), .map (some bt), .int .i64 ((T.n : Nat) : Int), .bool false] :: Ce a0 72 ((T.l false).cells b0) :: BoxT b0 (T.l false).box :: Ce a1 72 ((T.l true).cells b1) :: BoxT b1 (T.l true).box :: RwO 51 10 (.slice (some ⟨bw, ow, none⟩) nl cV) nl (fR_ W0) :: RwO 51 10 v1 W1.length (fR_ W1) :: Bods BB :: MapT bs T.sent :: MapT bt T.told :: By (.slice AZ body.length cZ) body :: Ce (w3.heap.size) 51 #[.int .i64 kind, .int .i64 ffr, .int .i64 fto, .int .u64 (finc : Int), .int .u64 (fconn : Int), .int .u64 (pinc : Int), .int .u64 (pconn : Int), .int .u64 (fack : Int), .int .u64 (fseq : Int), .slice AZ body.length cZ] :: Ce w.heap.size 37 #[.int .i64 d, .int .i64 at_, .int .i64 nn] :: Qs)) → dn 25 = false → W.cell? ⟨g, 6, none⟩ = some (.slice (some ⟨bw, ow, none⟩) nl cV) := fun dn xv W h h0 => by
          rw [if_neg (by simp [h0])] at h; split at h
          ·exact cA (i := 1) h rfl 6 rfl
          split at h
          ·exact cA (i := 1) h rfl 6 rfl
          split at h
          ·exact cA (i := 1) h rfl 6 rfl
          ·exact cA (i := 0) h rfl 6 rfl
         clear hone hfl h3 hjn2 hjn hcV hnb HA5 kd h0 h1 h234 hO hbN hoN
         go_wp2_with fail
         refine wRF (fun dn xv W => if dn 25 = true then ∃ v, Sep w0 W (Rw 51 10 v nn2 (((fR_ W0).take (jj * 10)) ++ ((fR_ W0).drop ((jj + 1) * 10))) :: Ce g 34 #[.pointer (some ⟨a0, 0, none⟩), .pointer (some ⟨a1, 0, none⟩), .int .u64 (((T.l false).si : Nat) : Int), .int .u64 (((T.l true).si : Nat) : Int), .int .u64 ((T.now false : Nat) : Int), .int .u64 ((T.now true : Nat) : Int), v, v1, .map (some bs), .map (some bt), .int .i64 ((T.n : Nat) : Int), .bool false] :: Ce a0 72 ((T.l false).cells b0) :: BoxT b0 (T.l false).box :: Ce a1 72 ((T.l true).cells b1) :: BoxT b1 (T.l true).box :: RwO 51 10 (.slice (some ⟨bw, ow, none⟩) nl cV) nl (fR_ W0) :: RwO 51 10 v1 W1.length (fR_ W1) :: Bods BB :: MapT bs T.sent :: MapT bt T.told :: By (.slice AZ body.length cZ) body :: Ce (w3.heap.size) 51 #[.int .i64 kind, .int .i64 ffr, .int .i64 fto, .int .u64 (finc : Int), .int .u64 (fconn : Int), .int .u64 (pinc : Int), .int .u64 (pconn : Int), .int .u64 (fack : Int), .int .u64 (fseq : Int), .slice AZ body.length cZ] :: Ce w.heap.size 37 #[.int .i64 d, .int .i64 at_, .int .i64 nn] :: Qs) else if dn 21 = true then Sep w0 W (Rw 51 10 (xv 21) nn2 (((fR_ W0).take (jj * 10)) ++ ((fR_ W0).drop ((jj + 1) * 10))) :: Ce g 34 #[.pointer (some ⟨a0, 0, none⟩), .pointer (some ⟨a1, 0, none⟩), .int .u64 (((T.l false).si : Nat) : Int), .int .u64 (((T.l true).si : Nat) : Int), .int .u64 ((T.now false : Nat) : Int), .int .u64 ((T.now true : Nat) : Int), .slice (some ⟨bw, ow, none⟩) nl cV, v1, .map (some bs), .map (some bt), .int .i64 ((T.n : Nat) : Int), .bool false] :: Ce a0 72 ((T.l false).cells b0) :: BoxT b0 (T.l false).box :: Ce a1 72 ((T.l true).cells b1) :: BoxT b1 (T.l true).box :: RwO 51 10 (.slice (some ⟨bw, ow, none⟩) nl cV) nl (fR_ W0) :: RwO 51 10 v1 W1.length (fR_ W1) :: Bods BB :: MapT bs T.sent :: MapT bt T.told :: By (.slice AZ body.length cZ) body :: Ce (w3.heap.size) 51 #[.int .i64 kind, .int .i64 ffr, .int .i64 fto, .int .u64 (finc : Int), .int .u64 (fconn : Int), .int .u64 (pinc : Int), .int .u64 (pconn : Int), .int .u64 (fack : Int), .int .u64 (fseq : Int), .slice AZ body.length cZ] :: Ce w.heap.size 37 #[.int .i64 d, .int .i64 at_, .int .i64 nn] :: Qs) else if dn 11 = true then Sep w0 W (Rw 51 10 (xv 11) jj ((fR_ W0).take (jj * 10)) :: Ce g 34 #[.pointer (some ⟨a0, 0, none⟩), .pointer (some ⟨a1, 0, none⟩), .int .u64 (((T.l false).si : Nat) : Int), .int .u64 (((T.l true).si : Nat) : Int), .int .u64 ((T.now false : Nat) : Int), .int .u64 ((T.now true : Nat) : Int), .slice (some ⟨bw, ow, none⟩) nl cV, v1, .map (some bs), .map (some bt), .int .i64 ((T.n : Nat) : Int), .bool false] :: Ce a0 72 ((T.l false).cells b0) :: BoxT b0 (T.l false).box :: Ce a1 72 ((T.l true).cells b1) :: BoxT b1 (T.l true).box :: RwO 51 10 (.slice (some ⟨bw, ow, none⟩) nl cV) nl (fR_ W0) :: RwO 51 10 v1 W1.length (fR_ W1) :: Bods BB :: MapT bs T.sent :: MapT bt T.told :: By (.slice AZ body.length cZ) body :: Ce (w3.heap.size) 51 #[.int .i64 kind, .int .i64 ffr, .int .i64 fto, .int .u64 (finc : Int), .int .u64 (fconn : Int), .int .u64 (pinc : Int), .int .u64 (pconn : Int), .int .u64 (fack : Int), .int .u64 (fseq : Int), .slice AZ body.length cZ] :: Ce w.heap.size 37 #[.int .i64 d, .int .i64 at_, .int .i64 nn] :: Qs) else if dn 2 = true then Sep w0 W (Rw 51 10 (xv 2) 0 [] :: Ce g 34 #[.pointer (some ⟨a0, 0, none⟩), .pointer (some ⟨a1, 0, none⟩), .int .u64 (((T.l false).si : Nat) : Int), .int .u64 (((T.l true).si : Nat) : Int), .int .u64 ((T.now false : Nat) : Int), .int .u64 ((T.now true : Nat) : Int), .slice (some ⟨bw, ow, none⟩) nl cV, v1, .map (some bs), .map (some bt), .int .i64 ((T.n : Nat) : Int), .bool false] :: Ce a0 72 ((T.l false).cells b0) :: BoxT b0 (T.l false).box :: Ce a1 72 ((T.l true).cells b1) :: BoxT b1 (T.l true).box :: RwO 51 10 (.slice (some ⟨bw, ow, none⟩) nl cV) nl (fR_ W0) :: RwO 51 10 v1 W1.length (fR_ W1) :: Bods BB :: MapT bs T.sent :: MapT bt T.told :: By (.slice AZ body.length cZ) body :: Ce (w3.heap.size) 51 #[.int .i64 kind, .int .i64 ffr, .int .i64 fto, .int .u64 (finc : Int), .int .u64 (fconn : Int), .int .u64 (pinc : Int), .int .u64 (pconn : Int), .int .u64 (fack : Int), .int .u64 (fseq : Int), .slice AZ body.length cZ] :: Ce w.heap.size 37 #[.int .i64 d, .int .i64 at_, .int .i64 nn] :: Qs) else Sep w0 W (Ce g 34 #[.pointer (some ⟨a0, 0, none⟩), .pointer (some ⟨a1, 0, none⟩), .int .u64 (((T.l false).si : Nat) : Int), .int .u64 (((T.l true).si : Nat) : Int), .int .u64 ((T.now false : Nat) : Int), .int .u64 ((T.now true : Nat) : Int), .slice (some ⟨bw, ow, none⟩) nl cV, v1, .map (some bs), .map (some bt), .int .i64 ((T.n : Nat) : Int), .bool false] :: Ce a0 72 ((T.l false).cells b0) :: BoxT b0 (T.l false).box :: Ce a1 72 ((T.l true).cells b1) :: BoxT b1 (T.l true).box :: RwO 51 10 (.slice (some ⟨bw, ow, none⟩) nl cV) nl (fR_ W0) :: RwO 51 10 v1 W1.length (fR_ W1) :: Bods BB :: MapT bs T.sent :: MapT bt T.told :: By (.slice AZ body.length cZ) body :: Ce (w3.heap.size) 51 #[.int .i64 kind, .int .i64 ffr, .int .i64 fto, .int .u64 (finc : Int), .int .u64 (fconn : Int), .int .u64 (pinc : Int), .int .u64 (pconn : Int), .int .u64 (fack : Int), .int .u64 (fseq : Int), .slice AZ body.length cZ] :: Ce w.heap.size 37 #[.int .i64 d, .int .i64 at_, .int .i64 nn] :: Qs)) (fun _ _ => True) [fun v _ => v = .pointer (some ⟨g, 0, none⟩), fun v _ => v = .int .i64 0, fun v _ => True, fun v _ => v = .pointer (some ⟨g, 0, none⟩), fun v _ => v = .int .i64 0, fun v _ => v = .pointer (some ⟨g, 0, none⟩), fun v _ => v = .pointer (some ⟨g, 6, none⟩), fun v _ => v = .pointer (some ⟨g, 6, none⟩), fun v _ => v = .slice (some ⟨bw, ow, none⟩) nl cV, fun v _ => v = .int .i64 (jj : Int), fun v _ => v = .slice (some ⟨bw, ow, none⟩) jj cV, fun v _ => True, fun v _ => v = .pointer (some ⟨g, 0, none⟩), fun v _ => v = .int .i64 0, fun v _ => v = .pointer (some ⟨g, 0, none⟩), fun v _ => v = .pointer (some ⟨g, 6, none⟩), fun v _ => v = .pointer (some ⟨g, 6, none⟩), fun v _ => v = .slice (some ⟨bw, ow, none⟩) nl cV, fun v _ => v = .int .i64 (jj : Int), fun v _ => v = .int .i64 (jk : Int), fun v _ => v = .slice SB n2 c2, fun v _ => True, fun v _ => v = .pointer (some ⟨g, 0, none⟩), fun v _ => v = .pointer (some ⟨g, 6, none⟩), fun v _ => v = .pointer (some ⟨g, 6, none⟩), fun v _ => True] (by kernel_rfl) (by kernel_rfl) (by kernel_rfl) (by kernel_rfl) (fun xv => by simpa using HS5.out.drew)
          (by repeat (first | exact trivial | refine ⟨fun _ _ _ _ h => h, ?_⟩)) ?_ ?_
         ·refine EC 1 rfl (fun h i W F a b c d e H K f => ?_) ?_
          ·have f0 : F.tmps.getD 0 undef = .pointer (some ⟨g, 0, none⟩) := (a 0).trans (by kernel_rfl); clear H c b d a; refine oP rfl ?_; go_simp; exact f.out _ _ rfl trivial e
          refine EC 2 rfl (fun g h W F a b c d e H K f => ?_) ?_
          ·have f4 : F.tmps.getD 4 undef = .int .i64 0 := (a 4).trans (by kernel_rfl); clear H c b d a; refine oP rfl ?_; go_simp; exact f.out _ _ rfl trivial e
          refine EC 3 rfl (fun i k W F a b c e f H K h => ?_) ?_
          ·have q11 : i 11 = false := c 11 (.edge (by kernel_rfl)); have q21 : i 21 = false := c 21 (.more (j := 11) (by kernel_rfl) (.edge (by kernel_rfl))); have q25 : i 25 = false := c 25 (.more (j := 21) (by kernel_rfl) (.more (j := 11) (by kernel_rfl) (.edge (by kernel_rfl)))); rw [if_neg (by simp [q25]), if_neg (by simp [q21]), if_neg (by simp [q11]), if_neg (by simp [b])] at f; have hS := f; clear f c b e a H; refine oP rfl ?_; go_simp; have hs : Sep w0 (W.alloc (.cells #[] 51)) (Rw 51 10 (.slice (some ⟨W.heap.size, 0, none⟩) 0 0) 0 [] :: Ce g 34 #[.pointer (some ⟨a0, 0, none⟩), .pointer (some ⟨a1, 0, none⟩), .int .u64 (((T.l false).si : Nat) : Int), .int .u64 (((T.l true).si : Nat) : Int), .int .u64 ((T.now false : Nat) : Int), .int .u64 ((T.now true : Nat) : Int), .slice (some ⟨bw, ow, none⟩) nl cV, v1, .map (some bs), .map (some bt), .int .i64 ((T.n : Nat) : Int), .bool false] :: Ce a0 72 ((T.l false).cells b0) :: BoxT b0 (T.l false).box :: Ce a1 72 ((T.l true).cells b1) :: BoxT b1 (T.l true).box :: RwO 51 10 (.slice (some ⟨bw, ow, none⟩) nl cV) nl (fR_ W0) :: RwO 51 10 v1 W1.length (fR_ W1) :: Bods BB :: MapT bs T.sent :: MapT bt T.told :: By (.slice AZ body.length cZ) body :: Ce (w3.heap.size) 51 #[.int .i64 kind, .int .i64 ffr, .int .i64 fto, .int .u64 (finc : Int), .int .u64 (fconn : Int), .int .u64 (pinc : Int), .int .u64 (pconn : Int), .int .u64 (fack : Int), .int .u64 (fseq : Int), .slice AZ body.length cZ] :: Ce w.heap.size 37 #[.int .i64 d, .int .i64 at_, .int .i64 nn] :: Qs) := sep_rwEmpty hS; exact h.out _ _ trivial trivial (by simpa [upB, upd, q11, q21, q25] using hs)
          refine EC 4 rfl (fun h i W F a b c d e H K f => ?_) ?_
          ·have f0 : F.tmps.getD 0 undef = .pointer (some ⟨g, 0, none⟩) := (a 0).trans (by kernel_rfl); clear H c b d a; refine oP rfl ?_; go_simp; exact f.out _ _ rfl trivial e
          refine EC 5 rfl (fun g h W F a b c d e H K f => ?_) ?_
          ·have f4 : F.tmps.getD 4 undef = .int .i64 0 := (a 4).trans (by kernel_rfl); clear H c b d a; refine oP rfl ?_; go_simp; exact f.out _ _ rfl trivial e
          refine EC 6 rfl (fun g h W F a b c d e H K f => ?_) ?_
          ·have f91 := gE (a 91) (by kernel_rfl) (H 3) (by kernel_rfl); clear H c b d a; refine oP rfl ?_; go_simp; exact f.out _ _ rfl trivial e
          refine EC 7 rfl (fun g h W F a b c d e H K f => ?_) ?_
          ·have f93 := gE (a 93) (by kernel_rfl) (H 5) (by kernel_rfl); clear H c b d a; refine oP rfl ?_; go_simp; exact f.out _ _ rfl trivial e
          refine EC 8 rfl (fun g h W F a b c d e H K f => ?_) ?_
          ·have f92 := gE (a 92) (by kernel_rfl) (H 4) (by kernel_rfl); have f94 := gE (a 94) (by kernel_rfl) (H 6) (by kernel_rfl); clear H c b d a; refine oP rfl ?_; go_simp; exact f.out _ _ rfl trivial e
          refine EC 9 rfl (fun g h W F a b c d e H K f => ?_) ?_
          ·have f95 := gE (a 95) (by kernel_rfl) (H 7) (by kernel_rfl); have kk := HKW g h W e (c 25 (.more (j := 21) (by kernel_rfl) (.more (j := 11) (by kernel_rfl) (.more (j := 10) (by kernel_rfl) (.edge (by kernel_rfl)))))); clear H c b d a; refine oP rfl ?_; go_simp; exact f.out _ _ rfl trivial e
          refine EC 10 rfl (fun g h W F a b c d e H K f => ?_) ?_
          ·have f6 : F.tmps.getD 6 undef = .int .i64 (jj : Int) := (a 6).trans (by kernel_rfl); clear H c b d a; refine oP rfl ?_; go_simp; exact f.out _ _ rfl trivial e
          refine EC 11 rfl (fun g h W F a b c d e H K f => ?_) ?_
          ·have f96 := gE (a 96) (by kernel_rfl) (H 8) (by kernel_rfl); have f97 := gE (a 97) (by kernel_rfl) (H 9) (by kernel_rfl); have rs := HR1.out W; clear H c b d a; refine oP rfl ?_; go_simp; exact f.out _ _ rfl trivial e
          refine EC 12 rfl (fun k o W F a b c e f H K h => ?_) ?_
          ·have f90 : F.tmps.getD 90 undef = o 2 := (a 90).trans (by kernel_rfl); have f98 := gE (a 98) (by kernel_rfl) (H 10) (by kernel_rfl); have q2 : k 2 = true := (H 2 (.edge (by kernel_rfl))).1; have q21 : k 21 = false := c 21 (.edge (by kernel_rfl)); have q25 : k 25 = false := c 25 (.more (j := 21) (by kernel_rfl) (.edge (by kernel_rfl))); rw [if_neg (by simp [q25]), if_neg (by simp [q21]), if_neg (by simp [b]), if_pos q2] at f; have hS := f; clear f c b e a H; refine oP rfl ?_; refine sep_opAppW rowFrames (i := 0) (s := .tmp 90) (x := .tmp 98) (m := jj) (news := ((fR_ W0).take (jj * 10))) (by rfl) f90 f98 hS rfl HL1.out ((sep_rwoHas (i := 6) hS rfl).take _) HX1.out (by unfold maxLen; omega) (by omega) ?_; intro v W' hs0; have hs : Sep w0 W' (Rw 51 10 v jj ((fR_ W0).take (jj * 10)) :: Ce g 34 #[.pointer (some ⟨a0, 0, none⟩), .pointer (some ⟨a1, 0, none⟩), .int .u64 (((T.l false).si : Nat) : Int), .int .u64 (((T.l true).si : Nat) : Int), .int .u64 ((T.now false : Nat) : Int), .int .u64 ((T.now true : Nat) : Int), .slice (some ⟨bw, ow, none⟩) nl cV, v1, .map (some bs), .map (some bt), .int .i64 ((T.n : Nat) : Int), .bool false] :: Ce a0 72 ((T.l false).cells b0) :: BoxT b0 (T.l false).box :: Ce a1 72 ((T.l true).cells b1) :: BoxT b1 (T.l true).box :: RwO 51 10 (.slice (some ⟨bw, ow, none⟩) nl cV) nl (fR_ W0) :: RwO 51 10 v1 W1.length (fR_ W1) :: Bods BB :: MapT bs T.sent :: MapT bt T.told :: By (.slice AZ body.length cZ) body :: Ce (w3.heap.size) 51 #[.int .i64 kind, .int .i64 ffr, .int .i64 fto, .int .u64 (finc : Int), .int .u64 (fconn : Int), .int .u64 (pinc : Int), .int .u64 (pconn : Int), .int .u64 (fack : Int), .int .u64 (fseq : Int), .slice AZ body.length cZ] :: Ce w.heap.size 37 #[.int .i64 d, .int .i64 at_, .int .i64 nn] :: Qs) := by simpa using hs0
           exact h.out v W' trivial trivial (by simpa [upB, upd, q21, q25] using hs)
          refine EC 13 rfl (fun h i W F a b c d e H K f => ?_) ?_
          ·have f0 : F.tmps.getD 0 undef = .pointer (some ⟨g, 0, none⟩) := (a 0).trans (by kernel_rfl); clear H c b d a; refine oP rfl ?_; go_simp; exact f.out _ _ rfl trivial e
          refine EC 14 rfl (fun g h W F a b c d e H K f => ?_) ?_
          ·have f4 : F.tmps.getD 4 undef = .int .i64 0 := (a 4).trans (by kernel_rfl); clear H c b d a; refine oP rfl ?_; go_simp; exact f.out _ _ rfl trivial e
          refine EC 15 rfl (fun g h W F a b c d e H K f => ?_) ?_
          ·have f100 := gE (a 100) (by kernel_rfl) (H 12) (by kernel_rfl); clear H c b d a; refine oP rfl ?_; go_simp; exact f.out _ _ rfl trivial e
          refine EC 16 rfl (fun g h W F a b c d e H K f => ?_) ?_
          ·have f102 := gE (a 102) (by kernel_rfl) (H 14) (by kernel_rfl); clear H c b d a; refine oP rfl ?_; go_simp; exact f.out _ _ rfl trivial e
          refine EC 17 rfl (fun g h W F a b c d e H K f => ?_) ?_
          ·have f101 := gE (a 101) (by kernel_rfl) (H 13) (by kernel_rfl); have f103 := gE (a 103) (by kernel_rfl) (H 15) (by kernel_rfl); clear H c b d a; refine oP rfl ?_; go_simp; exact f.out _ _ rfl trivial e
          refine EC 18 rfl (fun g h W F a b c d e H K f => ?_) ?_
          ·have f104 := gE (a 104) (by kernel_rfl) (H 16) (by kernel_rfl); have kk := HKW g h W e (c 25 (.more (j := 21) (by kernel_rfl) (.more (j := 20) (by kernel_rfl) (.edge (by kernel_rfl))))); clear H c b d a; refine oP rfl ?_; go_simp; exact f.out _ _ rfl trivial e
          refine EC 19 rfl (fun g h W F a b c d e H K f => ?_) ?_
          ·have f6 : F.tmps.getD 6 undef = .int .i64 (jj : Int) := (a 6).trans (by kernel_rfl); clear H c b d a; refine oP rfl ?_; go_simp; exact f.out _ _ rfl trivial e
          refine EC 20 rfl (fun g h W F a b c d e H K f => ?_) ?_
          ·have f106 := gE (a 106) (by kernel_rfl) (H 18) (by kernel_rfl); clear H c b d a; refine oP rfl ?_; go_simp; exact f.out _ _ rfl trivial e
          refine EC 21 rfl (fun g h W F a b c d e H K f => ?_) ?_
          ·have f105 := gE (a 105) (by kernel_rfl) (H 17) (by kernel_rfl); have f107 := gE (a 107) (by kernel_rfl) (H 19) (by kernel_rfl); have rs := HR2.out W; clear H c b d a; refine oP rfl ?_; go_simp; exact f.out _ _ rfl trivial e
          refine EC 22 rfl (fun j k W F a b c e f H K h => ?_) ?_
          ·have f99 : F.tmps.getD 99 undef = k 11 := (a 99).trans (by kernel_rfl); have f108 := gE (a 108) (by kernel_rfl) (H 20) (by kernel_rfl); have q11 : j 11 = true := (H 11 (.edge (by kernel_rfl))).1; have q25 : j 25 = false := c 25 (.edge (by kernel_rfl)); rw [if_neg (by simp [q25]), if_neg (by simp [b]), if_pos q11] at f; have hS := f; clear f c b e a H; refine oP rfl ?_; refine sep_opAppW rowFrames (i := 0) (s := .tmp 99) (x := .tmp 108) (m := n2) (news := ((fR_ W0).drop ((jj + 1) * 10))) (by rfl) f99 f108 hS rfl HL2.out (HH2.out W (sep_rwoOwn (i := 6) hS rfl)) HX2.out (by unfold maxLen; omega) (by omega) ?_; intro v W' hs0; rw [HN2.out] at hs0; have hs : Sep w0 W' (Rw 51 10 v nn2 (((fR_ W0).take (jj * 10)) ++ ((fR_ W0).drop ((jj + 1) * 10))) :: Ce g 34 #[.pointer (some ⟨a0, 0, none⟩), .pointer (some ⟨a1, 0, none⟩), .int .u64 (((T.l false).si : Nat) : Int), .int .u64 (((T.l true).si : Nat) : Int), .int .u64 ((T.now false : Nat) : Int), .int .u64 ((T.now true : Nat) : Int), .slice (some ⟨bw, ow, none⟩) nl cV, v1, .map (some bs), .map (some bt), .int .i64 ((T.n : Nat) : Int), .bool false] :: Ce a0 72 ((T.l false).cells b0) :: BoxT b0 (T.l false).box :: Ce a1 72 ((T.l true).cells b1) :: BoxT b1 (T.l true).box :: RwO 51 10 (.slice (some ⟨bw, ow, none⟩) nl cV) nl (fR_ W0) :: RwO 51 10 v1 W1.length (fR_ W1) :: Bods BB :: MapT bs T.sent :: MapT bt T.told :: By (.slice AZ body.length cZ) body :: Ce (w3.heap.size) 51 #[.int .i64 kind, .int .i64 ffr, .int .i64 fto, .int .u64 (finc : Int), .int .u64 (fconn : Int), .int .u64 (pinc : Int), .int .u64 (pconn : Int), .int .u64 (fack : Int), .int .u64 (fseq : Int), .slice AZ body.length cZ] :: Ce w.heap.size 37 #[.int .i64 d, .int .i64 at_, .int .i64 nn] :: Qs) := hs0; exact h.out v W' trivial trivial (by simpa [upB, upd, q25] using hs)
          refine EC 23 rfl (fun g h W F a b c d e H K f => ?_) ?_
          ·have f88 := gE (a 88) (by kernel_rfl) (H 0) (by kernel_rfl); clear H c b d a; refine oP rfl ?_; go_simp; exact f.out _ _ rfl trivial e
          refine EC 24 rfl (fun g h W F a b c d e H K f => ?_) ?_
          ·have f110 := gE (a 110) (by kernel_rfl) (H 22) (by kernel_rfl); clear H c b d a; refine oP rfl ?_; go_simp; exact f.out _ _ rfl trivial e
          refine EC 25 rfl (fun g h W F a b c d e H K f => ?_) ?_
          ·have f89 := gE (a 89) (by kernel_rfl) (H 1) (by kernel_rfl); have f111 := gE (a 111) (by kernel_rfl) (H 23) (by kernel_rfl); clear H c b d a; refine oP rfl ?_; go_simp; exact f.out _ _ rfl trivial e
          refine EC 26 rfl (fun j k W F a b c e f H K h => ?_) ?_
          ·have f109 : F.tmps.getD 109 undef = k 21 := (a 109).trans (by kernel_rfl); have f112 := gE (a 112) (by kernel_rfl) (H 24) (by kernel_rfl); have q21 : j 21 = true := (H 21 (.edge (by kernel_rfl))).1; rw [if_neg (by simp [b]), if_pos q21] at f; have hS := f; clear f c b e a H; refine oP rfl ?_; obtain ⟨A2, c3, e2, _⟩ := sep_rwForm (i := 0) hS rfl; have hc3 := cA (i := 1) hS rfl 6 rfl; have hf3 := cFz (i := 1) hS rfl 6; rw [e2] at hS; have hs0 := cS (i := 1) hS rfl 6 (.slice A2 nn2 c3); have hs : ∃ v, Sep w0 (W.setCell ⟨g, 6, none⟩ (.slice A2 nn2 c3)) (Rw 51 10 v nn2 (((fR_ W0).take (jj * 10)) ++ ((fR_ W0).drop ((jj + 1) * 10))) :: Ce g 34 #[.pointer (some ⟨a0, 0, none⟩), .pointer (some ⟨a1, 0, none⟩), .int .u64 (((T.l false).si : Nat) : Int), .int .u64 (((T.l true).si : Nat) : Int), .int .u64 ((T.now false : Nat) : Int), .int .u64 ((T.now true : Nat) : Int), v, v1, .map (some bs), .map (some bt), .int .i64 ((T.n : Nat) : Int), .bool false] :: Ce a0 72 ((T.l false).cells b0) :: BoxT b0 (T.l false).box :: Ce a1 72 ((T.l true).cells b1) :: BoxT b1 (T.l true).box :: RwO 51 10 (.slice (some ⟨bw, ow, none⟩) nl cV) nl (fR_ W0) :: RwO 51 10 v1 W1.length (fR_ W1) :: Bods BB :: MapT bs T.sent :: MapT bt T.told :: By (.slice AZ body.length cZ) body :: Ce (w3.heap.size) 51 #[.int .i64 kind, .int .i64 ffr, .int .i64 fto, .int .u64 (finc : Int), .int .u64 (fconn : Int), .int .u64 (pinc : Int), .int .u64 (pconn : Int), .int .u64 (fack : Int), .int .u64 (fseq : Int), .slice AZ body.length cZ] :: Ce w.heap.size 37 #[.int .i64 d, .int .i64 at_, .int .i64 nn] :: Qs) := ⟨_, hs0⟩; clear hs0; go_simp; exact h.out undef _ trivial trivial (by simpa [upB, upd] using hs)
          exact EN
         ·intro dn xv W hI H; have qe : dn 25 = true := (H 25 (of_decide_eq_true (by kernel_rfl))).1; rw [if_pos qe] at hI; have hS := hI; clear H hI qe; simp only [putAll, Act.put, List.setIfInBounds_toArray, List.set_cons_zero, List.set_cons_succ, Nat.reduceAdd]; obtain ⟨v, hS⟩ := hS; have hS2 := sep_rwoOf (i := 0) hS rfl; have HS6 := Lib.hid (show Sep w0 W (Ce g 34 #[.pointer (some ⟨a0, 0, none⟩), .pointer (some ⟨a1, 0, none⟩), .int .u64 (((T.l false).si : Nat) : Int), .int .u64 (((T.l true).si : Nat) : Int), .int .u64 ((T.now false : Nat) : Int), .int .u64 ((T.now true : Nat) : Int), v, v1, .map (some bs), .map (some bt), .int .i64 ((T.n : Nat) : Int), .bool false] :: Ce a0 72 ((T.l false).cells b0) :: BoxT b0 (T.l false).box :: Ce a1 72 ((T.l true).cells b1) :: BoxT b1 (T.l true).box :: RwO 51 10 v nn2 (((fR_ W0).take (jj * 10)) ++ ((fR_ W0).drop ((jj + 1) * 10))) :: RwO 51 10 v1 W1.length (fR_ W1) :: Bods BB :: MapT bs T.sent :: MapT bt T.told :: By (.slice AZ body.length cZ) body :: Ce (w3.heap.size) 51 #[.int .i64 kind, .int .i64 ffr, .int .i64 fto, .int .u64 (finc : Int), .int .u64 (fconn : Int), .int .u64 (pinc : Int), .int .u64 (pconn : Int), .int .u64 (fack : Int), .int .u64 (fseq : Int), .slice AZ body.length cZ] :: Ce w.heap.size 37 #[.int .i64 d, .int .i64 at_, .int .i64 nn] :: Qs) from (((((((hS2.drop 6)).tF 0 rfl).tF 5 rfl).tF 5 rfl).tF 5 rfl).tF 5 rfl).tF 5 rfl); clear hS hS2 HKW ejk
          go_wp2_with fail
          go_meet
          case rel =>
           rw [← HT0.out, if_neg H3.out]; refine ⟨b0, b1, v, v1, W0.eraseIdx jj, W1, BB, bs, bt, ?_, ?_, ?_, ?_, ?_⟩
           ·rw [map_erase, HQW.out.1]; rfl
           ·exact HQW.out.2.1
           ·exact fun y hy => HQW.out.2.2.1 y (frBods_erase hy)
           ·exact HQW.out.2.2.2
           ·have h9 := HS6.out; have hl9 : nn2 = (W0.eraseIdx jj).length := by
             have e1 := Hnl.out; have e2 := Hn2.out; have e3 := HN2.out; have e4 := (List.getElem?_eq_some_iff.1 HHP.out).1; rw [List.length_eraseIdx, if_pos e4]; omega
            rw [hl9, ← frRow_erase] at h9; exact h9
       case rest =>
        have HA6 := Lib.hid hcut; have kd := HA6.out.q2 0 (v := .int .i64 d) rfl
        by_cases h4 : d = 4
        ·subst h4; have HR4 : Hid (T.act 4 false k = T0.trim) := Lib.hid (by
          have h := act_mid (T := T) (d := 4) (.inr (.inr rfl)) HJW.out HFW.out; dsimp only at h; rw [HT0.out, if_pos rfl] at h; exact h)
         go_wp2_with fail
         go_meet
         case rel => exact ⟨a0, a1, T0, HA6.out.pop.pop.pop, Lib.hid ⟨HR4.out, HO0.out.mono (by omega)⟩⟩
        ·have e4 : (d != 4) = true := by simpa using h4
         have H4 := Lib.hid h4; have HF : Hid (∀ W, TwA a0 a1 w0 W g T0 (By (.slice AZ body.length cZ) body :: Ce (w3.heap.size) 51 #[.int .i64 kind, .int .i64 ffr, .int .i64 fto, .int .u64 (finc : Int), .int .u64 (fconn : Int), .int .u64 (pinc : Int), .int .u64 (pconn : Int), .int .u64 (fack : Int), .int .u64 (fseq : Int), .slice AZ body.length cZ] :: Ce w.heap.size 37 #[.int .i64 d, .int .i64 at_, .int .i64 nn] :: Qs) → W.cell? ⟨w3.heap.size, 0, none⟩ = some (.int .i64 kind) ∧ W.cell? ⟨w3.heap.size, 1, none⟩ = some (.int .i64 ffr) ∧ W.cell? ⟨w3.heap.size, 2, none⟩ = some (.int .i64 fto) ∧ W.cell? ⟨w3.heap.size, 3, none⟩ = some (.int .u64 (finc : Int)) ∧ W.cell? ⟨w3.heap.size, 4, none⟩ = some (.int .u64 (fconn : Int)) ∧ W.cell? ⟨w3.heap.size, 5, none⟩ = some (.int .u64 (pinc : Int)) ∧ W.cell? ⟨w3.heap.size, 6, none⟩ = some (.int .u64 (pconn : Int)) ∧ W.cell? ⟨w3.heap.size, 7, none⟩ = some (.int .u64 (fack : Int)) ∧ W.cell? ⟨w3.heap.size, 8, none⟩ = some (.int .u64 (fseq : Int)) ∧ W.cell? ⟨w3.heap.size, 9, none⟩ = some (.slice AZ body.length cZ)) := Lib.hid (fun W hq => ⟨hq.q1 0 rfl, hq.q1 1 rfl, hq.q1 2 rfl, hq.q1 3 rfl, hq.q1 4 rfl, hq.q1 5 rfl, hq.q1 6 rfl, hq.q1 7 rfl, hq.q1 8 rfl, hq.q1 9 rfl⟩); have HC1 := Lib.hid (fun (W : World) (hS : TwA a0 a1 w0 W g T0 (By (.slice AZ body.length cZ) body :: Ce (w3.heap.size) 51 #[.int .i64 kind, .int .i64 ffr, .int .i64 fto, .int .u64 (finc : Int), .int .u64 (fconn : Int), .int .u64 (pinc : Int), .int .u64 (pconn : Int), .int .u64 (fack : Int), .int .u64 (fseq : Int), .slice AZ body.length cZ] :: Ce w.heap.size 37 #[.int .i64 d, .int .i64 at_, .int .i64 nn] :: Qs)) => show Calls Try.prog 15 #[.pointer (some ⟨a0, 0, none⟩), .int .u64 ((T0.now false : Nat) : Int), .agg #[.int .i64 kind, .int .i64 ffr, .int .i64 fto, .int .u64 (finc : Int), .int .u64 (fconn : Int), .int .u64 (pinc : Int), .int .u64 (pconn : Int), .int .u64 (fack : Int), .int .u64 (fseq : Int), .slice AZ body.length cZ]] W (fun e w' => ∃ v, e = .returned v ∧ MidA a0 a1 v w0 w' g (T0.withL false ((T0.l false).take (T0.now false) fF)) ((T0.l false).takeF (T0.now false) fF) ((T0.l false).takeE (T0.now false) fF) (By (.slice AZ body.length cZ) body :: Ce (w3.heap.size) 51 #[.int .i64 kind, .int .i64 ffr, .int .i64 fto, .int .u64 (finc : Int), .int .u64 (fconn : Int), .int .u64 (pinc : Int), .int .u64 (pconn : Int), .int .u64 (fack : Int), .int .u64 (fseq : Int), .slice AZ body.length cZ] :: Ce w.heap.size 37 #[.int .i64 d, .int .i64 at_, .int .i64 nn] :: Qs)) from by
          have hb := HFO.out; rw [← HfF.out] at hb ⊢; exact takeA0 (f := ⟨kind, ffr, fto, finc, fconn, pinc, pconn, fack, fseq, body⟩) (A := AZ) (c := cZ) hS (reads_by rfl) HO0.out (by omega) (by have := hb.2.2.2.2; unfold maxLen; simp only at this ⊢; omega) (by have := hb.2.2.1; simp only at this ⊢; omega) (by have := hb.2.2.2.1; simp only at this ⊢; omega))
         have HC2 := Lib.hid (fun (W : World) (v : Value) (hS : MidA a0 a1 v w0 W g (T0.withL false ((T0.l false).take (T0.now false) fF)) ((T0.l false).takeF (T0.now false) fF) ((T0.l false).takeE (T0.now false) fF) (By (.slice AZ body.length cZ) body :: Ce (w3.heap.size) 51 #[.int .i64 kind, .int .i64 ffr, .int .i64 fto, .int .u64 (finc : Int), .int .u64 (fconn : Int), .int .u64 (pinc : Int), .int .u64 (pconn : Int), .int .u64 (fack : Int), .int .u64 (fseq : Int), .slice AZ body.length cZ] :: Ce w.heap.size 37 #[.int .i64 d, .int .i64 at_, .int .i64 nn] :: Qs)) => show Calls Try.prog 31 #[.pointer (some ⟨g, 0, none⟩), .int .i64 0, v] W (fun e w' => e = .returned (.tuple #[]) ∧ TwA a0 a1 w0 w' g (T0.take false fF) (By (.slice AZ body.length cZ) body :: Ce (w3.heap.size) 51 #[.int .i64 kind, .int .i64 ffr, .int .i64 fto, .int .u64 (finc : Int), .int .u64 (fconn : Int), .int .u64 (pinc : Int), .int .u64 (pconn : Int), .int .u64 (fack : Int), .int .u64 (fseq : Int), .slice AZ body.length cZ] :: Ce w.heap.size 37 #[.int .i64 d, .int .i64 at_, .int .i64 nn] :: Qs)) from by
          have hn := HO0.out.now false; have hk := takeF_ok (HO0.out.num false) (HO0.out.ids false) (now := T0.now false) (by omega) (f := fF) ⟨HFO.out.1, HFO.out.2.1⟩; exact ansA0 hS (HO0.out.withL false ((HO0.out.num false).take (now := T0.now false) (by omega) fF) (ids_take (HO0.out.ids false) (T0.now false) ⟨HFO.out.1, HFO.out.2.1⟩)) (by omega) (by omega) (by omega))
         clear h4 hcut
         go_wp2_with fail
         refine wRF (fun dn xv W => if dn 16 = true then TwA a0 a1 w0 W g (T0.take false fF) (By (.slice AZ body.length cZ) body :: Ce (w3.heap.size) 51 #[.int .i64 kind, .int .i64 ffr, .int .i64 fto, .int .u64 (finc : Int), .int .u64 (fconn : Int), .int .u64 (pinc : Int), .int .u64 (pconn : Int), .int .u64 (fack : Int), .int .u64 (fseq : Int), .slice AZ body.length cZ] :: Ce w.heap.size 37 #[.int .i64 d, .int .i64 at_, .int .i64 nn] :: Qs) else if dn 15 = true then MidA a0 a1 (xv 15) w0 W g (T0.withL false ((T0.l false).take (T0.now false) fF)) ((T0.l false).takeF (T0.now false) fF) ((T0.l false).takeE (T0.now false) fF) (By (.slice AZ body.length cZ) body :: Ce (w3.heap.size) 51 #[.int .i64 kind, .int .i64 ffr, .int .i64 fto, .int .u64 (finc : Int), .int .u64 (fconn : Int), .int .u64 (pinc : Int), .int .u64 (pconn : Int), .int .u64 (fack : Int), .int .u64 (fseq : Int), .slice AZ body.length cZ] :: Ce w.heap.size 37 #[.int .i64 d, .int .i64 at_, .int .i64 nn] :: Qs) else TwA a0 a1 w0 W g T0 (By (.slice AZ body.length cZ) body :: Ce (w3.heap.size) 51 #[.int .i64 kind, .int .i64 ffr, .int .i64 fto, .int .u64 (finc : Int), .int .u64 (fconn : Int), .int .u64 (pinc : Int), .int .u64 (pconn : Int), .int .u64 (fack : Int), .int .u64 (fseq : Int), .slice AZ body.length cZ] :: Ce w.heap.size 37 #[.int .i64 d, .int .i64 at_, .int .i64 nn] :: Qs)) (fun _ _ => True) [fun v _ => v = .pointer (some ⟨g, 0, none⟩), fun v _ => v = .int .i64 0, fun v _ => v = .pointer (some ⟨g, 0, none⟩), fun v _ => v = .int .i64 0, fun v _ => v = .pointer (some ⟨g, 0, none⟩), fun v _ => v = .pointer (some ⟨g, 0, none⟩), fun v _ => v = .pointer (some ⟨g, 0, none⟩), fun v _ => v = .pointer (some ⟨a0, 0, none⟩), fun v _ => v = .pointer (some ⟨g, 0, none⟩), fun v _ => v = .int .i64 0, fun v _ => v = .pointer (some ⟨g, 0, none⟩), fun v _ => v = .pointer (some ⟨g, 4, none⟩), fun v _ => v = .pointer (some ⟨g, 4, none⟩), fun v _ => v = .int .u64 ((T0.now false : Nat) : Int), fun v _ => v = .agg #[.int .i64 kind, .int .i64 ffr, .int .i64 fto, .int .u64 (finc : Int), .int .u64 (fconn : Int), .int .u64 (pinc : Int), .int .u64 (pconn : Int), .int .u64 (fack : Int), .int .u64 (fseq : Int), .slice AZ body.length cZ], fun v _ => True, fun v _ => True] (by kernel_rfl) (by kernel_rfl) (by kernel_rfl) (by kernel_rfl) (fun xv => by simpa using HA6.out.drew)
          (by repeat (first | exact trivial | refine ⟨fun _ _ _ _ h => h, ?_⟩)) ?_ ?_
         ·refine EC 1 rfl (fun h i W F a b c d e H K f => ?_) ?_
          ·have f0 : F.tmps.getD 0 undef = .pointer (some ⟨g, 0, none⟩) := (a 0).trans (by kernel_rfl); clear H c b d a; refine oP rfl ?_; go_simp; exact f.out _ _ rfl trivial e
          refine EC 2 rfl (fun g h W F a b c d e H K f => ?_) ?_
          ·have f4 : F.tmps.getD 4 undef = .int .i64 0 := (a 4).trans (by kernel_rfl); clear H c b d a; refine oP rfl ?_; go_simp; exact f.out _ _ rfl trivial e
          refine EC 3 rfl (fun h i W F a b c d e H K f => ?_) ?_
          ·have f0 : F.tmps.getD 0 undef = .pointer (some ⟨g, 0, none⟩) := (a 0).trans (by kernel_rfl); clear H c b d a; refine oP rfl ?_; go_simp; exact f.out _ _ rfl trivial e
          refine EC 4 rfl (fun g h W F a b c d e H K f => ?_) ?_
          ·have f4 : F.tmps.getD 4 undef = .int .i64 0 := (a 4).trans (by kernel_rfl); clear H c b d a; refine oP rfl ?_; go_simp; exact f.out _ _ rfl trivial e
          refine EC 5 rfl (fun g h W F a b c d e H K f => ?_) ?_
          ·have f118 := gE (a 118) (by kernel_rfl) (H 2) (by kernel_rfl); clear H c b d a; refine oP rfl ?_; go_simp; exact f.out _ _ rfl trivial e
          refine EC 6 rfl (fun g h W F a b c d e H K f => ?_) ?_
          ·have f120 := gE (a 120) (by kernel_rfl) (H 4) (by kernel_rfl); clear H c b d a; refine oP rfl ?_; go_simp; exact f.out _ _ rfl trivial e
          refine EC 7 rfl (fun g h W F a b c d e H K f => ?_) ?_
          ·have f119 := gE (a 119) (by kernel_rfl) (H 3) (by kernel_rfl); have f121 := gE (a 121) (by kernel_rfl) (H 5) (by kernel_rfl); clear H c b d a; refine oP rfl ?_; go_simp; exact f.out _ _ rfl trivial e
          refine EC 8 rfl (fun g h W F a b c d e H K f => ?_) ?_
          ·have f122 := gE (a 122) (by kernel_rfl) (H 6) (by kernel_rfl); have q1 : g 15 = false := c 15 (.edge (by kernel_rfl)); have q2 : g 16 = false := c 16 (.more (j := 15) (by kernel_rfl) (.edge (by kernel_rfl))); have hq := e; rw [if_neg (by simp [q2]), if_neg (by simp [q1])] at hq; have kk := hq.l0; clear H c b d a; refine oP rfl ?_; go_simp; exact f.out _ _ rfl trivial e
          refine EC 9 rfl (fun h i W F a b c d e H K f => ?_) ?_
          ·have f0 : F.tmps.getD 0 undef = .pointer (some ⟨g, 0, none⟩) := (a 0).trans (by kernel_rfl); clear H c b d a; refine oP rfl ?_; go_simp; exact f.out _ _ rfl trivial e
          refine EC 10 rfl (fun g h W F a b c d e H K f => ?_) ?_
          ·have f4 : F.tmps.getD 4 undef = .int .i64 0 := (a 4).trans (by kernel_rfl); clear H c b d a; refine oP rfl ?_; go_simp; exact f.out _ _ rfl trivial e
          refine EC 11 rfl (fun g h W F a b c d e H K f => ?_) ?_
          ·have f124 := gE (a 124) (by kernel_rfl) (H 8) (by kernel_rfl); clear H c b d a; refine oP rfl ?_; go_simp; exact f.out _ _ rfl trivial e
          refine EC 12 rfl (fun g h W F a b c d e H K f => ?_) ?_
          ·have f126 := gE (a 126) (by kernel_rfl) (H 10) (by kernel_rfl); clear H c b d a; refine oP rfl ?_; go_simp; exact f.out _ _ rfl trivial e
          refine EC 13 rfl (fun g h W F a b c d e H K f => ?_) ?_
          ·have f125 := gE (a 125) (by kernel_rfl) (H 9) (by kernel_rfl); have f127 := gE (a 127) (by kernel_rfl) (H 11) (by kernel_rfl); clear H c b d a; refine oP rfl ?_; go_simp; exact f.out _ _ rfl trivial e
          refine EC 14 rfl (fun g h W F a b c d e H K f => ?_) ?_
          ·have f128 := gE (a 128) (by kernel_rfl) (H 12) (by kernel_rfl); have q1 : g 15 = false := c 15 (.edge (by kernel_rfl)); have q2 : g 16 = false := c 16 (.more (j := 15) (by kernel_rfl) (.edge (by kernel_rfl))); have hq := e; rw [if_neg (by simp [q2]), if_neg (by simp [q1])] at hq; have kk := hq.t0; clear H c b d a; refine oP rfl ?_; go_simp; exact f.out _ _ rfl trivial e
          refine EC 15 rfl (fun g h W F a b c d e H K f => ?_) ?_
          ·have f7 : F.tmps.getD 7 undef = .pointer (some ⟨w3.heap.size, 0, none⟩) := (a 7).trans (by kernel_rfl); have q1 : g 15 = false := c 15 (.edge (by kernel_rfl)); have q2 : g 16 = false := c 16 (.more (j := 15) (by kernel_rfl) (.edge (by kernel_rfl))); have hq := e; rw [if_neg (by simp [q2]), if_neg (by simp [q1])] at hq; obtain ⟨kf0, kf1, kf2, kf3, kf4, kf5, kf6, kf7, kf8, kf9⟩ := HF.out W hq; clear H c b d a; refine oP rfl ?_; go_simp; exact f.out _ _ rfl trivial e
          refine EC 16 rfl (fun h i W F a b c d f H K g => ?_) ?_
          ·have f123 := gE (a 123) (by kernel_rfl) (H 7) (by kernel_rfl); have f129 := gE (a 129) (by kernel_rfl) (H 13) (by kernel_rfl); have f130 := gE (a 130) (by kernel_rfl) (H 14) (by kernel_rfl); have q16 : h 16 = false := c 16 (.edge (by kernel_rfl)); rw [if_neg (by simp [q16]), if_neg (by simp [b])] at f; have hS := f; clear f c b d a H; refine oP rfl ?_; go_simp; refine (HC1.out W hS).mono ?_; rintro e W' ⟨v, rfl, hs⟩; exact g.out v W' trivial trivial (by simpa [upB, upd, q16] using hs)
          refine EC 17 rfl (fun h i W F a b c d f H K g => ?_) ?_
          ·have f116 := gE (a 116) (by kernel_rfl) (H 0) (by kernel_rfl); have f117 := gE (a 117) (by kernel_rfl) (H 1) (by kernel_rfl); have f131 : F.tmps.getD 131 undef = i 15 := (a 131).trans (by kernel_rfl); have q15 : h 15 = true := (H 15 (.edge (by kernel_rfl))).1; rw [if_neg (by simp [b]), if_pos q15] at f; have hS := f; clear f c b d a H; refine oP rfl ?_; go_simp; refine (HC2.out W _ hS).mono ?_; rintro e W' ⟨rfl, hs⟩; exact g.out _ W' trivial trivial (by simpa [upB, upd] using hs)
          exact EN
         ·intro dn xv W hI H; have qe : dn 16 = true := (H 16 (of_decide_eq_true (by kernel_rfl))).1; rw [if_pos qe] at hI; have hS := hI; clear H hI qe; simp only [putAll, Act.put, List.setIfInBounds_toArray, List.set_cons_zero, List.set_cons_succ, Nat.reduceAdd]
          go_wp2_with fail
          go_meet
          case rel => exact ⟨a0, a1, _, hS.pop.pop.pop, Lib.hid ⟨by rw [act_mid H234.out HJW.out HFW.out, HT0.out]; simp only; rw [if_neg H4.out], (HO0.out.take (by omega) false HFO.out).mono (by omega)⟩⟩
    ·have e2 : (d == 2) = false := by simp; omega
     have e3 : (d == 3) = false := by simp; omega
     have e4 : (d == 4) = false := by simp; omega
     by_cases h5 : d = 5
     ·subst h5
      go_wp2_with fail
      refine (lifeA0 HA.out hO (by omega)).mono ?_; rintro e w2 ⟨rfl, a, h2⟩; have HA2 := Lib.hid h2; clear h2
      go_wp2_with fail
      go_meet
      case rel => exact ⟨_, _, _, HA2.out, Lib.hid ⟨by rw [TW.act, if_neg (by decide), if_neg (by decide), if_neg (by decide), if_pos rfl], (hO.life false).mono (by omega)⟩⟩
     ·have e5 : (d == 5) = false := by simpa using h5
      go_wp2_with fail
      go_meet
      case rel => exact ⟨a0, a1, T, HA.out, Lib.hid ⟨by rw [TW.act, if_neg h0, if_neg h1, if_neg h234, if_neg h5], hO.mono (by omega)⟩⟩
 case rest =>
  obtain ⟨c0, c1, T1, hA, HR⟩ := hcut; have HA1 := Lib.hid (show TwA c0 c1 w0 wc g (T1.trimTo 0) Qs by rw [trimTo_0]; exact hA); clear hA HA HAB HSB k0 k1 k2 hO
  go_wp2_with fail
  go_loopw [8] (fun iv wr => ∃ m : Nat, m ≤ 2 ∧ iv = .int .i64 (m : Int) ∧ Hid (TwA c0 c1 w0 wr g (T1.trimTo m) Qs)) (fun iv _ => 2 - (intOf iv).toNat)
  case atStart => exact ⟨0, by omega, rfl, HA1⟩
  case round =>
   obtain ⟨m, hm, rfl, HM⟩ := hrel
   rcases (show m = 0 ∨ m = 1 ∨ m = 2 by omega) with e | e | e
   ·subst e; obtain ⟨b0, b1, v0, v1, W0, W1, BB, bs, bt, q1, q2, q3, q4, h⟩ := HM.out; obtain ⟨AV, cV, hv, hcV, hcV2, _⟩ := sep_rwoForm (i := 5) h rfl; subst hv; obtain ⟨nl, Hnl⟩ : ∃ y, Hid (W0.length = y) := ⟨_, Lib.hid rfl⟩; rw [Hnl.out] at hcV; have HS2 := Lib.hid (show Sep w0 wr (Ce g 34 #[.pointer (some ⟨c0, 0, none⟩), .pointer (some ⟨c1, 0, none⟩), .int .u64 ((((T1.trimTo 0).l false).si : Nat) : Int), .int .u64 ((((T1.trimTo 0).l true).si : Nat) : Int), .int .u64 (((T1.trimTo 0).now false : Nat) : Int), .int .u64 (((T1.trimTo 0).now true : Nat) : Int), .slice AV nl cV, v1, .map (some bs), .map (some bt), .int .i64 (((T1.trimTo 0).n : Nat) : Int), .bool false] :: (Ce c0 72 (((T1.trimTo 0).l false).cells b0) :: BoxT b0 ((T1.trimTo 0).l false).box :: Ce c1 72 (((T1.trimTo 0).l true).cells b1) :: BoxT b1 ((T1.trimTo 0).l true).box :: RwO 51 10 (.slice AV nl cV) nl (fR_ W0) :: RwO 51 10 v1 W1.length (fR_ W1) :: Bods BB :: MapT bs (T1.trimTo 0).sent :: MapT bt (T1.trimTo 0).told :: Qs)) by rw [← Hnl.out]; exact h); have HQ := Lib.hid (And.intro q1 (And.intro q2 (And.intro q3 q4))); have hnl : nl = ((T1.trimTo 0).way false).length := by rw [← Hnl.out, ← q1, List.length_map]
    have hnb : nl ≤ B + 20 := by rw [hnl]; exact HR.out.2.way false
    have HNL := Lib.hid hnl; clear h q1 q2 q3 q4 hnl; have kk := cA (i := 0) HS2.out rfl 6 rfl
    by_cases h3 : 300 < nl
    ·have e3 : decide (300 < (nl : Int)) = true := by simp; omega
     obtain ⟨nd, Hnd⟩ : ∃ y, Hid (nl - 300 = y) := ⟨_, Lib.hid rfl⟩; have hnd : nd ≤ nl := by rw [← Hnd.out]; omega
     have esub : IntKind.i64.wrap ((nl : Int) - 300) = (nd : Int) := by rw [IntKind.wrap_i64]; have := Hnd.out; omega
     obtain ⟨SA, HSA⟩ : ∃ y, Hid ((if cV = nd then AV else AV.map (·.add (nd * 10))) = y) := ⟨_, Lib.hid rfl⟩; obtain ⟨sn, Hsn⟩ : ∃ y, Hid (nl - nd = y) := ⟨_, Lib.hid rfl⟩; obtain ⟨sc, Hsc⟩ : ∃ y, Hid (cV - nd = y) := ⟨_, Lib.hid rfl⟩; have HRS : Hid (∀ W, (Instr.slice 30 (.slice AV nl cV) (some (.int .i64 (nd : Int))) none none).run Try.prog W = .ok (.slice SA sn sc) W) := Lib.hid (fun W => by rw [run_fromF W AV nl cV nd hnd, HSA.out, Hsn.out, Hsc.out]); have HPUT : Hid (∀ W, Sep w0 W (Ce g 34 #[.pointer (some ⟨c0, 0, none⟩), .pointer (some ⟨c1, 0, none⟩), .int .u64 ((((T1.trimTo 0).l false).si : Nat) : Int), .int .u64 ((((T1.trimTo 0).l true).si : Nat) : Int), .int .u64 (((T1.trimTo 0).now false : Nat) : Int), .int .u64 (((T1.trimTo 0).now true : Nat) : Int), .slice AV nl cV, v1, .map (some bs), .map (some bt), .int .i64 (((T1.trimTo 0).n : Nat) : Int), .bool false] :: (Ce c0 72 (((T1.trimTo 0).l false).cells b0) :: BoxT b0 ((T1.trimTo 0).l false).box :: Ce c1 72 (((T1.trimTo 0).l true).cells b1) :: BoxT b1 ((T1.trimTo 0).l true).box :: RwO 51 10 (.slice AV nl cV) nl (fR_ W0) :: RwO 51 10 v1 W1.length (fR_ W1) :: Bods BB :: MapT bs (T1.trimTo 0).sent :: MapT bt (T1.trimTo 0).told :: Qs)) → Sep w0 (W.setCell ⟨g, 6, none⟩ (.slice SA sn sc)) (Ce g 34 #[.pointer (some ⟨c0, 0, none⟩), .pointer (some ⟨c1, 0, none⟩), .int .u64 ((((T1.trimTo 0).l false).si : Nat) : Int), .int .u64 ((((T1.trimTo 0).l true).si : Nat) : Int), .int .u64 (((T1.trimTo 0).now false : Nat) : Int), .int .u64 (((T1.trimTo 0).now true : Nat) : Int), .slice SA sn sc, v1, .map (some bs), .map (some bt), .int .i64 (((T1.trimTo 0).n : Nat) : Int), .bool false] :: (Ce c0 72 (((T1.trimTo 0).l false).cells b0) :: BoxT b0 ((T1.trimTo 0).l false).box :: Ce c1 72 (((T1.trimTo 0).l true).cells b1) :: BoxT b1 ((T1.trimTo 0).l true).box :: RwO 51 10 (.slice SA sn sc) sn ((fR_ W0).drop (nd * 10)) :: RwO 51 10 v1 W1.length (fR_ W1) :: Bods BB :: MapT bs (T1.trimTo 0).sent :: MapT bt (T1.trimTo 0).told :: Qs))) := Lib.hid (fun W hS => by
      have h1 := sep_rwoFrom (i := 5) (cS (i := 0) hS rfl 6 (.slice SA sn sc)) rfl hnd; rw [HSA.out, Hsn.out, Hsc.out] at h1; exact h1)
     clear hnd
     go_wp2_with fail
     refine wRF (fun dn xv W => if dn 14 = true then Sep w0 W (Ce g 34 #[.pointer (some ⟨c0, 0, none⟩), .pointer (some ⟨c1, 0, none⟩), .int .u64 ((((T1.trimTo 0).l false).si : Nat) : Int), .int .u64 ((((T1.trimTo 0).l true).si : Nat) : Int), .int .u64 (((T1.trimTo 0).now false : Nat) : Int), .int .u64 (((T1.trimTo 0).now true : Nat) : Int), .slice SA sn sc, v1, .map (some bs), .map (some bt), .int .i64 (((T1.trimTo 0).n : Nat) : Int), .bool false] :: (Ce c0 72 (((T1.trimTo 0).l false).cells b0) :: BoxT b0 ((T1.trimTo 0).l false).box :: Ce c1 72 (((T1.trimTo 0).l true).cells b1) :: BoxT b1 ((T1.trimTo 0).l true).box :: RwO 51 10 (.slice SA sn sc) sn ((fR_ W0).drop (nd * 10)) :: RwO 51 10 v1 W1.length (fR_ W1) :: Bods BB :: MapT bs (T1.trimTo 0).sent :: MapT bt (T1.trimTo 0).told :: Qs)) else Sep w0 W (Ce g 34 #[.pointer (some ⟨c0, 0, none⟩), .pointer (some ⟨c1, 0, none⟩), .int .u64 ((((T1.trimTo 0).l false).si : Nat) : Int), .int .u64 ((((T1.trimTo 0).l true).si : Nat) : Int), .int .u64 (((T1.trimTo 0).now false : Nat) : Int), .int .u64 (((T1.trimTo 0).now true : Nat) : Int), .slice AV nl cV, v1, .map (some bs), .map (some bt), .int .i64 (((T1.trimTo 0).n : Nat) : Int), .bool false] :: (Ce c0 72 (((T1.trimTo 0).l false).cells b0) :: BoxT b0 ((T1.trimTo 0).l false).box :: Ce c1 72 (((T1.trimTo 0).l true).cells b1) :: BoxT b1 ((T1.trimTo 0).l true).box :: RwO 51 10 (.slice AV nl cV) nl (fR_ W0) :: RwO 51 10 v1 W1.length (fR_ W1) :: Bods BB :: MapT bs (T1.trimTo 0).sent :: MapT bt (T1.trimTo 0).told :: Qs))) (fun _ _ => True) [fun v _ => v = .pointer (some ⟨g, 0, none⟩), fun v _ => v = .int .i64 0, fun v _ => v = .pointer (some ⟨g, 0, none⟩), fun v _ => v = .int .i64 0, fun v _ => v = .pointer (some ⟨g, 0, none⟩), fun v _ => v = .pointer (some ⟨g, 6, none⟩), fun v _ => v = .pointer (some ⟨g, 6, none⟩), fun v _ => v = .slice AV nl cV, fun v _ => v = .int .i64 (nl : Int), fun v _ => v = .int .i64 (nd : Int), fun v _ => v = .slice SA sn sc, fun v _ => v = .pointer (some ⟨g, 0, none⟩), fun v _ => v = .pointer (some ⟨g, 6, none⟩), fun v _ => v = .pointer (some ⟨g, 6, none⟩), fun v _ => True] (by kernel_rfl) (by kernel_rfl) (by kernel_rfl) (by kernel_rfl) (fun xv => by simpa using HS2.out.drew)
      (by repeat (first | exact trivial | refine ⟨fun _ _ _ _ h => h, ?_⟩)) ?_ ?_
     ·refine EC 1 rfl (fun h i W F a b c d e H K f => ?_) ?_
      ·have f0 : F.tmps.getD 0 undef = .pointer (some ⟨g, 0, none⟩) := (a 0).trans (by kernel_rfl); clear H c b d a; refine oP rfl ?_; go_simp; exact f.out _ _ rfl trivial e
      refine EC 2 rfl (fun g h W F a b c d e H K f => ?_) ?_
      ·have f8 : F.tmps.getD 8 undef = .int .i64 0 := (a 8).trans (by kernel_rfl); clear H c b d a; refine oP rfl ?_; go_simp; exact f.out _ _ rfl trivial e
      refine EC 3 rfl (fun h i W F a b c d e H K f => ?_) ?_
      ·have f0 : F.tmps.getD 0 undef = .pointer (some ⟨g, 0, none⟩) := (a 0).trans (by kernel_rfl); clear H c b d a; refine oP rfl ?_; go_simp; exact f.out _ _ rfl trivial e
      refine EC 4 rfl (fun g h W F a b c d e H K f => ?_) ?_
      ·have f8 : F.tmps.getD 8 undef = .int .i64 0 := (a 8).trans (by kernel_rfl); clear H c b d a; refine oP rfl ?_; go_simp; exact f.out _ _ rfl trivial e
      refine EC 5 rfl (fun g h W F a b c d e H K f => ?_) ?_
      ·have f153 := gE (a 153) (by kernel_rfl) (H 2) (by kernel_rfl); clear H c b d a; refine oP rfl ?_; go_simp; exact f.out _ _ rfl trivial e
      refine EC 6 rfl (fun g h W F a b c d e H K f => ?_) ?_
      ·have f155 := gE (a 155) (by kernel_rfl) (H 4) (by kernel_rfl); clear H c b d a; refine oP rfl ?_; go_simp; exact f.out _ _ rfl trivial e
      refine EC 7 rfl (fun g h W F a b c d e H K f => ?_) ?_
      ·have f154 := gE (a 154) (by kernel_rfl) (H 3) (by kernel_rfl); have f156 := gE (a 156) (by kernel_rfl) (H 5) (by kernel_rfl); clear H c b d a; refine oP rfl ?_; go_simp; exact f.out _ _ rfl trivial e
      refine EC 8 rfl (fun g h W F a b c d e H K f => ?_) ?_
      ·have f157 := gE (a 157) (by kernel_rfl) (H 6) (by kernel_rfl); have q14 : g 14 = false := c 14 (.more (j := 10) (by kernel_rfl) (.edge (by kernel_rfl))); have hq := e; rw [if_neg (by simp [q14])] at hq; have kk := cA (i := 0) hq rfl 6 rfl; clear H c b d a; refine oP rfl ?_; go_simp; exact f.out _ _ rfl trivial e
      refine EC 9 rfl (fun g h W F a b c d e H K f => ?_) ?_
      ·have f9 : F.tmps.getD 9 undef = .int .i64 (nl : Int) := (a 9).trans (by kernel_rfl); clear H c b d a; refine oP rfl ?_; go_simp; exact f.out _ _ rfl trivial e
      refine EC 10 rfl (fun g h W F a b c d e H K f => ?_) ?_
      ·have f159 := gE (a 159) (by kernel_rfl) (H 8) (by kernel_rfl); clear H c b d a; refine oP rfl ?_; go_simp; exact f.out _ _ rfl trivial e
      refine EC 11 rfl (fun g h W F a b c d e H K f => ?_) ?_
      ·have f158 := gE (a 158) (by kernel_rfl) (H 7) (by kernel_rfl); have f160 := gE (a 160) (by kernel_rfl) (H 9) (by kernel_rfl); have rs := HRS.out W; clear H c b d a; refine oP rfl ?_; go_simp; exact f.out _ _ rfl trivial e
      refine EC 12 rfl (fun g h W F a b c d e H K f => ?_) ?_
      ·have f151 := gE (a 151) (by kernel_rfl) (H 0) (by kernel_rfl); clear H c b d a; refine oP rfl ?_; go_simp; exact f.out _ _ rfl trivial e
      refine EC 13 rfl (fun g h W F a b c d e H K f => ?_) ?_
      ·have f162 := gE (a 162) (by kernel_rfl) (H 11) (by kernel_rfl); clear H c b d a; refine oP rfl ?_; go_simp; exact f.out _ _ rfl trivial e
      refine EC 14 rfl (fun g h W F a b c d e H K f => ?_) ?_
      ·have f152 := gE (a 152) (by kernel_rfl) (H 1) (by kernel_rfl); have f163 := gE (a 163) (by kernel_rfl) (H 12) (by kernel_rfl); clear H c b d a; refine oP rfl ?_; go_simp; exact f.out _ _ rfl trivial e
      refine EC 15 rfl (fun h j W F a b c d e H K f => ?_) ?_
      ·have f161 := gE (a 161) (by kernel_rfl) (H 10) (by kernel_rfl); have f164 := gE (a 164) (by kernel_rfl) (H 13) (by kernel_rfl); rw [if_neg (by simp [b])] at e; have hS := e; clear e c b d a H; refine oP rfl ?_; have yy := cFz (i := 0) hS rfl 6; have kk := cA (i := 0) hS rfl 6 rfl; have hs : Sep w0 (W.setCell ⟨g, 6, none⟩ (.slice SA sn sc)) (Ce g 34 #[.pointer (some ⟨c0, 0, none⟩), .pointer (some ⟨c1, 0, none⟩), .int .u64 ((((T1.trimTo 0).l false).si : Nat) : Int), .int .u64 ((((T1.trimTo 0).l true).si : Nat) : Int), .int .u64 (((T1.trimTo 0).now false : Nat) : Int), .int .u64 (((T1.trimTo 0).now true : Nat) : Int), .slice SA sn sc, v1, .map (some bs), .map (some bt), .int .i64 (((T1.trimTo 0).n : Nat) : Int), .bool false] :: (Ce c0 72 (((T1.trimTo 0).l false).cells b0) :: BoxT b0 ((T1.trimTo 0).l false).box :: Ce c1 72 (((T1.trimTo 0).l true).cells b1) :: BoxT b1 ((T1.trimTo 0).l true).box :: RwO 51 10 (.slice SA sn sc) sn ((fR_ W0).drop (nd * 10)) :: RwO 51 10 v1 W1.length (fR_ W1) :: Bods BB :: MapT bs (T1.trimTo 0).sent :: MapT bt (T1.trimTo 0).told :: Qs)) := HPUT.out W hS; go_simp; exact f.out undef _ trivial trivial (by simpa [upB, upd] using hs)
      exact EN
     ·intro dn xv W hI H; have qe : dn 14 = true := (H 14 (of_decide_eq_true (by kernel_rfl))).1; rw [if_pos qe] at hI; have hS := hI; clear H hI qe; simp only [putAll, Act.put, List.setIfInBounds_toArray, List.set_cons_zero, List.set_cons_succ, Nat.reduceAdd]; have HS3 := Lib.hid hS; clear hS
      go_wp2_with fail
      go_roundw
      case rel =>
       refine ⟨1, by omega, rfl, Lib.hid ⟨b0, b1, .slice SA sn sc, v1, W0.drop nd, W1, BB, bs, bt, ?_, ?_, ?_, ?_, ?_⟩⟩
       ·rw [List.map_drop, HQ.out.1]; exact trim_nd T1 false HNL.out Hnd.out
       ·exact HQ.out.2.1
       ·exact fun y hy => HQ.out.2.2.1 y (frBods_drop hy)
       ·exact HQ.out.2.2.2
       ·have h1 := HS3.out; rw [← frRow_drop, show sn = (W0.drop nd).length by rw [List.length_drop, Hnl.out, Hsn.out]] at h1; rw [show sn = (W0.drop nd).length by rw [List.length_drop, Hnl.out, Hsn.out]]; exact h1
      case measure => simp [intOf]
    ·have e3 : decide (300 < (nl : Int)) = false := by simp; omega
     have HM2 : Hid (TwA c0 c1 w0 wr g (T1.trimTo 1) Qs) := Lib.hid (by
      rw [trimTo_step0 T1 (by have h4 := HNL.out; rw [show (T1.trimTo 0).way false = T1.way false by simp [TW.trimTo]] at h4; omega)]; exact HM.out)
     go_wp2_with fail
     go_roundw
     case rel => exact ⟨1, by omega, rfl, HM2⟩
     case measure => simp [intOf]
   ·subst e; obtain ⟨b0, b1, v0, v1, W0, W1, BB, bs, bt, q1, q2, q3, q4, h⟩ := HM.out; obtain ⟨AV, cV, hv, hcV, hcV2, _⟩ := sep_rwoForm (i := 6) h rfl; subst hv; obtain ⟨nl, Hnl⟩ : ∃ y, Hid (W1.length = y) := ⟨_, Lib.hid rfl⟩; rw [Hnl.out] at hcV; have HS2 := Lib.hid (show Sep w0 wr (Ce g 34 #[.pointer (some ⟨c0, 0, none⟩), .pointer (some ⟨c1, 0, none⟩), .int .u64 ((((T1.trimTo 1).l false).si : Nat) : Int), .int .u64 ((((T1.trimTo 1).l true).si : Nat) : Int), .int .u64 (((T1.trimTo 1).now false : Nat) : Int), .int .u64 (((T1.trimTo 1).now true : Nat) : Int), v0, .slice AV nl cV, .map (some bs), .map (some bt), .int .i64 (((T1.trimTo 1).n : Nat) : Int), .bool false] :: (Ce c0 72 (((T1.trimTo 1).l false).cells b0) :: BoxT b0 ((T1.trimTo 1).l false).box :: Ce c1 72 (((T1.trimTo 1).l true).cells b1) :: BoxT b1 ((T1.trimTo 1).l true).box :: RwO 51 10 v0 W0.length (fR_ W0) :: RwO 51 10 (.slice AV nl cV) nl (fR_ W1) :: Bods BB :: MapT bs (T1.trimTo 1).sent :: MapT bt (T1.trimTo 1).told :: Qs)) by rw [← Hnl.out]; exact h); have HQ := Lib.hid (And.intro q1 (And.intro q2 (And.intro q3 q4))); have hnl : nl = ((T1.trimTo 1).way true).length := by rw [← Hnl.out, ← q2, List.length_map]
    have hnb : nl ≤ B + 20 := by rw [hnl]; exact HR.out.2.way true
    have HNL := Lib.hid hnl; clear h q1 q2 q3 q4 hnl; have kk := cA (i := 0) HS2.out rfl 7 rfl
    by_cases h3 : 300 < nl
    ·have e3 : decide (300 < (nl : Int)) = true := by simp; omega
     obtain ⟨nd, Hnd⟩ : ∃ y, Hid (nl - 300 = y) := ⟨_, Lib.hid rfl⟩; have hnd : nd ≤ nl := by rw [← Hnd.out]; omega
     have esub : IntKind.i64.wrap ((nl : Int) - 300) = (nd : Int) := by rw [IntKind.wrap_i64]; have := Hnd.out; omega
     obtain ⟨SA, HSA⟩ : ∃ y, Hid ((if cV = nd then AV else AV.map (·.add (nd * 10))) = y) := ⟨_, Lib.hid rfl⟩; obtain ⟨sn, Hsn⟩ : ∃ y, Hid (nl - nd = y) := ⟨_, Lib.hid rfl⟩; obtain ⟨sc, Hsc⟩ : ∃ y, Hid (cV - nd = y) := ⟨_, Lib.hid rfl⟩; have HRS : Hid (∀ W, (Instr.slice 30 (.slice AV nl cV) (some (.int .i64 (nd : Int))) none none).run Try.prog W = .ok (.slice SA sn sc) W) := Lib.hid (fun W => by rw [run_fromF W AV nl cV nd hnd, HSA.out, Hsn.out, Hsc.out]); have HPUT : Hid (∀ W, Sep w0 W (Ce g 34 #[.pointer (some ⟨c0, 0, none⟩), .pointer (some ⟨c1, 0, none⟩), .int .u64 ((((T1.trimTo 1).l false).si : Nat) : Int), .int .u64 ((((T1.trimTo 1).l true).si : Nat) : Int), .int .u64 (((T1.trimTo 1).now false : Nat) : Int), .int .u64 (((T1.trimTo 1).now true : Nat) : Int), v0, .slice AV nl cV, .map (some bs), .map (some bt), .int .i64 (((T1.trimTo 1).n : Nat) : Int), .bool false] :: (Ce c0 72 (((T1.trimTo 1).l false).cells b0) :: BoxT b0 ((T1.trimTo 1).l false).box :: Ce c1 72 (((T1.trimTo 1).l true).cells b1) :: BoxT b1 ((T1.trimTo 1).l true).box :: RwO 51 10 v0 W0.length (fR_ W0) :: RwO 51 10 (.slice AV nl cV) nl (fR_ W1) :: Bods BB :: MapT bs (T1.trimTo 1).sent :: MapT bt (T1.trimTo 1).told :: Qs)) → Sep w0 (W.setCell ⟨g, 7, none⟩ (.slice SA sn sc)) (Ce g 34 #[.pointer (some ⟨c0, 0, none⟩), .pointer (some ⟨c1, 0, none⟩), .int .u64 ((((T1.trimTo 1).l false).si : Nat) : Int), .int .u64 ((((T1.trimTo 1).l true).si : Nat) : Int), .int .u64 (((T1.trimTo 1).now false : Nat) : Int), .int .u64 (((T1.trimTo 1).now true : Nat) : Int), v0, .slice SA sn sc, .map (some bs), .map (some bt), .int .i64 (((T1.trimTo 1).n : Nat) : Int), .bool false] :: (Ce c0 72 (((T1.trimTo 1).l false).cells b0) :: BoxT b0 ((T1.trimTo 1).l false).box :: Ce c1 72 (((T1.trimTo 1).l true).cells b1) :: BoxT b1 ((T1.trimTo 1).l true).box :: RwO 51 10 v0 W0.length (fR_ W0) :: RwO 51 10 (.slice SA sn sc) sn ((fR_ W1).drop (nd * 10)) :: Bods BB :: MapT bs (T1.trimTo 1).sent :: MapT bt (T1.trimTo 1).told :: Qs))) := Lib.hid (fun W hS => by
      have h1 := sep_rwoFrom (i := 6) (cS (i := 0) hS rfl 7 (.slice SA sn sc)) rfl hnd; rw [HSA.out, Hsn.out, Hsc.out] at h1; exact h1)
     clear hnd
     go_wp2_with fail
     refine wRF (fun dn xv W => if dn 14 = true then Sep w0 W (Ce g 34 #[.pointer (some ⟨c0, 0, none⟩), .pointer (some ⟨c1, 0, none⟩), .int .u64 ((((T1.trimTo 1).l false).si : Nat) : Int), .int .u64 ((((T1.trimTo 1).l true).si : Nat) : Int), .int .u64 (((T1.trimTo 1).now false : Nat) : Int), .int .u64 (((T1.trimTo 1).now true : Nat) : Int), v0, .slice SA sn sc, .map (some bs), .map (some bt), .int .i64 (((T1.trimTo 1).n : Nat) : Int), .bool false] :: (Ce c0 72 (((T1.trimTo 1).l false).cells b0) :: BoxT b0 ((T1.trimTo 1).l false).box :: Ce c1 72 (((T1.trimTo 1).l true).cells b1) :: BoxT b1 ((T1.trimTo 1).l true).box :: RwO 51 10 v0 W0.length (fR_ W0) :: RwO 51 10 (.slice SA sn sc) sn ((fR_ W1).drop (nd * 10)) :: Bods BB :: MapT bs (T1.trimTo 1).sent :: MapT bt (T1.trimTo 1).told :: Qs)) else Sep w0 W (Ce g 34 #[.pointer (some ⟨c0, 0, none⟩), .pointer (some ⟨c1, 0, none⟩), .int .u64 ((((T1.trimTo 1).l false).si : Nat) : Int), .int .u64 ((((T1.trimTo 1).l true).si : Nat) : Int), .int .u64 (((T1.trimTo 1).now false : Nat) : Int), .int .u64 (((T1.trimTo 1).now true : Nat) : Int), v0, .slice AV nl cV, .map (some bs), .map (some bt), .int .i64 (((T1.trimTo 1).n : Nat) : Int), .bool false] :: (Ce c0 72 (((T1.trimTo 1).l false).cells b0) :: BoxT b0 ((T1.trimTo 1).l false).box :: Ce c1 72 (((T1.trimTo 1).l true).cells b1) :: BoxT b1 ((T1.trimTo 1).l true).box :: RwO 51 10 v0 W0.length (fR_ W0) :: RwO 51 10 (.slice AV nl cV) nl (fR_ W1) :: Bods BB :: MapT bs (T1.trimTo 1).sent :: MapT bt (T1.trimTo 1).told :: Qs))) (fun _ _ => True) [fun v _ => v = .pointer (some ⟨g, 0, none⟩), fun v _ => v = .int .i64 1, fun v _ => v = .pointer (some ⟨g, 0, none⟩), fun v _ => v = .int .i64 1, fun v _ => v = .pointer (some ⟨g, 0, none⟩), fun v _ => v = .pointer (some ⟨g, 6, none⟩), fun v _ => v = .pointer (some ⟨g, 7, none⟩), fun v _ => v = .slice AV nl cV, fun v _ => v = .int .i64 (nl : Int), fun v _ => v = .int .i64 (nd : Int), fun v _ => v = .slice SA sn sc, fun v _ => v = .pointer (some ⟨g, 0, none⟩), fun v _ => v = .pointer (some ⟨g, 6, none⟩), fun v _ => v = .pointer (some ⟨g, 7, none⟩), fun v _ => True] (by kernel_rfl) (by kernel_rfl) (by kernel_rfl) (by kernel_rfl) (fun xv => by simpa using HS2.out.drew)
      (by repeat (first | exact trivial | refine ⟨fun _ _ _ _ h => h, ?_⟩)) ?_ ?_
     ·refine EC 1 rfl (fun h i W F a b c d e H K f => ?_) ?_
      ·have f0 : F.tmps.getD 0 undef = .pointer (some ⟨g, 0, none⟩) := (a 0).trans (by kernel_rfl); clear H c b d a; refine oP rfl ?_; go_simp; exact f.out _ _ rfl trivial e
      refine EC 2 rfl (fun g h W F a b c d e H K f => ?_) ?_
      ·have f8 : F.tmps.getD 8 undef = .int .i64 1 := (a 8).trans (by kernel_rfl); clear H c b d a; refine oP rfl ?_; go_simp; exact f.out _ _ rfl trivial e
      refine EC 3 rfl (fun h i W F a b c d e H K f => ?_) ?_
      ·have f0 : F.tmps.getD 0 undef = .pointer (some ⟨g, 0, none⟩) := (a 0).trans (by kernel_rfl); clear H c b d a; refine oP rfl ?_; go_simp; exact f.out _ _ rfl trivial e
      refine EC 4 rfl (fun g h W F a b c d e H K f => ?_) ?_
      ·have f8 : F.tmps.getD 8 undef = .int .i64 1 := (a 8).trans (by kernel_rfl); clear H c b d a; refine oP rfl ?_; go_simp; exact f.out _ _ rfl trivial e
      refine EC 5 rfl (fun g h W F a b c d e H K f => ?_) ?_
      ·have f153 := gE (a 153) (by kernel_rfl) (H 2) (by kernel_rfl); clear H c b d a; refine oP rfl ?_; go_simp; exact f.out _ _ rfl trivial e
      refine EC 6 rfl (fun g h W F a b c d e H K f => ?_) ?_
      ·have f155 := gE (a 155) (by kernel_rfl) (H 4) (by kernel_rfl); clear H c b d a; refine oP rfl ?_; go_simp; exact f.out _ _ rfl trivial e
      refine EC 7 rfl (fun g h W F a b c d e H K f => ?_) ?_
      ·have f154 := gE (a 154) (by kernel_rfl) (H 3) (by kernel_rfl); have f156 := gE (a 156) (by kernel_rfl) (H 5) (by kernel_rfl); clear H c b d a; refine oP rfl ?_; go_simp; exact f.out _ _ rfl trivial e
      refine EC 8 rfl (fun g h W F a b c d e H K f => ?_) ?_
      ·have f157 := gE (a 157) (by kernel_rfl) (H 6) (by kernel_rfl); have q14 : g 14 = false := c 14 (.more (j := 10) (by kernel_rfl) (.edge (by kernel_rfl))); have hq := e; rw [if_neg (by simp [q14])] at hq; have kk := cA (i := 0) hq rfl 7 rfl; clear H c b d a; refine oP rfl ?_; go_simp; exact f.out _ _ rfl trivial e
      refine EC 9 rfl (fun g h W F a b c d e H K f => ?_) ?_
      ·have f9 : F.tmps.getD 9 undef = .int .i64 (nl : Int) := (a 9).trans (by kernel_rfl); clear H c b d a; refine oP rfl ?_; go_simp; exact f.out _ _ rfl trivial e
      refine EC 10 rfl (fun g h W F a b c d e H K f => ?_) ?_
      ·have f159 := gE (a 159) (by kernel_rfl) (H 8) (by kernel_rfl); clear H c b d a; refine oP rfl ?_; go_simp; exact f.out _ _ rfl trivial e
      refine EC 11 rfl (fun g h W F a b c d e H K f => ?_) ?_
      ·have f158 := gE (a 158) (by kernel_rfl) (H 7) (by kernel_rfl); have f160 := gE (a 160) (by kernel_rfl) (H 9) (by kernel_rfl); have rs := HRS.out W; clear H c b d a; refine oP rfl ?_; go_simp; exact f.out _ _ rfl trivial e
      refine EC 12 rfl (fun g h W F a b c d e H K f => ?_) ?_
      ·have f151 := gE (a 151) (by kernel_rfl) (H 0) (by kernel_rfl); clear H c b d a; refine oP rfl ?_; go_simp; exact f.out _ _ rfl trivial e
      refine EC 13 rfl (fun g h W F a b c d e H K f => ?_) ?_
      ·have f162 := gE (a 162) (by kernel_rfl) (H 11) (by kernel_rfl); clear H c b d a; refine oP rfl ?_; go_simp; exact f.out _ _ rfl trivial e
      refine EC 14 rfl (fun g h W F a b c d e H K f => ?_) ?_
      ·have f152 := gE (a 152) (by kernel_rfl) (H 1) (by kernel_rfl); have f163 := gE (a 163) (by kernel_rfl) (H 12) (by kernel_rfl); clear H c b d a; refine oP rfl ?_; go_simp; exact f.out _ _ rfl trivial e
      refine EC 15 rfl (fun h j W F a b c d e H K f => ?_) ?_
      ·have f161 := gE (a 161) (by kernel_rfl) (H 10) (by kernel_rfl); have f164 := gE (a 164) (by kernel_rfl) (H 13) (by kernel_rfl); rw [if_neg (by simp [b])] at e; have hS := e; clear e c b d a H; refine oP rfl ?_; have yy := cFz (i := 0) hS rfl 7; have kk := cA (i := 0) hS rfl 7 rfl; have hs : Sep w0 (W.setCell ⟨g, 7, none⟩ (.slice SA sn sc)) (Ce g 34 #[.pointer (some ⟨c0, 0, none⟩), .pointer (some ⟨c1, 0, none⟩), .int .u64 ((((T1.trimTo 1).l false).si : Nat) : Int), .int .u64 ((((T1.trimTo 1).l true).si : Nat) : Int), .int .u64 (((T1.trimTo 1).now false : Nat) : Int), .int .u64 (((T1.trimTo 1).now true : Nat) : Int), v0, .slice SA sn sc, .map (some bs), .map (some bt), .int .i64 (((T1.trimTo 1).n : Nat) : Int), .bool false] :: (Ce c0 72 (((T1.trimTo 1).l false).cells b0) :: BoxT b0 ((T1.trimTo 1).l false).box :: Ce c1 72 (((T1.trimTo 1).l true).cells b1) :: BoxT b1 ((T1.trimTo 1).l true).box :: RwO 51 10 v0 W0.length (fR_ W0) :: RwO 51 10 (.slice SA sn sc) sn ((fR_ W1).drop (nd * 10)) :: Bods BB :: MapT bs (T1.trimTo 1).sent :: MapT bt (T1.trimTo 1).told :: Qs)) := HPUT.out W hS; go_simp; exact f.out undef _ trivial trivial (by simpa [upB, upd] using hs)
      exact EN
     ·intro dn xv W hI H; have qe : dn 14 = true := (H 14 (of_decide_eq_true (by kernel_rfl))).1; rw [if_pos qe] at hI; have hS := hI; clear H hI qe; simp only [putAll, Act.put, List.setIfInBounds_toArray, List.set_cons_zero, List.set_cons_succ, Nat.reduceAdd]; have HS3 := Lib.hid hS; clear hS
      go_wp2_with fail
      go_roundw
      case rel =>
       refine ⟨2, by omega, rfl, Lib.hid ⟨b0, b1, v0, .slice SA sn sc, W0, W1.drop nd, BB, bs, bt, ?_, ?_, ?_, ?_, ?_⟩⟩
       ·exact HQ.out.1
       ·rw [List.map_drop, HQ.out.2.1]; exact trim_nd T1 true HNL.out Hnd.out
       ·exact HQ.out.2.2.1
       ·exact fun y hy => HQ.out.2.2.2 y (frBods_drop hy)
       ·have h1 := HS3.out; rw [← frRow_drop, show sn = (W1.drop nd).length by rw [List.length_drop, Hnl.out, Hsn.out]] at h1; rw [show sn = (W1.drop nd).length by rw [List.length_drop, Hnl.out, Hsn.out]]; exact h1
      case measure => simp [intOf]
    ·have e3 : decide (300 < (nl : Int)) = false := by simp; omega
     have HM2 : Hid (TwA c0 c1 w0 wr g (T1.trimTo 2) Qs) := Lib.hid (by
      rw [trimTo_step1 T1 (by have h4 := HNL.out; rw [show (T1.trimTo 1).way true = T1.way true by simp [TW.trimTo]] at h4; omega)]; exact HM.out)
     go_wp2_with fail
     go_roundw
     case rel => exact ⟨2, by omega, rfl, HM2⟩
     case measure => simp [intOf]
   ·subst e
    go_wp2_with fail
    go_end0
    refine ⟨rfl, false, k, c0, c1, ?_, ?_⟩
    ·rw [HR.out.1, ← trimTo_2]; exact HM.out
    ·rw [HR.out.1]; exact HR.out.2.trim
set_option maxHeartbeats 6400000 in
theorem act1 {w0 w : World} {Qs : List SP} {g a0 a1 B : Nat} {T : TW} (h : TwA a0 a1 w0 w g T Qs) (hO : T.Ok B) (hB : B ≤ 1000000) (d at_ nn : Int) (heb : bits .and .i64 at_ 1 = 1) :
  Calls Try.prog 10 #[.pointer (some ⟨g, 0, none⟩), .agg #[.int .i64 d, .int .i64 at_, .int .i64 nn]] w fun e w' => e = .returned (.tuple #[]) ∧ ActP w0 w' g T d Qs B := by
 obtain ⟨k, hk, hk2⟩ := and_low nn 65535 (by omega); have ek : bits .and .i64 nn 65535 = (k : Int) := hk2; have HSB := Lib.hid (sep_ce (Sep.nil w) #[.int .i64 d, .int .i64 at_, .int .i64 nn] 37); have HA := Lib.hid (h.grow ((Below.refl _ _).alloc (Nat.le_refl _) (.cells #[.int .i64 d, .int .i64 at_, .int .i64 nn] 37))); have HAB := Lib.hid (h.ce #[.int .i64 d, .int .i64 at_, .int .i64 nn] 37); have k0 := cA (i := 0) HSB.out rfl 0 rfl; have k1 := cA (i := 0) HSB.out rfl 1 rfl; have k2 := cA (i := 0) HSB.out rfl 2 rfl; clear h hk2; have ei : bits .and .i64 at_ 1 = 1 := heb; go_enter Try.func10, Try.ntmps10
 go_upto_block 0 with fail
 go_cut [6, 7] from 18 to 137 (fun u6 u7 wx => ∃ b0 b1 T1, TwA b0 b1 w0 wx g T1 Qs ∧ Hid (T.act d true k = T1.trim ∧ T1.Ok (B + 20)))
 case first =>
  clear k1 k2
  by_cases h0 : d = 0
  ·subst h0; have HB0 := Lib.hid k0; obtain ⟨kq, Hkq⟩ : ∃ x, Hid (k % 4 = x) := ⟨_, Lib.hid rfl⟩; have hkq : kq ≤ 3 := by rw [← Hkq.out]; omega
   have e3 : bits .and .i64 (k : Int) 3 = (kq : Int) := by rw [and_3 k (by omega), Hkq.out]
   have hnow := hO.now true; have ew1 : IntKind.u64.wrap (kq : Int) = (kq : Int) := u64_wrapG (by omega) (by omega); have ew2 : IntKind.u64.wrap (((T.now true : Nat) : Int) + (kq : Int)) = ((T.now true : Nat) : Int) + (kq : Int) := u64_wrapG (by omega) (by omega); clear hnow
   go_wp2_with fail
   refine wRF (fun dn xv W => if dn 13 = true then TwA a0 a1 w0 W g (T.later true kq) Qs else TwA a0 a1 w0 W g T Qs) (fun _ _ => True) [fun v _ => v = .pointer (some ⟨g, 0, none⟩), fun v _ => v = .int .i64 1, fun v _ => v = .pointer (some ⟨g, 0, none⟩), fun v _ => v = .pointer (some ⟨g, 4, none⟩), fun v _ => v = .pointer (some ⟨g, 5, none⟩), fun v _ => v = .int .u64 ((T.now true : Nat) : Int), fun v _ => v = .int .i64 (k : Int), fun v _ => v = .int .i64 (kq : Int), fun v _ => v = .int .u64 (kq : Int), fun v _ => v = .int .u64 ((T.now true : Nat) + (kq : Nat) : Int), fun v _ => v = .pointer (some ⟨g, 0, none⟩), fun v _ => v = .pointer (some ⟨g, 4, none⟩), fun v _ => v = .pointer (some ⟨g, 5, none⟩), fun v _ => True] (by kernel_rfl) (by kernel_rfl) (by kernel_rfl) (by kernel_rfl) (fun xv => by simpa using HA.out.drew)
    (by repeat (first | exact trivial | refine ⟨fun _ _ _ _ h => h, ?_⟩)) ?_ ?_
   ·refine EC 1 rfl (fun h i W F a b c d e H K f => ?_) ?_
    ·have f0 : F.tmps.getD 0 undef = .pointer (some ⟨g, 0, none⟩) := (a 0).trans (by kernel_rfl); clear H c b d a; refine oP rfl ?_; go_simp; exact f.out _ _ rfl trivial e
    refine EC 2 rfl (fun g h W F a b c d e H K f => ?_) ?_
    ·have f4 : F.tmps.getD 4 undef = .int .i64 1 := (a 4).trans (by kernel_rfl); clear H c b d a; refine oP rfl ?_; go_simp; exact f.out _ _ rfl trivial e
    refine EC 3 rfl (fun g h W F a b c d e H K f => ?_) ?_
    ·have f20 := gE (a 20) (by kernel_rfl) (H 0) (by kernel_rfl); clear H c b d a; refine oP rfl ?_; go_simp; exact f.out _ _ rfl trivial e
    refine EC 4 rfl (fun g h W F a b c d e H K f => ?_) ?_
    ·have f22 := gE (a 22) (by kernel_rfl) (H 2) (by kernel_rfl); clear H c b d a; refine oP rfl ?_; go_simp; exact f.out _ _ rfl trivial e
    refine EC 5 rfl (fun g h W F a b c d e H K f => ?_) ?_
    ·have f21 := gE (a 21) (by kernel_rfl) (H 1) (by kernel_rfl); have f23 := gE (a 23) (by kernel_rfl) (H 3) (by kernel_rfl); clear H c b d a; refine oP rfl ?_; go_simp; exact f.out _ _ rfl trivial e
    refine EC 6 rfl (fun g h W F a b c d e H K f => ?_) ?_
    ·have f24 := gE (a 24) (by kernel_rfl) (H 4) (by kernel_rfl); have q13 : g 13 = false := c 13 (.more (j := 9) (by kernel_rfl) (.edge (by kernel_rfl))); have hq := e; rw [if_neg (by simp [q13])] at hq; have kk := hq.t1; clear H c b d a; refine oP rfl ?_; go_simp; exact f.out _ _ rfl trivial e
    refine EC 7 rfl (fun g h W F a b c d e H K f => ?_) ?_
    ·have f5 : F.tmps.getD 5 undef = .int .i64 (k : Int) := (a 5).trans (by kernel_rfl); clear H c b d a; refine oP rfl ?_; go_simp; exact f.out _ _ rfl trivial e
    refine EC 8 rfl (fun g h W F a b c d e H K f => ?_) ?_
    ·have f26 := gE (a 26) (by kernel_rfl) (H 6) (by kernel_rfl); clear H c b d a; refine oP rfl ?_; go_simp; exact f.out _ _ rfl trivial e
    refine EC 9 rfl (fun g h W F a b c d e H K f => ?_) ?_
    ·have f27 := gE (a 27) (by kernel_rfl) (H 7) (by kernel_rfl); clear H c b d a; refine oP rfl ?_; go_simp; exact f.out _ _ rfl trivial e
    refine EC 10 rfl (fun g h W F a b c d e H K f => ?_) ?_
    ·have f25 := gE (a 25) (by kernel_rfl) (H 5) (by kernel_rfl); have f28 := gE (a 28) (by kernel_rfl) (H 8) (by kernel_rfl); clear H c b d a; refine oP rfl ?_; go_simp; exact f.out _ _ rfl trivial e
    refine EC 11 rfl (fun g h W F a b c d e H K f => ?_) ?_
    ·have f20 := gE (a 20) (by kernel_rfl) (H 0) (by kernel_rfl); clear H c b d a; refine oP rfl ?_; go_simp; exact f.out _ _ rfl trivial e
    refine EC 12 rfl (fun g h W F a b c d e H K f => ?_) ?_
    ·have f30 := gE (a 30) (by kernel_rfl) (H 10) (by kernel_rfl); clear H c b d a; refine oP rfl ?_; go_simp; exact f.out _ _ rfl trivial e
    refine EC 13 rfl (fun g h W F a b c d e H K f => ?_) ?_
    ·have f21 := gE (a 21) (by kernel_rfl) (H 1) (by kernel_rfl); have f31 := gE (a 31) (by kernel_rfl) (H 11) (by kernel_rfl); clear H c b d a; refine oP rfl ?_; go_simp; exact f.out _ _ rfl trivial e
    refine EC 14 rfl (fun g h W F a b c d e H K f => ?_) ?_
    ·have f29 := gE (a 29) (by kernel_rfl) (H 9) (by kernel_rfl); have f32 := gE (a 32) (by kernel_rfl) (H 12) (by kernel_rfl); rw [if_neg (by simp [b])] at e; have hS := e; clear e c b d a H; refine oP rfl ?_; obtain ⟨yy, hs⟩ := hS.later1 kq; have kk := hS.t1; go_simp; exact f.out undef _ trivial trivial (by simpa [upB, upd] using hs)
    exact EN
   ·intro dn xv W hI H; have qe : dn 13 = true := (H 13 (of_decide_eq_true (by kernel_rfl))).1; rw [if_pos qe] at hI; have hS := hI; clear H hI qe; simp only [putAll, Act.put, List.setIfInBounds_toArray, List.set_cons_zero, List.set_cons_succ, Nat.reduceAdd]; obtain ⟨T0, HT0⟩ : ∃ x, Hid (T.later true kq = x) := ⟨_, Lib.hid rfl⟩; rw [HT0.out] at hS; have HA1 := Lib.hid hS; have HO0 : Hid (T0.Ok (B + 3)) := Lib.hid (by rw [← HT0.out]; exact hO.later true hkq); have HC1 := Lib.hid (fun (W : World) (hS : TwA a0 a1 w0 W g T0 Qs) => tickA1 hS HO0.out (by omega)); have HC2 := Lib.hid (fun (W : World) (v : Value) (hS : MidA a0 a1 v w0 W g (T0.withL true ((T0.l true).tick (T0.now true))) ((T0.l true).tickF (T0.now true)) ((T0.l true).tickE (T0.now true)) Qs) => show Calls Try.prog 31 #[.pointer (some ⟨g, 0, none⟩), .int .i64 1, v] W (fun e w' => e = .returned (.tuple #[]) ∧ TwA a0 a1 w0 w' g (T0.tick true) Qs) from
     ansA1 hS ((HO0.out.mono (Nat.le_add_right _ 1)).withL true ((HO0.out.num true).tick (now := T0.now true) (by have := HO0.out.now true; omega)) (ids_tick (HO0.out.ids true) (T0.now true))) (by omega) (by have := (tickF_ok (HO0.out.num true) (HO0.out.ids true) (T0.now true)).2.1; omega) (by have := (tickF_ok (HO0.out.num true) (HO0.out.ids true) (T0.now true)).2.2; omega))
    clear hS e3 ew1 ew2 hkq
    go_wp2_with fail
    refine wRF (fun dn xv W => if dn 15 = true then TwA a0 a1 w0 W g (T0.tick true) Qs else if dn 14 = true then MidA a0 a1 (xv 14) w0 W g (T0.withL true ((T0.l true).tick (T0.now true))) ((T0.l true).tickF (T0.now true)) ((T0.l true).tickE (T0.now true)) Qs else TwA a0 a1 w0 W g T0 Qs) (fun _ _ => True) [fun v _ => v = .pointer (some ⟨g, 0, none⟩), fun v _ => v = .int .i64 1, fun v _ => v = .pointer (some ⟨g, 0, none⟩), fun v _ => v = .int .i64 1, fun v _ => v = .pointer (some ⟨g, 0, none⟩), fun v _ => v = .pointer (some ⟨g, 0, none⟩), fun v _ => v = .pointer (some ⟨g, 1, none⟩), fun v _ => v = .pointer (some ⟨a1, 0, none⟩), fun v _ => v = .pointer (some ⟨g, 0, none⟩), fun v _ => v = .int .i64 1, fun v _ => v = .pointer (some ⟨g, 0, none⟩), fun v _ => v = .pointer (some ⟨g, 4, none⟩), fun v _ => v = .pointer (some ⟨g, 5, none⟩), fun v _ => v = .int .u64 ((T0.now true : Nat) : Int), fun v _ => True, fun v _ => True] (by kernel_rfl) (by kernel_rfl) (by kernel_rfl) (by kernel_rfl) (fun xv => by simpa using HA1.out.drew)
     (by repeat (first | exact trivial | refine ⟨fun _ _ _ _ h => h, ?_⟩)) ?_ ?_
    ·refine EC 1 rfl (fun h i W F a b c d e H K f => ?_) ?_
     ·have f0 : F.tmps.getD 0 undef = .pointer (some ⟨g, 0, none⟩) := (a 0).trans (by kernel_rfl); clear H c b d a; refine oP rfl ?_; go_simp; exact f.out _ _ rfl trivial e
     refine EC 2 rfl (fun g h W F a b c d e H K f => ?_) ?_
     ·have f4 : F.tmps.getD 4 undef = .int .i64 1 := (a 4).trans (by kernel_rfl); clear H c b d a; refine oP rfl ?_; go_simp; exact f.out _ _ rfl trivial e
     refine EC 3 rfl (fun h i W F a b c d e H K f => ?_) ?_
     ·have f0 : F.tmps.getD 0 undef = .pointer (some ⟨g, 0, none⟩) := (a 0).trans (by kernel_rfl); clear H c b d a; refine oP rfl ?_; go_simp; exact f.out _ _ rfl trivial e
     refine EC 4 rfl (fun g h W F a b c d e H K f => ?_) ?_
     ·have f4 : F.tmps.getD 4 undef = .int .i64 1 := (a 4).trans (by kernel_rfl); clear H c b d a; refine oP rfl ?_; go_simp; exact f.out _ _ rfl trivial e
     refine EC 5 rfl (fun g h W F a b c d e H K f => ?_) ?_
     ·have f35 := gE (a 35) (by kernel_rfl) (H 2) (by kernel_rfl); clear H c b d a; refine oP rfl ?_; go_simp; exact f.out _ _ rfl trivial e
     refine EC 6 rfl (fun g h W F a b c d e H K f => ?_) ?_
     ·have f37 := gE (a 37) (by kernel_rfl) (H 4) (by kernel_rfl); clear H c b d a; refine oP rfl ?_; go_simp; exact f.out _ _ rfl trivial e
     refine EC 7 rfl (fun g h W F a b c d e H K f => ?_) ?_
     ·have f36 := gE (a 36) (by kernel_rfl) (H 3) (by kernel_rfl); have f38 := gE (a 38) (by kernel_rfl) (H 5) (by kernel_rfl); clear H c b d a; refine oP rfl ?_; go_simp; exact f.out _ _ rfl trivial e
     refine EC 8 rfl (fun g h W F a b c d e H K f => ?_) ?_
     ·have f39 := gE (a 39) (by kernel_rfl) (H 6) (by kernel_rfl); have q1 : g 14 = false := c 14 (.edge (by kernel_rfl)); have q2 : g 15 = false := c 15 (.more (j := 14) (by kernel_rfl) (.edge (by kernel_rfl))); have hq := e; rw [if_neg (by simp [q2]), if_neg (by simp [q1])] at hq; have kk := hq.l1; clear H c b d a; refine oP rfl ?_; go_simp; exact f.out _ _ rfl trivial e
     refine EC 9 rfl (fun h i W F a b c d e H K f => ?_) ?_
     ·have f0 : F.tmps.getD 0 undef = .pointer (some ⟨g, 0, none⟩) := (a 0).trans (by kernel_rfl); clear H c b d a; refine oP rfl ?_; go_simp; exact f.out _ _ rfl trivial e
     refine EC 10 rfl (fun g h W F a b c d e H K f => ?_) ?_
     ·have f4 : F.tmps.getD 4 undef = .int .i64 1 := (a 4).trans (by kernel_rfl); clear H c b d a; refine oP rfl ?_; go_simp; exact f.out _ _ rfl trivial e
     refine EC 11 rfl (fun g h W F a b c d e H K f => ?_) ?_
     ·have f41 := gE (a 41) (by kernel_rfl) (H 8) (by kernel_rfl); clear H c b d a; refine oP rfl ?_; go_simp; exact f.out _ _ rfl trivial e
     refine EC 12 rfl (fun g h W F a b c d e H K f => ?_) ?_
     ·have f43 := gE (a 43) (by kernel_rfl) (H 10) (by kernel_rfl); clear H c b d a; refine oP rfl ?_; go_simp; exact f.out _ _ rfl trivial e
     refine EC 13 rfl (fun g h W F a b c d e H K f => ?_) ?_
     ·have f42 := gE (a 42) (by kernel_rfl) (H 9) (by kernel_rfl); have f44 := gE (a 44) (by kernel_rfl) (H 11) (by kernel_rfl); clear H c b d a; refine oP rfl ?_; go_simp; exact f.out _ _ rfl trivial e
     refine EC 14 rfl (fun g h W F a b c d e H K f => ?_) ?_
     ·have f45 := gE (a 45) (by kernel_rfl) (H 12) (by kernel_rfl); have q1 : g 14 = false := c 14 (.edge (by kernel_rfl)); have q2 : g 15 = false := c 15 (.more (j := 14) (by kernel_rfl) (.edge (by kernel_rfl))); have hq := e; rw [if_neg (by simp [q2]), if_neg (by simp [q1])] at hq; have kk := hq.t1; clear H c b d a; refine oP rfl ?_; go_simp; exact f.out _ _ rfl trivial e
     refine EC 15 rfl (fun h i W F a b c d f H K g => ?_) ?_
     ·have f40 := gE (a 40) (by kernel_rfl) (H 7) (by kernel_rfl); have f46 := gE (a 46) (by kernel_rfl) (H 13) (by kernel_rfl); have q15 : h 15 = false := c 15 (.edge (by kernel_rfl)); rw [if_neg (by simp [q15]), if_neg (by simp [b])] at f; have hS := f; clear f c b d a H; refine oP rfl ?_; go_simp; refine (HC1.out W hS).mono ?_; rintro e W' ⟨v, rfl, hs⟩; exact g.out v W' trivial trivial (by simpa [upB, upd, q15] using hs)
     refine EC 16 rfl (fun h i W F a b c d f H K g => ?_) ?_
     ·have f33 := gE (a 33) (by kernel_rfl) (H 0) (by kernel_rfl); have f34 := gE (a 34) (by kernel_rfl) (H 1) (by kernel_rfl); have f47 : F.tmps.getD 47 undef = i 14 := (a 47).trans (by kernel_rfl); have q14 : h 14 = true := (H 14 (.edge (by kernel_rfl))).1; rw [if_neg (by simp [b]), if_pos q14] at f; have hS := f; clear f c b d a H; refine oP rfl ?_; go_simp; refine (HC2.out W _ hS).mono ?_; rintro e W' ⟨rfl, hs⟩; exact g.out _ W' trivial trivial (by simpa [upB, upd] using hs)
     exact EN
    ·intro dn xv W hI H; have qe : dn 15 = true := (H 15 (of_decide_eq_true (by kernel_rfl))).1; rw [if_pos qe] at hI; have hS := hI; clear H hI qe; simp only [putAll, Act.put, List.setIfInBounds_toArray, List.set_cons_zero, List.set_cons_succ, Nat.reduceAdd]
     go_wp2_with fail
     go_meet
     case rel => exact ⟨a0, a1, _, hS, Lib.hid ⟨by rw [TW.act, if_pos rfl, ← HT0.out, ← Hkq.out]; rfl, (HO0.out.tick (by omega) true).mono (by omega)⟩⟩
  ·have e0 : (d == 0) = false := by simpa using h0
   by_cases h1 : d = 1
   ·subst h1
    go_wp2_with fail
    refine (sendA1 HA.out hO (by omega)).mono ?_; rintro e w2 ⟨rfl, h2⟩; have HA2 := Lib.hid h2; clear h2
    go_wp2_with fail
    go_meet
    case rel => exact ⟨a0, a1, _, HA2.out, Lib.hid ⟨by rw [TW.act, if_neg (by decide), if_pos rfl], (hO.send (by omega) true).mono (by omega)⟩⟩
   ·have e1 : (d == 1) = false := by simpa using h1
    by_cases h234 : d = 2 ∨ d = 3 ∨ d = 4
    ·skip
     have H234 := Lib.hid h234; have HA3 := Lib.hid (HAB.out)
     go_upto_if 54 with fail
     go_cut [54] from 55 to 57 (fun t54 wx => t54 = .bool true ∧ wx = (w.alloc (.cells #[.int .i64 d, .int .i64 at_, .int .i64 nn] 37)))
     case first =>
      by_cases h2 : d = 2
      ·subst h2
       go_wp2_with fail
       go_meet
       case rel => exact ⟨rfl, rfl⟩
      ·have e2 : (d == 2) = false := by simpa using h2
       by_cases h3 : d = 3
       ·subst h3
        go_wp2_with fail
        go_meet
        case rel => exact ⟨rfl, rfl⟩
       ·have h4 : d = 4 := by have := H234.out; omega
        subst h4
        go_wp2_with fail
        go_meet
        case rel => exact ⟨rfl, rfl⟩
     case rest =>
      obtain ⟨rfl, rfl⟩ := hcut; obtain ⟨b0, b1, v0, v1, W0, W1, BB, bs, bt, q1, q2, q3, q4, h⟩ := HA3.out; obtain ⟨AV, cV, hv, hcV, hcV2, hasV⟩ := sep_rwoForm (i := 6) h rfl; subst hv; have HQW := Lib.hid (And.intro q1 (And.intro q2 (And.intro q3 q4))); have hlw : W1.length = (T.way true).length := by rw [← q2, List.length_map]
      have kk := cA (v := .slice AV W1.length cV) (i := 0) h rfl 7 rfl; clear q1 q2 q3 q4
      by_cases hw : T.way true = []
      ·have e0 : ((W1.length : Int) == 0) = true := by rw [hlw, hw]; rfl
       have e00 : (W1.length == 0) = true := by rw [hlw, hw]; rfl
       have HW := Lib.hid hw; clear hw hasV h
       go_wp2_with fail
       refine bodyPost_ret (results_none rfl _ _ _) rfl ?_; exact ⟨rfl, true, k, a0, a1, by rw [act_none H234.out HW.out]; exact HA3.out.pop, by rw [act_none H234.out HW.out]; exact hO.mono (by omega)⟩
      ·have hpos : 0 < W1.length := by rw [hlw]; exact List.length_pos_iff.2 hw
       obtain ⟨nl, Hnl⟩ : ∃ y, Hid (W1.length = y) := ⟨_, Lib.hid rfl⟩; obtain ⟨bw, ow, rfl, _, _⟩ := hasV.at_ (k := 0) (by rw [frRow_len]; omega); rw [Hnl.out] at h hcV kk hlw hpos; have e0 : (nl == 0) = false := by simp; omega
       have e00 : ((nl : Int) == 0) = false := by simp; omega
       obtain ⟨jj, Hjj⟩ : ∃ y, Hid (k % nl = y) := ⟨_, Lib.hid rfl⟩; have hjn : jj < nl := by rw [← Hjj.out]; exact Nat.mod_lt _ hpos
       have er : Int.tmod (k : Int) (nl : Int) = (jj : Int) := by rw [← Hjj.out]; rfl
       have er2 : (k : Int) % (nl : Int) = (jj : Int) := by rw [← Hjj.out]; rfl
       obtain ⟨p, hp⟩ : ∃ p, W1[jj]? = some p := ⟨_, List.getElem?_eq_getElem (by rw [Hnl.out]; exact hjn)⟩; have hpB : (p.2, p.1.body) ∈ BB := by
        have hm : (p.2, p.1.body) ∈ fB_ W1 := List.mem_map.2 ⟨_, List.mem_of_getElem? hp, rfl⟩; exact HQW.out.2.2.2 _ hm
       obtain ⟨AU, cU, hu, _, _, hasU⟩ := sep_bodsAt (i := 7) h rfl hpB; have hfw : (T.way true)[jj]? = some p.1 := by rw [← HQW.out.2.1, List.getElem?_map, hp]; rfl
       have hfo := hO.frs true p.1 (List.mem_of_getElem? hfw); have HJW : Hid (k % (T.way true).length = jj) := Lib.hid (by rw [← hlw]; exact Hjj.out); obtain ⟨⟨kind, ffr, fto, finc, fconn, pinc, pconn, fack, fseq, body⟩, u⟩ := p; simp only at hu; subst hu; obtain ⟨fF, HfF⟩ : ∃ y, Hid ((⟨kind, ffr, fto, finc, fconn, pinc, pconn, fack, fseq, body⟩ : Fr) = y) := ⟨_, Lib.hid rfl⟩; have HFW : Hid ((T.way true)[jj]? = some fF) := Lib.hid (by rw [← HfF.out]; exact hfw); have HFO : Hid (FrOk B fF) := Lib.hid (by rw [← HfF.out]; exact hfo); have hbl : body.length ≤ 448 := hfo.2.2.2.2; have HS4 := Lib.hid (show Sep w0 (w.alloc (.cells #[.int .i64 d, .int .i64 at_, .int .i64 nn] 37)) (Ce g 34 #[.pointer (some ⟨a0, 0, none⟩), .pointer (some ⟨a1, 0, none⟩), .int .u64 (((T.l false).si : Nat) : Int), .int .u64 (((T.l true).si : Nat) : Int), .int .u64 ((T.now false : Nat) : Int), .int .u64 ((T.now true : Nat) : Int), v0, .slice (some ⟨bw, ow, none⟩) nl cV, .map (some bs), .map (some bt), .int .i64 ((T.n : Nat) : Int), .bool false] :: Ce a0 72 ((T.l false).cells b0) :: BoxT b0 (T.l false).box :: Ce a1 72 ((T.l true).cells b1) :: BoxT b1 (T.l true).box :: RwO 51 10 v0 W0.length (fR_ W0) :: RwO 51 10 (.slice (some ⟨bw, ow, none⟩) nl cV) nl (fR_ W1) :: Bods BB :: MapT bs T.sent :: MapT bt T.told :: Ce w.heap.size 37 #[.int .i64 d, .int .i64 at_, .int .i64 nn] :: Qs) by unfold TWL at h; rw [Hnl.out] at h; exact h); have hr := sep_rwoHas (i := 6) HS4.out rfl; have kf0 := hK4 hr (frRow_at (r := 0) (v := .int .i64 kind) hp (by omega)); rw [Nat.add_zero] at kf0; have kf1 := hK4 hr (frRow_at (r := 1) (v := .int .i64 ffr) hp (by omega)); rw [← Nat.add_assoc] at kf1; have kf2 := hK4 hr (frRow_at (r := 2) (v := .int .i64 fto) hp (by omega)); rw [← Nat.add_assoc] at kf2; have kf3 := hK4 hr (frRow_at (r := 3) (v := .int .u64 (finc : Int)) hp (by omega)); rw [← Nat.add_assoc] at kf3; have kf4 := hK4 hr (frRow_at (r := 4) (v := .int .u64 (fconn : Int)) hp (by omega)); rw [← Nat.add_assoc] at kf4; have kf5 := hK4 hr (frRow_at (r := 5) (v := .int .u64 (pinc : Int)) hp (by omega)); rw [← Nat.add_assoc] at kf5; have kf6 := hK4 hr (frRow_at (r := 6) (v := .int .u64 (pconn : Int)) hp (by omega)); rw [← Nat.add_assoc] at kf6; have kf7 := hK4 hr (frRow_at (r := 7) (v := .int .u64 (fack : Int)) hp (by omega)); rw [← Nat.add_assoc] at kf7; have kf8 := hK4 hr (frRow_at (r := 8) (v := .int .u64 (fseq : Int)) hp (by omega)); rw [← Nat.add_assoc] at kf8; have kf9 := hK4 hr (frRow_at (r := 9) (v := .slice AU body.length cU) hp (by omega)); rw [← Nat.add_assoc] at kf9; have HU := Lib.hid hasU; have HHP := Lib.hid hp; have HLW := Lib.hid hlw; have hnb : nl ≤ B := by rw [hlw]; exact hO.way true
       clear hr hasV hw h hp hpB hfo hfw hasU hlw
       go_wp2_with fail
       refine (own5_any _ _ ⟨kind, ffr, fto, finc, fconn, pinc, pconn, fack, fseq, body⟩ AU cU HU.out (Nat.le_refl _) (by simp only; omega)).mono ?_; rintro e w3 ⟨AZ, cZ, rfl, hoN, hbN⟩; simp only [Fr.cells]; clear kk kf0 kf1 kf2 kf3 kf4 kf5 kf6 kf7 kf8 kf9 er er2 e0 e00; have HA4 := Lib.hid (HA3.out.grow hbN); have HA5 := Lib.hid (((HA3.out.by_ hbN hoN).ce #[.int .i64 kind, .int .i64 ffr, .int .i64 fto, .int .u64 (finc : Int), .int .u64 (fconn : Int), .int .u64 (pinc : Int), .int .u64 (pconn : Int), .int .u64 (fack : Int), .int .u64 (fseq : Int), .slice AZ body.length cZ] 51).swap); have HS5 := Lib.hid (show Sep w0 (w3.alloc (.cells #[.int .i64 kind, .int .i64 ffr, .int .i64 fto, .int .u64 (finc : Int), .int .u64 (fconn : Int), .int .u64 (pinc : Int), .int .u64 (pconn : Int), .int .u64 (fack : Int), .int .u64 (fseq : Int), .slice AZ body.length cZ] 51)) (Ce g 34 #[.pointer (some ⟨a0, 0, none⟩), .pointer (some ⟨a1, 0, none⟩), .int .u64 (((T.l false).si : Nat) : Int), .int .u64 (((T.l true).si : Nat) : Int), .int .u64 ((T.now false : Nat) : Int), .int .u64 ((T.now true : Nat) : Int), v0, .slice (some ⟨bw, ow, none⟩) nl cV, .map (some bs), .map (some bt), .int .i64 ((T.n : Nat) : Int), .bool false] :: Ce a0 72 ((T.l false).cells b0) :: BoxT b0 (T.l false).box :: Ce a1 72 ((T.l true).cells b1) :: BoxT b1 (T.l true).box :: RwO 51 10 v0 W0.length (fR_ W0) :: RwO 51 10 (.slice (some ⟨bw, ow, none⟩) nl cV) nl (fR_ W1) :: Bods BB :: MapT bs T.sent :: MapT bt T.told :: By (.slice AZ body.length cZ) body :: Ce (w3.heap.size) 51 #[.int .i64 kind, .int .i64 ffr, .int .i64 fto, .int .u64 (finc : Int), .int .u64 (fconn : Int), .int .u64 (pinc : Int), .int .u64 (pconn : Int), .int .u64 (fack : Int), .int .u64 (fseq : Int), .slice AZ body.length cZ] :: Ce w.heap.size 37 #[.int .i64 d, .int .i64 at_, .int .i64 nn] :: Qs) from (show Sep w0 (w3.alloc (.cells #[.int .i64 kind, .int .i64 ffr, .int .i64 fto, .int .u64 (finc : Int), .int .u64 (fconn : Int), .int .u64 (pinc : Int), .int .u64 (pconn : Int), .int .u64 (fack : Int), .int .u64 (fseq : Int), .slice AZ body.length cZ] 51)) (Ce w3.heap.size 51 #[.int .i64 kind, .int .i64 ffr, .int .i64 fto, .int .u64 (finc : Int), .int .u64 (fconn : Int), .int .u64 (pinc : Int), .int .u64 (pconn : Int), .int .u64 (fack : Int), .int .u64 (fseq : Int), .slice AZ body.length cZ] :: By (.slice AZ body.length cZ) body :: Ce g 34 #[.pointer (some ⟨a0, 0, none⟩), .pointer (some ⟨a1, 0, none⟩), .int .u64 (((T.l false).si : Nat) : Int), .int .u64 (((T.l true).si : Nat) : Int), .int .u64 ((T.now false : Nat) : Int), .int .u64 ((T.now true : Nat) : Int), v0, .slice (some ⟨bw, ow, none⟩) nl cV, .map (some bs), .map (some bt), .int .i64 ((T.n : Nat) : Int), .bool false] :: Ce a0 72 ((T.l false).cells b0) :: BoxT b0 (T.l false).box :: Ce a1 72 ((T.l true).cells b1) :: BoxT b1 (T.l true).box :: RwO 51 10 v0 W0.length (fR_ W0) :: RwO 51 10 (.slice (some ⟨bw, ow, none⟩) nl cV) nl (fR_ W1) :: Bods BB :: MapT bs T.sent :: MapT bt T.told :: Ce w.heap.size 37 #[.int .i64 d, .int .i64 at_, .int .i64 nn] :: Qs) from sep_ceF (HS4.out.add (F := fun k => (Value.slice AZ body.length cZ).ownBlock = some k) hbN ⟨own_mono hoN (Nat.zero_le _), fun k => Iff.rfl⟩ (By.loc _ _) fun k hk => (hoN.lt k hk).1).lastFront _ _) |> fun h => ((((((((((((h).tF 0 rfl).tF 1 rfl).tF 11 rfl).tF 11 rfl).tF 11 rfl).tF 11 rfl).tF 11 rfl).tF 11 rfl).tF 11 rfl).tF 11 rfl).tF 11 rfl).tF 11 rfl)
       have HZ := Lib.hid (sep_ce (Sep.nil w3) #[.int .i64 0, .int .i64 0, .int .i64 0, .int .u64 0, .int .u64 0, .int .u64 0, .int .u64 0, .int .u64 0, .int .u64 0, .slice none 0 0] 51); have zf0 := cA (i := 0) HZ.out rfl 0 rfl; have yf0 := cFz (i := 0) HZ.out rfl 0; have zf1 := cA (i := 0) HZ.out rfl 1 rfl; have yf1 := cFz (i := 0) HZ.out rfl 1; have zf2 := cA (i := 0) HZ.out rfl 2 rfl; have yf2 := cFz (i := 0) HZ.out rfl 2; have zf3 := cA (i := 0) HZ.out rfl 3 rfl; have yf3 := cFz (i := 0) HZ.out rfl 3; have zf4 := cA (i := 0) HZ.out rfl 4 rfl; have yf4 := cFz (i := 0) HZ.out rfl 4; have zf5 := cA (i := 0) HZ.out rfl 5 rfl; have yf5 := cFz (i := 0) HZ.out rfl 5; have zf6 := cA (i := 0) HZ.out rfl 6 rfl; have yf6 := cFz (i := 0) HZ.out rfl 6; have zf7 := cA (i := 0) HZ.out rfl 7 rfl; have yf7 := cFz (i := 0) HZ.out rfl 7; have zf8 := cA (i := 0) HZ.out rfl 8 rfl; have yf8 := cFz (i := 0) HZ.out rfl 8; have zf9 := cA (i := 0) HZ.out rfl 9 rfl; have yf9 := cFz (i := 0) HZ.out rfl 9; have kd := HA5.out.q2 0 (v := .int .i64 d) rfl; obtain ⟨T0, HT0⟩ : ∃ x, Hid ((if d = 3 then T else ({ T with way := atB T.way true ((T.way true).eraseIdx jj) } : TW)) = x) := ⟨_, Lib.hid rfl⟩; have HO0 : Hid (T0.Ok B) := Lib.hid (by
        rw [← HT0.out]; split
        ·exact hO
        ·exact hO.lose true jj)
       go_upto_if 87 with fail
       go_cut [] from 88 to 112 (fun wx => TwA a0 a1 w0 wx g T0 (By (.slice AZ body.length cZ) body :: Ce (w3.heap.size) 51 #[.int .i64 kind, .int .i64 ffr, .int .i64 fto, .int .u64 (finc : Int), .int .u64 (fconn : Int), .int .u64 (pinc : Int), .int .u64 (pconn : Int), .int .u64 (fack : Int), .int .u64 (fseq : Int), .slice AZ body.length cZ] :: Ce w.heap.size 37 #[.int .i64 d, .int .i64 at_, .int .i64 nn] :: Qs))
       case first =>
        by_cases h3 : d = 3
        ·subst h3; have HT3 : Hid (T = T0) := Lib.hid (by rw [← HT0.out, if_pos rfl])
         go_wp2_with fail
         go_meet
         case rel =>
          rw [← HT3.out]; exact HA5.out
        ·have e3 : (d != 3) = true := by simpa using h3
         have H3 := Lib.hid h3; have hjn2 : jj + 1 ≤ nl := hjn; have hone := frRow_oneB (LP := W1) (i := 7) HS5.out rfl (fun x hx => HQW.out.2.2.2 _ hx); have HX1 : Hid (∀ u ∈ (fR_ W1).take (jj * 10), u.oneCell' = true) := Lib.hid (fun u hu => hone u (List.mem_of_mem_take hu)); have HX2 : Hid (∀ u ∈ (fR_ W1).drop ((jj + 1) * 10), u.oneCell' = true) := Lib.hid (fun u hu => hone u (List.mem_of_mem_drop hu)); obtain ⟨jk, Hjk⟩ : ∃ y, Hid (jj + 1 = y) := ⟨_, Lib.hid rfl⟩; obtain ⟨SB, HSB2⟩ : ∃ y, Hid ((if cV = jj + 1 then (some ⟨bw, ow, none⟩ : Option Addr) else (some (⟨bw, ow, none⟩ : Addr)).map (·.add ((jj + 1) * 10))) = y) := ⟨_, Lib.hid rfl⟩; obtain ⟨n2, Hn2⟩ : ∃ y, Hid (nl - (jj + 1) = y) := ⟨_, Lib.hid rfl⟩; obtain ⟨c2, Hc2⟩ : ∃ y, Hid (cV - (jj + 1) = y) := ⟨_, Lib.hid rfl⟩; obtain ⟨nn2, HN2⟩ : ∃ y, Hid (jj + n2 = y) := ⟨_, Lib.hid rfl⟩; have hfl : (fR_ W1).length = nl * 10 := by rw [frRow_len, Hnl.out]
         have HL1 : Hid (((fR_ W1).take (jj * 10)).length = jj * 10) := Lib.hid (by rw [List.length_take, hfl]; omega); have HL2 : Hid (((fR_ W1).drop ((jj + 1) * 10)).length = n2 * 10) := Lib.hid (by rw [List.length_drop, hfl, ← Hn2.out, Nat.sub_mul]); have HR1 : Hid (∀ W, (Instr.slice 30 (.slice (some ⟨bw, ow, none⟩) nl cV) none (some (.int .i64 (jj : Int))) none).run Try.prog W = .ok (.slice (some ⟨bw, ow, none⟩) jj cV) W) := Lib.hid (fun W => run_toF W _ nl cV jj (by omega)); have HR2 : Hid (∀ W, (Instr.slice 30 (.slice (some ⟨bw, ow, none⟩) nl cV) (some (.int .i64 (jk : Int))) none none).run Try.prog W = .ok (.slice SB n2 c2) W) := Lib.hid (fun W => by
          have hq := run_fromF W (some ⟨bw, ow, none⟩) nl cV (jj + 1) hjn2; rw [HSB2.out, Hn2.out, Hc2.out, Hjk.out] at hq; exact hq)
         have HH2 : Hid (∀ W, OwnO W 51 10 (.slice (some ⟨bw, ow, none⟩) nl cV) nl (fR_ W1) → Has W W.heap.size SB ((fR_ W1).drop ((jj + 1) * 10))) := Lib.hid (fun W ho => by
          obtain ⟨A', c', e', _, _, hh⟩ := ownO_form (ownO_from ho hjn2).1; rw [HSB2.out] at e'; simp only [Value.slice.injEq] at e'; rw [e'.1]; exact hh)
         have ejk : IntKind.i64.wrap ((jj : Int) + 1) = (jk : Int) := by rw [IntKind.wrap_i64, ← Hjk.out]; omega
         have hn2 : n2 ≤ 1000000 := by rw [← Hn2.out]; omega
         have hjb : jj ≤ 1000000 := by omega
         have HKW : ∀ (dn : Nat → Bool) (xv : Nat → Value) (W : World), (if dn 25 = true then ∃ v, Sep w0 W (Rw 51 10 v nn2 (((fR_ W1).take (jj * 10)) ++ ((fR_ W1).drop ((jj + 1) * 10))) :: Ce g 34 #[.pointer (some ⟨a0, 0, none⟩), .pointer (some ⟨a1, 0, none⟩), .int .u64 (((T.l false).si : Nat) : Int), .int .u64 (((T.l true).si : Nat) : Int), .int .u64 ((T.now false : Nat) : Int), .int .u64 ((T.now true : Nat) : Int), v0, v, .map (some bs), .map (some bt), .int .i64 ((T.n : Nat) : Int), .bool false] :: Ce a0 72 ((T.l false).cells b0) :: BoxT b0 (T.l false).box :: Ce a1 72 ((T.l true).cells b1) :: BoxT b1 (T.l true).box :: RwO 51 10 v0 W0.length (fR_ W0) :: RwO 51 10 (.slice (some ⟨bw, ow, none⟩) nl cV) nl (fR_ W1) :: Bods BB :: MapT bs T.sent :: MapT bt T.told :: By (.slice AZ body.length cZ) body :: Ce (w3.heap.size) 51 #[.int .i64 kind, .int .i64 ffr, .int .i64 fto, .int .u64 (finc : Int), .int .u64 (fconn : Int), .int .u64 (pinc : Int), .int .u64 (pconn : Int), .int .u64 (fack : Int), .int .u64 (fseq : Int), .slice AZ body.length cZ] :: Ce w.heap.size 37 #[.int .i64 d, .int .i64 at_, .int .i64 nn] :: Qs) else if dn 21 = true then Sep w0 W (Rw 51 10 (xv 21) nn2 (((fR_ W1).take (jj * 10)) ++ ((fR_ W1).drop ((jj + 1) * 10))) :: Ce g 34 #[.pointer (some ⟨a0, 0, none⟩), .pointer (some ⟨a1, 0, none⟩), .int .u64 (((T.l false).si : Nat) : Int), .int .u64 (((T.l true).si : Nat) : Int), .int .u64 ((T.now false : Nat) : Int), .int .u64 ((T.now true : Nat) : Int), v0, .slice (some ⟨bw, ow, none⟩) nl cV, .map (some bs), .map (some bt), .int .i64 ((T.n : Nat) : Int), .bool false] :: Ce a0 72 ((T.l false).cells b0) :: BoxT b0 (T.l false).box :: Ce a1 72 ((T.l true).cells b1) :: BoxT b1 (T.l true).box :: RwO 51 10 v0 W0.length (fR_ W0) :: RwO 51 10 (.slice (some ⟨bw, ow, none⟩) nl cV) nl (fR_ W1) :: Bods BB :: MapT bs T.sent :: MapT bt T.told :: By (.slice AZ body.length cZ) body :: Ce (w3.heap.size) 51 #[.int .i64 kind, .int .i64 ffr, .int .i64 fto, .int .u64 (finc : Int), .int .u64 (fconn : Int), .int .u64 (pinc : Int), .int .u64 (pconn : Int), .int .u64 (fack : Int), .int .u64 (fseq : Int), .slice AZ body.length cZ] :: Ce w.heap.size 37 #[.int .i64 d, .int .i64 at_, .int .i64 nn] :: Qs) else if dn 11 = true then Sep w0 W (Rw 51 10 (xv 11) jj ((fR_ W1).take (jj * 10)) :: Ce g 34 #[.pointer (some ⟨a0, 0, none⟩), .pointer (some ⟨a1, 0, none⟩), .int .u64 (((T.l false).si : Nat) : Int), .int .u64 (((T.l true).si : Nat) : Int), .int .u64 ((T.now false : Nat) : Int), .int .u64 ((T.now true : Nat) : Int), v0, .slice (some ⟨bw, ow, none⟩) nl cV, .map (some bs), .map (some bt), .int .i64 ((T.n : Nat) : Int), .bool false] :: Ce a0 72 ((T.l false).cells b0) :: BoxT b0 (T.l false).box :: Ce a1 72 ((T.l true).cells b1) :: BoxT b1 (T.l true).box :: RwO 51 10 v0 W0.length (fR_ W0) :: RwO 51 10 (.slice (some ⟨bw, ow, none⟩) nl cV) nl (fR_ W1) :: Bods BB :: MapT bs T.sent :: MapT bt T.told :: By (.slice AZ body.length cZ) body :: Ce (w3.heap.size) 51 #[.int .i64 kind, .int .i64 ffr, .int .i64 fto, .int .u64 (finc : Int), .int .u64 (fconn : Int), .int .u64 (pinc : Int), .int .u64 (pconn : Int), .int .u64 (fack : Int), .int .u64 (fseq : Int), .slice AZ body.length cZ] :: Ce w.heap.size 37 #[.int .i64 d, .int .i64 at_, .int .i64 nn] :: Qs) else if dn 2 = true then Sep w0 W (Rw 51 10 (xv 2) 0 [] :: Ce g 34 #[.pointer (some ⟨a0, 0, none⟩), .pointer (some ⟨a1, 0, none⟩), .int .u64 (((T.l false).si : Nat) : Int), .int .u64 (((T.l true).si : Nat) : Int), .int .u64 ((T.now false : Nat) : Int), .int .u64 ((T.now true : Nat) : Int), v0, .slice (some ⟨bw, ow, none⟩) nl cV, .map (some bs), .map (some bt), .int .i64 ((T.n : Nat) : Int), .bool false] :: Ce a0 72 ((T.l false).cells b0) :: BoxT b0 (T.l false).box :: Ce a1 72 ((T.l true).cells b1) :: BoxT b1 (T.l true).box :: RwO 51 10 v0 W0.length (fR_ W0) :: RwO 51 10 (.slice (some ⟨bw, ow, none⟩) nl cV) nl (fR_ W1) :: Bods BB :: MapT bs T.sent :: MapT bt T.told :: By (.slice AZ body.length cZ) body :: Ce (w3.heap.size) 51 #[.int .i64 kind, .int .i64 ffr, .int .i64 fto, .int .u64 (finc : Int), .int .u64 (fconn : Int), .int .u64 (pinc : Int), .int .u64 (pconn : Int), .int .u64 (fack : Int), .int .u64 (fseq : Int), .slice AZ body.length cZ] :: Ce w.heap.size 37 #[.int .i64 d, .int .i64 at_, .int .i64 nn] :: Qs) else Sep w0 W (Ce g 34 #[.pointer (some ⟨a0, 0, none⟩), .pointer (some ⟨a1, 0, none⟩), .int .u64 (((T.l false).si : Nat) : Int), .int .u64 (((T.l true).si : Nat) : Int), .int .u64 ((T.now false : Nat) : Int), .int .u64 ((T.now true : Nat) : Int), v0, .slice (some ⟨bw, ow, none⟩) nl cV, .map (some bs), .map (some bt), .int .i64 ((T.n : Nat) : Int), .bool false] :: Ce a0 72 ((T.l false).cells b0) :: BoxT b0 (T.l false).box :: Ce a1 72 ((T.l true).cells b1) :: BoxT b1 (T.l true).box :: RwO 51 10 v0 W0.length (fR_ W0) :: RwO 51 10 (.slice (some ⟨bw, ow, none⟩) nl cV) nl (fR_ W1) :: Bods BB :: MapT bs T.sent :: MapT bt T.told :: By (.slice AZ body.length cZ) body :: Ce (w3.heap.size) 51 #[.int .i64 kind, .int .i64 ffr, .int .i64 fto, .int .u64 (finc : Int), .int .u64 (fconn : Int), .int .u64 (pinc : Int), .int .u64 (pconn : Int), .int .u64 (fack : Int), .int .u64 (fseq : Int), .slice AZ body.length cZ] :: Ce w.heap.size 37 #[.int .i64 d, .int .i64 at_, .int .i64 nn] :: Qs)) → dn 25 = false → W.cell? ⟨g, 7, none⟩ = some (.slice (some ⟨bw, ow, none⟩) nl cV) := fun dn xv W h h0 => by
          rw [if_neg (by simp [h0])] at h; split at h
          ·exact cA (i := 1) h rfl 7 rfl
          split at h
          ·exact cA (i := 1) h rfl 7 rfl
          split at h
          ·exact cA (i := 1) h rfl 7 rfl
          ·exact cA (i := 0) h rfl 7 rfl
         clear hone hfl h3 hjn2 hjn hcV hnb HA5 kd h0 h1 h234 hO hbN hoN
         go_wp2_with fail
         refine wRF (fun dn xv W => if dn 25 = true then ∃ v, Sep w0 W (Rw 51 10 v nn2 (((fR_ W1).take (jj * 10)) ++ ((fR_ W1).drop ((jj + 1) * 10))) :: Ce g 34 #[.pointer (some ⟨a0, 0, none⟩), .pointer (some ⟨a1, 0, none⟩), .int .u64 (((T.l false).si : Nat) : Int), .int .u64 (((T.l true).si : Nat) : Int), .int .u64 ((T.now false : Nat) : Int), .int .u64 ((T.now true : Nat) : Int), v0, v, .map (some bs), .map (some bt), .int .i64 ((T.n : Nat) : Int), .bool false] :: Ce a0 72 ((T.l false).cells b0) :: BoxT b0 (T.l false).box :: Ce a1 72 ((T.l true).cells b1) :: BoxT b1 (T.l true).box :: RwO 51 10 v0 W0.length (fR_ W0) :: RwO 51 10 (.slice (some ⟨bw, ow, none⟩) nl cV) nl (fR_ W1) :: Bods BB :: MapT bs T.sent :: MapT bt T.told :: By (.slice AZ body.length cZ) body :: Ce (w3.heap.size) 51 #[.int .i64 kind, .int .i64 ffr, .int .i64 fto, .int .u64 (finc : Int), .int .u64 (fconn : Int), .int .u64 (pinc : Int), .int .u64 (pconn : Int), .int .u64 (fack : Int), .int .u64 (fseq : Int), .slice AZ body.length cZ] :: Ce w.heap.size 37 #[.int .i64 d, .int .i64 at_, .int .i64 nn] :: Qs) else if dn 21 = true then Sep w0 W (Rw 51 10 (xv 21) nn2 (((fR_ W1).take (jj * 10)) ++ ((fR_ W1).drop ((jj + 1) * 10))) :: Ce g 34 #[.pointer (some ⟨a0, 0, none⟩), .pointer (some ⟨a1, 0, none⟩), .int .u64 (((T.l false).si : Nat) : Int), .int .u64 (((T.l true).si : Nat) : Int), .int .u64 ((T.now false : Nat) : Int), .int .u64 ((T.now true : Nat) : Int), v0, .slice (some ⟨bw, ow, none⟩) nl cV, .map (some bs), .map (some bt), .int .i64 ((T.n : Nat) : Int), .bool false] :: Ce a0 72 ((T.l false).cells b0) :: BoxT b0 (T.l false).box :: Ce a1 72 ((T.l true).cells b1) :: BoxT b1 (T.l true).box :: RwO 51 10 v0 W0.length (fR_ W0) :: RwO 51 10 (.slice (some ⟨bw, ow, none⟩) nl cV) nl (fR_ W1) :: Bods BB :: MapT bs T.sent :: MapT bt T.told :: By (.slice AZ body.length cZ) body :: Ce (w3.heap.size) 51 #[.int .i64 kind, .int .i64 ffr, .int .i64 fto, .int .u64 (finc : Int), .int .u64 (fconn : Int), .int .u64 (pinc : Int), .int .u64 (pconn : Int), .int .u64 (fack : Int), .int .u64 (fseq : Int), .slice AZ body.length cZ] :: Ce w.heap.size 37 #[.int .i64 d, .int .i64 at_, .int .i64 nn] :: Qs) else if dn 11 = true then Sep w0 W (Rw 51 10 (xv 11) jj ((fR_ W1).take (jj * 10)) :: Ce g 34 #[.pointer (some ⟨a0, 0, none⟩), .pointer (some ⟨a1, 0, none⟩), .int .u64 (((T.l false).si : Nat) : Int), .int .u64 (((T.l true).si : Nat) : Int), .int .u64 ((T.now false : Nat) : Int), .int .u64 ((T.now true : Nat) : Int), v0, .slice (some ⟨bw, ow, none⟩) nl cV, .map (some bs), .map (some bt), .int .i64 ((T.n : Nat) : Int), .bool false] :: Ce a0 72 ((T.l false).cells b0) :: BoxT b0 (T.l false).box :: Ce a1 72 ((T.l true).cells b1) :: BoxT b1 (T.l true).box :: RwO 51 10 v0 W0.length (fR_ W0) :: RwO 51 10 (.slice (some ⟨bw, ow, none⟩) nl cV) nl (fR_ W1) :: Bods BB :: MapT bs T.sent :: MapT bt T.told :: By (.slice AZ body.length cZ) body :: Ce (w3.heap.size) 51 #[.int .i64 kind, .int .i64 ffr, .int .i64 fto, .int .u64 (finc : Int), .int .u64 (fconn : Int), .int .u64 (pinc : Int), .int .u64 (pconn : Int), .int .u64 (fack : Int), .int .u64 (fseq : Int), .slice AZ body.length cZ] :: Ce w.heap.size 37 #[.int .i64 d, .int .i64 at_, .int .i64 nn] :: Qs) else if dn 2 = true then Sep w0 W (Rw 51 10 (xv 2) 0 [] :: Ce g 34 #[.pointer (some ⟨a0, 0, none⟩), .pointer (some ⟨a1, 0, none⟩), .int .u64 (((T.l false).si : Nat) : Int), .int .u64 (((T.l true).si : Nat) : Int), .int .u64 ((T.now false : Nat) : Int), .int .u64 ((T.now true : Nat) : Int), v0, .slice (some ⟨bw, ow, none⟩) nl cV, .map (some bs), .map (some bt), .int .i64 ((T.n : Nat) : Int), .bool false] :: Ce a0 72 ((T.l false).cells b0) :: BoxT b0 (T.l false).box :: Ce a1 72 ((T.l true).cells b1) :: BoxT b1 (T.l true).box :: RwO 51 10 v0 W0.length (fR_ W0) :: RwO 51 10 (.slice (some ⟨bw, ow, none⟩) nl cV) nl (fR_ W1) :: Bods BB :: MapT bs T.sent :: MapT bt T.told :: By (.slice AZ body.length cZ) body :: Ce (w3.heap.size) 51 #[.int .i64 kind, .int .i64 ffr, .int .i64 fto, .int .u64 (finc : Int), .int .u64 (fconn : Int), .int .u64 (pinc : Int), .int .u64 (pconn : Int), .int .u64 (fack : Int), .int .u64 (fseq : Int), .slice AZ body.length cZ] :: Ce w.heap.size 37 #[.int .i64 d, .int .i64 at_, .int .i64 nn] :: Qs) else Sep w0 W (Ce g 34 #[.pointer (some ⟨a0, 0, none⟩), .pointer (some ⟨a1, 0, none⟩), .int .u64 (((T.l false).si : Nat) : Int), .int .u64 (((T.l true).si : Nat) : Int), .int .u64 ((T.now false : Nat) : Int), .int .u64 ((T.now true : Nat) : Int), v0, .slice (some ⟨bw, ow, none⟩) nl cV, .map (some bs), .map (some bt), .int .i64 ((T.n : Nat) : Int), .bool false] :: Ce a0 72 ((T.l false).cells b0) :: BoxT b0 (T.l false).box :: Ce a1 72 ((T.l true).cells b1) :: BoxT b1 (T.l true).box :: RwO 51 10 v0 W0.length (fR_ W0) :: RwO 51 10 (.slice (some ⟨bw, ow, none⟩) nl cV) nl (fR_ W1) :: Bods BB :: MapT bs T.sent :: MapT bt T.told :: By (.slice AZ body.length cZ) body :: Ce (w3.heap.size) 51 #[.int .i64 kind, .int .i64 ffr, .int .i64 fto, .int .u64 (finc : Int), .int .u64 (fconn : Int), .int .u64 (pinc : Int), .int .u64 (pconn : Int), .int .u64 (fack : Int), .int .u64 (fseq : Int), .slice AZ body.length cZ] :: Ce w.heap.size 37 #[.int .i64 d, .int .i64 at_, .int .i64 nn] :: Qs)) (fun _ _ => True) [fun v _ => v = .pointer (some ⟨g, 0, none⟩), fun v _ => v = .int .i64 1, fun v _ => True, fun v _ => v = .pointer (some ⟨g, 0, none⟩), fun v _ => v = .int .i64 1, fun v _ => v = .pointer (some ⟨g, 0, none⟩), fun v _ => v = .pointer (some ⟨g, 6, none⟩), fun v _ => v = .pointer (some ⟨g, 7, none⟩), fun v _ => v = .slice (some ⟨bw, ow, none⟩) nl cV, fun v _ => v = .int .i64 (jj : Int), fun v _ => v = .slice (some ⟨bw, ow, none⟩) jj cV, fun v _ => True, fun v _ => v = .pointer (some ⟨g, 0, none⟩), fun v _ => v = .int .i64 1, fun v _ => v = .pointer (some ⟨g, 0, none⟩), fun v _ => v = .pointer (some ⟨g, 6, none⟩), fun v _ => v = .pointer (some ⟨g, 7, none⟩), fun v _ => v = .slice (some ⟨bw, ow, none⟩) nl cV, fun v _ => v = .int .i64 (jj : Int), fun v _ => v = .int .i64 (jk : Int), fun v _ => v = .slice SB n2 c2, fun v _ => True, fun v _ => v = .pointer (some ⟨g, 0, none⟩), fun v _ => v = .pointer (some ⟨g, 6, none⟩), fun v _ => v = .pointer (some ⟨g, 7, none⟩), fun v _ => True] (by kernel_rfl) (by kernel_rfl) (by kernel_rfl) (by kernel_rfl) (fun xv => by simpa using HS5.out.drew)
          (by repeat (first | exact trivial | refine ⟨fun _ _ _ _ h => h, ?_⟩)) ?_ ?_
         ·refine EC 1 rfl (fun h i W F a b c d e H K f => ?_) ?_
          ·have f0 : F.tmps.getD 0 undef = .pointer (some ⟨g, 0, none⟩) := (a 0).trans (by kernel_rfl); clear H c b d a; refine oP rfl ?_; go_simp; exact f.out _ _ rfl trivial e
          refine EC 2 rfl (fun g h W F a b c d e H K f => ?_) ?_
          ·have f4 : F.tmps.getD 4 undef = .int .i64 1 := (a 4).trans (by kernel_rfl); clear H c b d a; refine oP rfl ?_; go_simp; exact f.out _ _ rfl trivial e
          refine EC 3 rfl (fun i k W F a b c e f H K h => ?_) ?_
          ·have q11 : i 11 = false := c 11 (.edge (by kernel_rfl)); have q21 : i 21 = false := c 21 (.more (j := 11) (by kernel_rfl) (.edge (by kernel_rfl))); have q25 : i 25 = false := c 25 (.more (j := 21) (by kernel_rfl) (.more (j := 11) (by kernel_rfl) (.edge (by kernel_rfl)))); rw [if_neg (by simp [q25]), if_neg (by simp [q21]), if_neg (by simp [q11]), if_neg (by simp [b])] at f; have hS := f; clear f c b e a H; refine oP rfl ?_; go_simp; have hs : Sep w0 (W.alloc (.cells #[] 51)) (Rw 51 10 (.slice (some ⟨W.heap.size, 0, none⟩) 0 0) 0 [] :: Ce g 34 #[.pointer (some ⟨a0, 0, none⟩), .pointer (some ⟨a1, 0, none⟩), .int .u64 (((T.l false).si : Nat) : Int), .int .u64 (((T.l true).si : Nat) : Int), .int .u64 ((T.now false : Nat) : Int), .int .u64 ((T.now true : Nat) : Int), v0, .slice (some ⟨bw, ow, none⟩) nl cV, .map (some bs), .map (some bt), .int .i64 ((T.n : Nat) : Int), .bool false] :: Ce a0 72 ((T.l false).cells b0) :: BoxT b0 (T.l false).box :: Ce a1 72 ((T.l true).cells b1) :: BoxT b1 (T.l true).box :: RwO 51 10 v0 W0.length (fR_ W0) :: RwO 51 10 (.slice (some ⟨bw, ow, none⟩) nl cV) nl (fR_ W1) :: Bods BB :: MapT bs T.sent :: MapT bt T.told :: By (.slice AZ body.length cZ) body :: Ce (w3.heap.size) 51 #[.int .i64 kind, .int .i64 ffr, .int .i64 fto, .int .u64 (finc : Int), .int .u64 (fconn : Int), .int .u64 (pinc : Int), .int .u64 (pconn : Int), .int .u64 (fack : Int), .int .u64 (fseq : Int), .slice AZ body.length cZ] :: Ce w.heap.size 37 #[.int .i64 d, .int .i64 at_, .int .i64 nn] :: Qs) := sep_rwEmpty hS; exact h.out _ _ trivial trivial (by simpa [upB, upd, q11, q21, q25] using hs)
          refine EC 4 rfl (fun h i W F a b c d e H K f => ?_) ?_
          ·have f0 : F.tmps.getD 0 undef = .pointer (some ⟨g, 0, none⟩) := (a 0).trans (by kernel_rfl); clear H c b d a; refine oP rfl ?_; go_simp; exact f.out _ _ rfl trivial e
          refine EC 5 rfl (fun g h W F a b c d e H K f => ?_) ?_
          ·have f4 : F.tmps.getD 4 undef = .int .i64 1 := (a 4).trans (by kernel_rfl); clear H c b d a; refine oP rfl ?_; go_simp; exact f.out _ _ rfl trivial e
          refine EC 6 rfl (fun g h W F a b c d e H K f => ?_) ?_
          ·have f91 := gE (a 91) (by kernel_rfl) (H 3) (by kernel_rfl); clear H c b d a; refine oP rfl ?_; go_simp; exact f.out _ _ rfl trivial e
          refine EC 7 rfl (fun g h W F a b c d e H K f => ?_) ?_
          ·have f93 := gE (a 93) (by kernel_rfl) (H 5) (by kernel_rfl); clear H c b d a; refine oP rfl ?_; go_simp; exact f.out _ _ rfl trivial e
          refine EC 8 rfl (fun g h W F a b c d e H K f => ?_) ?_
          ·have f92 := gE (a 92) (by kernel_rfl) (H 4) (by kernel_rfl); have f94 := gE (a 94) (by kernel_rfl) (H 6) (by kernel_rfl); clear H c b d a; refine oP rfl ?_; go_simp; exact f.out _ _ rfl trivial e
          refine EC 9 rfl (fun g h W F a b c d e H K f => ?_) ?_
          ·have f95 := gE (a 95) (by kernel_rfl) (H 7) (by kernel_rfl); have kk := HKW g h W e (c 25 (.more (j := 21) (by kernel_rfl) (.more (j := 11) (by kernel_rfl) (.more (j := 10) (by kernel_rfl) (.edge (by kernel_rfl)))))); clear H c b d a; refine oP rfl ?_; go_simp; exact f.out _ _ rfl trivial e
          refine EC 10 rfl (fun g h W F a b c d e H K f => ?_) ?_
          ·have f6 : F.tmps.getD 6 undef = .int .i64 (jj : Int) := (a 6).trans (by kernel_rfl); clear H c b d a; refine oP rfl ?_; go_simp; exact f.out _ _ rfl trivial e
          refine EC 11 rfl (fun g h W F a b c d e H K f => ?_) ?_
          ·have f96 := gE (a 96) (by kernel_rfl) (H 8) (by kernel_rfl); have f97 := gE (a 97) (by kernel_rfl) (H 9) (by kernel_rfl); have rs := HR1.out W; clear H c b d a; refine oP rfl ?_; go_simp; exact f.out _ _ rfl trivial e
          refine EC 12 rfl (fun k o W F a b c e f H K h => ?_) ?_
          ·have f90 : F.tmps.getD 90 undef = o 2 := (a 90).trans (by kernel_rfl); have f98 := gE (a 98) (by kernel_rfl) (H 10) (by kernel_rfl); have q2 : k 2 = true := (H 2 (.edge (by kernel_rfl))).1; have q21 : k 21 = false := c 21 (.edge (by kernel_rfl)); have q25 : k 25 = false := c 25 (.more (j := 21) (by kernel_rfl) (.edge (by kernel_rfl))); rw [if_neg (by simp [q25]), if_neg (by simp [q21]), if_neg (by simp [b]), if_pos q2] at f; have hS := f; clear f c b e a H; refine oP rfl ?_; refine sep_opAppW rowFrames (i := 0) (s := .tmp 90) (x := .tmp 98) (m := jj) (news := ((fR_ W1).take (jj * 10))) (by rfl) f90 f98 hS rfl HL1.out ((sep_rwoHas (i := 7) hS rfl).take _) HX1.out (by unfold maxLen; omega) (by omega) ?_; intro v W' hs0; have hs : Sep w0 W' (Rw 51 10 v jj ((fR_ W1).take (jj * 10)) :: Ce g 34 #[.pointer (some ⟨a0, 0, none⟩), .pointer (some ⟨a1, 0, none⟩), .int .u64 (((T.l false).si : Nat) : Int), .int .u64 (((T.l true).si : Nat) : Int), .int .u64 ((T.now false : Nat) : Int), .int .u64 ((T.now true : Nat) : Int), v0, .slice (some ⟨bw, ow, none⟩) nl cV, .map (some bs), .map (some bt), .int .i64 ((T.n : Nat) : Int), .bool false] :: Ce a0 72 ((T.l false).cells b0) :: BoxT b0 (T.l false).box :: Ce a1 72 ((T.l true).cells b1) :: BoxT b1 (T.l true).box :: RwO 51 10 v0 W0.length (fR_ W0) :: RwO 51 10 (.slice (some ⟨bw, ow, none⟩) nl cV) nl (fR_ W1) :: Bods BB :: MapT bs T.sent :: MapT bt T.told :: By (.slice AZ body.length cZ) body :: Ce (w3.heap.size) 51 #[.int .i64 kind, .int .i64 ffr, .int .i64 fto, .int .u64 (finc : Int), .int .u64 (fconn : Int), .int .u64 (pinc : Int), .int .u64 (pconn : Int), .int .u64 (fack : Int), .int .u64 (fseq : Int), .slice AZ body.length cZ] :: Ce w.heap.size 37 #[.int .i64 d, .int .i64 at_, .int .i64 nn] :: Qs) := by simpa using hs0
           exact h.out v W' trivial trivial (by simpa [upB, upd, q21, q25] using hs)
          refine EC 13 rfl (fun h i W F a b c d e H K f => ?_) ?_
          ·have f0 : F.tmps.getD 0 undef = .pointer (some ⟨g, 0, none⟩) := (a 0).trans (by kernel_rfl); clear H c b d a; refine oP rfl ?_; go_simp; exact f.out _ _ rfl trivial e
          refine EC 14 rfl (fun g h W F a b c d e H K f => ?_) ?_
          ·have f4 : F.tmps.getD 4 undef = .int .i64 1 := (a 4).trans (by kernel_rfl); clear H c b d a; refine oP rfl ?_; go_simp; exact f.out _ _ rfl trivial e
          refine EC 15 rfl (fun g h W F a b c d e H K f => ?_) ?_
          ·have f100 := gE (a 100) (by kernel_rfl) (H 12) (by kernel_rfl); clear H c b d a; refine oP rfl ?_; go_simp; exact f.out _ _ rfl trivial e
          refine EC 16 rfl (fun g h W F a b c d e H K f => ?_) ?_
          ·have f102 := gE (a 102) (by kernel_rfl) (H 14) (by kernel_rfl); clear H c b d a; refine oP rfl ?_; go_simp; exact f.out _ _ rfl trivial e
          refine EC 17 rfl (fun g h W F a b c d e H K f => ?_) ?_
          ·have f101 := gE (a 101) (by kernel_rfl) (H 13) (by kernel_rfl); have f103 := gE (a 103) (by kernel_rfl) (H 15) (by kernel_rfl); clear H c b d a; refine oP rfl ?_; go_simp; exact f.out _ _ rfl trivial e
          refine EC 18 rfl (fun g h W F a b c d e H K f => ?_) ?_
          ·have f104 := gE (a 104) (by kernel_rfl) (H 16) (by kernel_rfl); have kk := HKW g h W e (c 25 (.more (j := 21) (by kernel_rfl) (.more (j := 20) (by kernel_rfl) (.edge (by kernel_rfl))))); clear H c b d a; refine oP rfl ?_; go_simp; exact f.out _ _ rfl trivial e
          refine EC 19 rfl (fun g h W F a b c d e H K f => ?_) ?_
          ·have f6 : F.tmps.getD 6 undef = .int .i64 (jj : Int) := (a 6).trans (by kernel_rfl); clear H c b d a; refine oP rfl ?_; go_simp; exact f.out _ _ rfl trivial e
          refine EC 20 rfl (fun g h W F a b c d e H K f => ?_) ?_
          ·have f106 := gE (a 106) (by kernel_rfl) (H 18) (by kernel_rfl); clear H c b d a; refine oP rfl ?_; go_simp; exact f.out _ _ rfl trivial e
          refine EC 21 rfl (fun g h W F a b c d e H K f => ?_) ?_
          ·have f105 := gE (a 105) (by kernel_rfl) (H 17) (by kernel_rfl); have f107 := gE (a 107) (by kernel_rfl) (H 19) (by kernel_rfl); have rs := HR2.out W; clear H c b d a; refine oP rfl ?_; go_simp; exact f.out _ _ rfl trivial e
          refine EC 22 rfl (fun j k W F a b c e f H K h => ?_) ?_
          ·have f99 : F.tmps.getD 99 undef = k 11 := (a 99).trans (by kernel_rfl); have f108 := gE (a 108) (by kernel_rfl) (H 20) (by kernel_rfl); have q11 : j 11 = true := (H 11 (.edge (by kernel_rfl))).1; have q25 : j 25 = false := c 25 (.edge (by kernel_rfl)); rw [if_neg (by simp [q25]), if_neg (by simp [b]), if_pos q11] at f; have hS := f; clear f c b e a H; refine oP rfl ?_; refine sep_opAppW rowFrames (i := 0) (s := .tmp 99) (x := .tmp 108) (m := n2) (news := ((fR_ W1).drop ((jj + 1) * 10))) (by rfl) f99 f108 hS rfl HL2.out (HH2.out W (sep_rwoOwn (i := 7) hS rfl)) HX2.out (by unfold maxLen; omega) (by omega) ?_; intro v W' hs0; rw [HN2.out] at hs0; have hs : Sep w0 W' (Rw 51 10 v nn2 (((fR_ W1).take (jj * 10)) ++ ((fR_ W1).drop ((jj + 1) * 10))) :: Ce g 34 #[.pointer (some ⟨a0, 0, none⟩), .pointer (some ⟨a1, 0, none⟩), .int .u64 (((T.l false).si : Nat) : Int), .int .u64 (((T.l true).si : Nat) : Int), .int .u64 ((T.now false : Nat) : Int), .int .u64 ((T.now true : Nat) : Int), v0, .slice (some ⟨bw, ow, none⟩) nl cV, .map (some bs), .map (some bt), .int .i64 ((T.n : Nat) : Int), .bool false] :: Ce a0 72 ((T.l false).cells b0) :: BoxT b0 (T.l false).box :: Ce a1 72 ((T.l true).cells b1) :: BoxT b1 (T.l true).box :: RwO 51 10 v0 W0.length (fR_ W0) :: RwO 51 10 (.slice (some ⟨bw, ow, none⟩) nl cV) nl (fR_ W1) :: Bods BB :: MapT bs T.sent :: MapT bt T.told :: By (.slice AZ body.length cZ) body :: Ce (w3.heap.size) 51 #[.int .i64 kind, .int .i64 ffr, .int .i64 fto, .int .u64 (finc : Int), .int .u64 (fconn : Int), .int .u64 (pinc : Int), .int .u64 (pconn : Int), .int .u64 (fack : Int), .int .u64 (fseq : Int), .slice AZ body.length cZ] :: Ce w.heap.size 37 #[.int .i64 d, .int .i64 at_, .int .i64 nn] :: Qs) := hs0; exact h.out v W' trivial trivial (by simpa [upB, upd, q25] using hs)
          refine EC 23 rfl (fun g h W F a b c d e H K f => ?_) ?_
          ·have f88 := gE (a 88) (by kernel_rfl) (H 0) (by kernel_rfl); clear H c b d a; refine oP rfl ?_; go_simp; exact f.out _ _ rfl trivial e
          refine EC 24 rfl (fun g h W F a b c d e H K f => ?_) ?_
          ·have f110 := gE (a 110) (by kernel_rfl) (H 22) (by kernel_rfl); clear H c b d a; refine oP rfl ?_; go_simp; exact f.out _ _ rfl trivial e
          refine EC 25 rfl (fun g h W F a b c d e H K f => ?_) ?_
          ·have f89 := gE (a 89) (by kernel_rfl) (H 1) (by kernel_rfl); have f111 := gE (a 111) (by kernel_rfl) (H 23) (by kernel_rfl); clear H c b d a; refine oP rfl ?_; go_simp; exact f.out _ _ rfl trivial e
          refine EC 26 rfl (fun j k W F a b c e f H K h => ?_) ?_
          ·have f109 : F.tmps.getD 109 undef = k 21 := (a 109).trans (by kernel_rfl); have f112 := gE (a 112) (by kernel_rfl) (H 24) (by kernel_rfl); have q21 : j 21 = true := (H 21 (.edge (by kernel_rfl))).1; rw [if_neg (by simp [b]), if_pos q21] at f; have hS := f; clear f c b e a H; refine oP rfl ?_; obtain ⟨A2, c3, e2, _⟩ := sep_rwForm (i := 0) hS rfl; have hc3 := cA (i := 1) hS rfl 7 rfl; have hf3 := cFz (i := 1) hS rfl 7; rw [e2] at hS; have hs0 := cS (i := 1) hS rfl 7 (.slice A2 nn2 c3); have hs : ∃ v, Sep w0 (W.setCell ⟨g, 7, none⟩ (.slice A2 nn2 c3)) (Rw 51 10 v nn2 (((fR_ W1).take (jj * 10)) ++ ((fR_ W1).drop ((jj + 1) * 10))) :: Ce g 34 #[.pointer (some ⟨a0, 0, none⟩), .pointer (some ⟨a1, 0, none⟩), .int .u64 (((T.l false).si : Nat) : Int), .int .u64 (((T.l true).si : Nat) : Int), .int .u64 ((T.now false : Nat) : Int), .int .u64 ((T.now true : Nat) : Int), v0, v, .map (some bs), .map (some bt), .int .i64 ((T.n : Nat) : Int), .bool false] :: Ce a0 72 ((T.l false).cells b0) :: BoxT b0 (T.l false).box :: Ce a1 72 ((T.l true).cells b1) :: BoxT b1 (T.l true).box :: RwO 51 10 v0 W0.length (fR_ W0) :: RwO 51 10 (.slice (some ⟨bw, ow, none⟩) nl cV) nl (fR_ W1) :: Bods BB :: MapT bs T.sent :: MapT bt T.told :: By (.slice AZ body.length cZ) body :: Ce (w3.heap.size) 51 #[.int .i64 kind, .int .i64 ffr, .int .i64 fto, .int .u64 (finc : Int), .int .u64 (fconn : Int), .int .u64 (pinc : Int), .int .u64 (pconn : Int), .int .u64 (fack : Int), .int .u64 (fseq : Int), .slice AZ body.length cZ] :: Ce w.heap.size 37 #[.int .i64 d, .int .i64 at_, .int .i64 nn] :: Qs) := ⟨_, hs0⟩; clear hs0; go_simp; exact h.out undef _ trivial trivial (by simpa [upB, upd] using hs)
          exact EN
         ·intro dn xv W hI H; have qe : dn 25 = true := (H 25 (of_decide_eq_true (by kernel_rfl))).1; rw [if_pos qe] at hI; have hS := hI; clear H hI qe; simp only [putAll, Act.put, List.setIfInBounds_toArray, List.set_cons_zero, List.set_cons_succ, Nat.reduceAdd]; obtain ⟨v, hS⟩ := hS; have hS2 := sep_rwoOf (i := 0) hS rfl; have HS6 := Lib.hid (show Sep w0 W (Ce g 34 #[.pointer (some ⟨a0, 0, none⟩), .pointer (some ⟨a1, 0, none⟩), .int .u64 (((T.l false).si : Nat) : Int), .int .u64 (((T.l true).si : Nat) : Int), .int .u64 ((T.now false : Nat) : Int), .int .u64 ((T.now true : Nat) : Int), v0, v, .map (some bs), .map (some bt), .int .i64 ((T.n : Nat) : Int), .bool false] :: Ce a0 72 ((T.l false).cells b0) :: BoxT b0 (T.l false).box :: Ce a1 72 ((T.l true).cells b1) :: BoxT b1 (T.l true).box :: RwO 51 10 v0 W0.length (fR_ W0) :: RwO 51 10 v nn2 (((fR_ W1).take (jj * 10)) ++ ((fR_ W1).drop ((jj + 1) * 10))) :: Bods BB :: MapT bs T.sent :: MapT bt T.told :: By (.slice AZ body.length cZ) body :: Ce (w3.heap.size) 51 #[.int .i64 kind, .int .i64 ffr, .int .i64 fto, .int .u64 (finc : Int), .int .u64 (fconn : Int), .int .u64 (pinc : Int), .int .u64 (pconn : Int), .int .u64 (fack : Int), .int .u64 (fseq : Int), .slice AZ body.length cZ] :: Ce w.heap.size 37 #[.int .i64 d, .int .i64 at_, .int .i64 nn] :: Qs) from ((((((((hS2.drop 7)).tF 0 rfl).tF 6 rfl).tF 6 rfl).tF 6 rfl).tF 6 rfl).tF 6 rfl).tF 6 rfl); clear hS hS2 HKW ejk
          go_wp2_with fail
          go_meet
          case rel =>
           rw [← HT0.out, if_neg H3.out]; refine ⟨b0, b1, v0, v, W0, W1.eraseIdx jj, BB, bs, bt, ?_, ?_, ?_, ?_, ?_⟩
           ·exact HQW.out.1
           ·rw [map_erase, HQW.out.2.1]; rfl
           ·exact HQW.out.2.2.1
           ·exact fun y hy => HQW.out.2.2.2 y (frBods_erase hy)
           ·have h9 := HS6.out; have hl9 : nn2 = (W1.eraseIdx jj).length := by
             have e1 := Hnl.out; have e2 := Hn2.out; have e3 := HN2.out; have e4 := (List.getElem?_eq_some_iff.1 HHP.out).1; rw [List.length_eraseIdx, if_pos e4]; omega
            rw [hl9, ← frRow_erase] at h9; exact h9
       case rest =>
        have HA6 := Lib.hid hcut; have kd := HA6.out.q2 0 (v := .int .i64 d) rfl
        by_cases h4 : d = 4
        ·subst h4; have HR4 : Hid (T.act 4 true k = T0.trim) := Lib.hid (by
          have h := act_mid (T := T) (d := 4) (.inr (.inr rfl)) HJW.out HFW.out; dsimp only at h; rw [HT0.out, if_pos rfl] at h; exact h)
         go_wp2_with fail
         go_meet
         case rel => exact ⟨a0, a1, T0, HA6.out.pop.pop.pop, Lib.hid ⟨HR4.out, HO0.out.mono (by omega)⟩⟩
        ·have e4 : (d != 4) = true := by simpa using h4
         have H4 := Lib.hid h4; have HF : Hid (∀ W, TwA a0 a1 w0 W g T0 (By (.slice AZ body.length cZ) body :: Ce (w3.heap.size) 51 #[.int .i64 kind, .int .i64 ffr, .int .i64 fto, .int .u64 (finc : Int), .int .u64 (fconn : Int), .int .u64 (pinc : Int), .int .u64 (pconn : Int), .int .u64 (fack : Int), .int .u64 (fseq : Int), .slice AZ body.length cZ] :: Ce w.heap.size 37 #[.int .i64 d, .int .i64 at_, .int .i64 nn] :: Qs) → W.cell? ⟨w3.heap.size, 0, none⟩ = some (.int .i64 kind) ∧ W.cell? ⟨w3.heap.size, 1, none⟩ = some (.int .i64 ffr) ∧ W.cell? ⟨w3.heap.size, 2, none⟩ = some (.int .i64 fto) ∧ W.cell? ⟨w3.heap.size, 3, none⟩ = some (.int .u64 (finc : Int)) ∧ W.cell? ⟨w3.heap.size, 4, none⟩ = some (.int .u64 (fconn : Int)) ∧ W.cell? ⟨w3.heap.size, 5, none⟩ = some (.int .u64 (pinc : Int)) ∧ W.cell? ⟨w3.heap.size, 6, none⟩ = some (.int .u64 (pconn : Int)) ∧ W.cell? ⟨w3.heap.size, 7, none⟩ = some (.int .u64 (fack : Int)) ∧ W.cell? ⟨w3.heap.size, 8, none⟩ = some (.int .u64 (fseq : Int)) ∧ W.cell? ⟨w3.heap.size, 9, none⟩ = some (.slice AZ body.length cZ)) := Lib.hid (fun W hq => ⟨hq.q1 0 rfl, hq.q1 1 rfl, hq.q1 2 rfl, hq.q1 3 rfl, hq.q1 4 rfl, hq.q1 5 rfl, hq.q1 6 rfl, hq.q1 7 rfl, hq.q1 8 rfl, hq.q1 9 rfl⟩); have HC1 := Lib.hid (fun (W : World) (hS : TwA a0 a1 w0 W g T0 (By (.slice AZ body.length cZ) body :: Ce (w3.heap.size) 51 #[.int .i64 kind, .int .i64 ffr, .int .i64 fto, .int .u64 (finc : Int), .int .u64 (fconn : Int), .int .u64 (pinc : Int), .int .u64 (pconn : Int), .int .u64 (fack : Int), .int .u64 (fseq : Int), .slice AZ body.length cZ] :: Ce w.heap.size 37 #[.int .i64 d, .int .i64 at_, .int .i64 nn] :: Qs)) => show Calls Try.prog 15 #[.pointer (some ⟨a1, 0, none⟩), .int .u64 ((T0.now true : Nat) : Int), .agg #[.int .i64 kind, .int .i64 ffr, .int .i64 fto, .int .u64 (finc : Int), .int .u64 (fconn : Int), .int .u64 (pinc : Int), .int .u64 (pconn : Int), .int .u64 (fack : Int), .int .u64 (fseq : Int), .slice AZ body.length cZ]] W (fun e w' => ∃ v, e = .returned v ∧ MidA a0 a1 v w0 w' g (T0.withL true ((T0.l true).take (T0.now true) fF)) ((T0.l true).takeF (T0.now true) fF) ((T0.l true).takeE (T0.now true) fF) (By (.slice AZ body.length cZ) body :: Ce (w3.heap.size) 51 #[.int .i64 kind, .int .i64 ffr, .int .i64 fto, .int .u64 (finc : Int), .int .u64 (fconn : Int), .int .u64 (pinc : Int), .int .u64 (pconn : Int), .int .u64 (fack : Int), .int .u64 (fseq : Int), .slice AZ body.length cZ] :: Ce w.heap.size 37 #[.int .i64 d, .int .i64 at_, .int .i64 nn] :: Qs)) from by
          have hb := HFO.out; rw [← HfF.out] at hb ⊢; exact takeA1 (f := ⟨kind, ffr, fto, finc, fconn, pinc, pconn, fack, fseq, body⟩) (A := AZ) (c := cZ) hS (reads_by rfl) HO0.out (by omega) (by have := hb.2.2.2.2; unfold maxLen; simp only at this ⊢; omega) (by have := hb.2.2.1; simp only at this ⊢; omega) (by have := hb.2.2.2.1; simp only at this ⊢; omega))
         have HC2 := Lib.hid (fun (W : World) (v : Value) (hS : MidA a0 a1 v w0 W g (T0.withL true ((T0.l true).take (T0.now true) fF)) ((T0.l true).takeF (T0.now true) fF) ((T0.l true).takeE (T0.now true) fF) (By (.slice AZ body.length cZ) body :: Ce (w3.heap.size) 51 #[.int .i64 kind, .int .i64 ffr, .int .i64 fto, .int .u64 (finc : Int), .int .u64 (fconn : Int), .int .u64 (pinc : Int), .int .u64 (pconn : Int), .int .u64 (fack : Int), .int .u64 (fseq : Int), .slice AZ body.length cZ] :: Ce w.heap.size 37 #[.int .i64 d, .int .i64 at_, .int .i64 nn] :: Qs)) => show Calls Try.prog 31 #[.pointer (some ⟨g, 0, none⟩), .int .i64 1, v] W (fun e w' => e = .returned (.tuple #[]) ∧ TwA a0 a1 w0 w' g (T0.take true fF) (By (.slice AZ body.length cZ) body :: Ce (w3.heap.size) 51 #[.int .i64 kind, .int .i64 ffr, .int .i64 fto, .int .u64 (finc : Int), .int .u64 (fconn : Int), .int .u64 (pinc : Int), .int .u64 (pconn : Int), .int .u64 (fack : Int), .int .u64 (fseq : Int), .slice AZ body.length cZ] :: Ce w.heap.size 37 #[.int .i64 d, .int .i64 at_, .int .i64 nn] :: Qs)) from by
          have hn := HO0.out.now true; have hk := takeF_ok (HO0.out.num true) (HO0.out.ids true) (now := T0.now true) (by omega) (f := fF) ⟨HFO.out.1, HFO.out.2.1⟩; exact ansA1 hS (HO0.out.withL true ((HO0.out.num true).take (now := T0.now true) (by omega) fF) (ids_take (HO0.out.ids true) (T0.now true) ⟨HFO.out.1, HFO.out.2.1⟩)) (by omega) (by omega) (by omega))
         clear h4 hcut
         go_wp2_with fail
         refine wRF (fun dn xv W => if dn 16 = true then TwA a0 a1 w0 W g (T0.take true fF) (By (.slice AZ body.length cZ) body :: Ce (w3.heap.size) 51 #[.int .i64 kind, .int .i64 ffr, .int .i64 fto, .int .u64 (finc : Int), .int .u64 (fconn : Int), .int .u64 (pinc : Int), .int .u64 (pconn : Int), .int .u64 (fack : Int), .int .u64 (fseq : Int), .slice AZ body.length cZ] :: Ce w.heap.size 37 #[.int .i64 d, .int .i64 at_, .int .i64 nn] :: Qs) else if dn 15 = true then MidA a0 a1 (xv 15) w0 W g (T0.withL true ((T0.l true).take (T0.now true) fF)) ((T0.l true).takeF (T0.now true) fF) ((T0.l true).takeE (T0.now true) fF) (By (.slice AZ body.length cZ) body :: Ce (w3.heap.size) 51 #[.int .i64 kind, .int .i64 ffr, .int .i64 fto, .int .u64 (finc : Int), .int .u64 (fconn : Int), .int .u64 (pinc : Int), .int .u64 (pconn : Int), .int .u64 (fack : Int), .int .u64 (fseq : Int), .slice AZ body.length cZ] :: Ce w.heap.size 37 #[.int .i64 d, .int .i64 at_, .int .i64 nn] :: Qs) else TwA a0 a1 w0 W g T0 (By (.slice AZ body.length cZ) body :: Ce (w3.heap.size) 51 #[.int .i64 kind, .int .i64 ffr, .int .i64 fto, .int .u64 (finc : Int), .int .u64 (fconn : Int), .int .u64 (pinc : Int), .int .u64 (pconn : Int), .int .u64 (fack : Int), .int .u64 (fseq : Int), .slice AZ body.length cZ] :: Ce w.heap.size 37 #[.int .i64 d, .int .i64 at_, .int .i64 nn] :: Qs)) (fun _ _ => True) [fun v _ => v = .pointer (some ⟨g, 0, none⟩), fun v _ => v = .int .i64 1, fun v _ => v = .pointer (some ⟨g, 0, none⟩), fun v _ => v = .int .i64 1, fun v _ => v = .pointer (some ⟨g, 0, none⟩), fun v _ => v = .pointer (some ⟨g, 0, none⟩), fun v _ => v = .pointer (some ⟨g, 1, none⟩), fun v _ => v = .pointer (some ⟨a1, 0, none⟩), fun v _ => v = .pointer (some ⟨g, 0, none⟩), fun v _ => v = .int .i64 1, fun v _ => v = .pointer (some ⟨g, 0, none⟩), fun v _ => v = .pointer (some ⟨g, 4, none⟩), fun v _ => v = .pointer (some ⟨g, 5, none⟩), fun v _ => v = .int .u64 ((T0.now true : Nat) : Int), fun v _ => v = .agg #[.int .i64 kind, .int .i64 ffr, .int .i64 fto, .int .u64 (finc : Int), .int .u64 (fconn : Int), .int .u64 (pinc : Int), .int .u64 (pconn : Int), .int .u64 (fack : Int), .int .u64 (fseq : Int), .slice AZ body.length cZ], fun v _ => True, fun v _ => True] (by kernel_rfl) (by kernel_rfl) (by kernel_rfl) (by kernel_rfl) (fun xv => by simpa using HA6.out.drew)
          (by repeat (first | exact trivial | refine ⟨fun _ _ _ _ h => h, ?_⟩)) ?_ ?_
         ·refine EC 1 rfl (fun h i W F a b c d e H K f => ?_) ?_
          ·have f0 : F.tmps.getD 0 undef = .pointer (some ⟨g, 0, none⟩) := (a 0).trans (by kernel_rfl); clear H c b d a; refine oP rfl ?_; go_simp; exact f.out _ _ rfl trivial e
          refine EC 2 rfl (fun g h W F a b c d e H K f => ?_) ?_
          ·have f4 : F.tmps.getD 4 undef = .int .i64 1 := (a 4).trans (by kernel_rfl); clear H c b d a; refine oP rfl ?_; go_simp; exact f.out _ _ rfl trivial e
          refine EC 3 rfl (fun h i W F a b c d e H K f => ?_) ?_
          ·have f0 : F.tmps.getD 0 undef = .pointer (some ⟨g, 0, none⟩) := (a 0).trans (by kernel_rfl); clear H c b d a; refine oP rfl ?_; go_simp; exact f.out _ _ rfl trivial e
          refine EC 4 rfl (fun g h W F a b c d e H K f => ?_) ?_
          ·have f4 : F.tmps.getD 4 undef = .int .i64 1 := (a 4).trans (by kernel_rfl); clear H c b d a; refine oP rfl ?_; go_simp; exact f.out _ _ rfl trivial e
          refine EC 5 rfl (fun g h W F a b c d e H K f => ?_) ?_
          ·have f118 := gE (a 118) (by kernel_rfl) (H 2) (by kernel_rfl); clear H c b d a; refine oP rfl ?_; go_simp; exact f.out _ _ rfl trivial e
          refine EC 6 rfl (fun g h W F a b c d e H K f => ?_) ?_
          ·have f120 := gE (a 120) (by kernel_rfl) (H 4) (by kernel_rfl); clear H c b d a; refine oP rfl ?_; go_simp; exact f.out _ _ rfl trivial e
          refine EC 7 rfl (fun g h W F a b c d e H K f => ?_) ?_
          ·have f119 := gE (a 119) (by kernel_rfl) (H 3) (by kernel_rfl); have f121 := gE (a 121) (by kernel_rfl) (H 5) (by kernel_rfl); clear H c b d a; refine oP rfl ?_; go_simp; exact f.out _ _ rfl trivial e
          refine EC 8 rfl (fun g h W F a b c d e H K f => ?_) ?_
          ·have f122 := gE (a 122) (by kernel_rfl) (H 6) (by kernel_rfl); have q1 : g 15 = false := c 15 (.edge (by kernel_rfl)); have q2 : g 16 = false := c 16 (.more (j := 15) (by kernel_rfl) (.edge (by kernel_rfl))); have hq := e; rw [if_neg (by simp [q2]), if_neg (by simp [q1])] at hq; have kk := hq.l1; clear H c b d a; refine oP rfl ?_; go_simp; exact f.out _ _ rfl trivial e
          refine EC 9 rfl (fun h i W F a b c d e H K f => ?_) ?_
          ·have f0 : F.tmps.getD 0 undef = .pointer (some ⟨g, 0, none⟩) := (a 0).trans (by kernel_rfl); clear H c b d a; refine oP rfl ?_; go_simp; exact f.out _ _ rfl trivial e
          refine EC 10 rfl (fun g h W F a b c d e H K f => ?_) ?_
          ·have f4 : F.tmps.getD 4 undef = .int .i64 1 := (a 4).trans (by kernel_rfl); clear H c b d a; refine oP rfl ?_; go_simp; exact f.out _ _ rfl trivial e
          refine EC 11 rfl (fun g h W F a b c d e H K f => ?_) ?_
          ·have f124 := gE (a 124) (by kernel_rfl) (H 8) (by kernel_rfl); clear H c b d a; refine oP rfl ?_; go_simp; exact f.out _ _ rfl trivial e
          refine EC 12 rfl (fun g h W F a b c d e H K f => ?_) ?_
          ·have f126 := gE (a 126) (by kernel_rfl) (H 10) (by kernel_rfl); clear H c b d a; refine oP rfl ?_; go_simp; exact f.out _ _ rfl trivial e
          refine EC 13 rfl (fun g h W F a b c d e H K f => ?_) ?_
          ·have f125 := gE (a 125) (by kernel_rfl) (H 9) (by kernel_rfl); have f127 := gE (a 127) (by kernel_rfl) (H 11) (by kernel_rfl); clear H c b d a; refine oP rfl ?_; go_simp; exact f.out _ _ rfl trivial e
          refine EC 14 rfl (fun g h W F a b c d e H K f => ?_) ?_
          ·have f128 := gE (a 128) (by kernel_rfl) (H 12) (by kernel_rfl); have q1 : g 15 = false := c 15 (.edge (by kernel_rfl)); have q2 : g 16 = false := c 16 (.more (j := 15) (by kernel_rfl) (.edge (by kernel_rfl))); have hq := e; rw [if_neg (by simp [q2]), if_neg (by simp [q1])] at hq; have kk := hq.t1; clear H c b d a; refine oP rfl ?_; go_simp; exact f.out _ _ rfl trivial e
          refine EC 15 rfl (fun g h W F a b c d e H K f => ?_) ?_
          ·have f7 : F.tmps.getD 7 undef = .pointer (some ⟨w3.heap.size, 0, none⟩) := (a 7).trans (by kernel_rfl); have q1 : g 15 = false := c 15 (.edge (by kernel_rfl)); have q2 : g 16 = false := c 16 (.more (j := 15) (by kernel_rfl) (.edge (by kernel_rfl))); have hq := e; rw [if_neg (by simp [q2]), if_neg (by simp [q1])] at hq; obtain ⟨kf0, kf1, kf2, kf3, kf4, kf5, kf6, kf7, kf8, kf9⟩ := HF.out W hq; clear H c b d a; refine oP rfl ?_; go_simp; exact f.out _ _ rfl trivial e
          refine EC 16 rfl (fun h i W F a b c d f H K g => ?_) ?_
          ·have f123 := gE (a 123) (by kernel_rfl) (H 7) (by kernel_rfl); have f129 := gE (a 129) (by kernel_rfl) (H 13) (by kernel_rfl); have f130 := gE (a 130) (by kernel_rfl) (H 14) (by kernel_rfl); have q16 : h 16 = false := c 16 (.edge (by kernel_rfl)); rw [if_neg (by simp [q16]), if_neg (by simp [b])] at f; have hS := f; clear f c b d a H; refine oP rfl ?_; go_simp; refine (HC1.out W hS).mono ?_; rintro e W' ⟨v, rfl, hs⟩; exact g.out v W' trivial trivial (by simpa [upB, upd, q16] using hs)
          refine EC 17 rfl (fun h i W F a b c d f H K g => ?_) ?_
          ·have f116 := gE (a 116) (by kernel_rfl) (H 0) (by kernel_rfl); have f117 := gE (a 117) (by kernel_rfl) (H 1) (by kernel_rfl); have f131 : F.tmps.getD 131 undef = i 15 := (a 131).trans (by kernel_rfl); have q15 : h 15 = true := (H 15 (.edge (by kernel_rfl))).1; rw [if_neg (by simp [b]), if_pos q15] at f; have hS := f; clear f c b d a H; refine oP rfl ?_; go_simp; refine (HC2.out W _ hS).mono ?_; rintro e W' ⟨rfl, hs⟩; exact g.out _ W' trivial trivial (by simpa [upB, upd] using hs)
          exact EN
         ·intro dn xv W hI H; have qe : dn 16 = true := (H 16 (of_decide_eq_true (by kernel_rfl))).1; rw [if_pos qe] at hI; have hS := hI; clear H hI qe; simp only [putAll, Act.put, List.setIfInBounds_toArray, List.set_cons_zero, List.set_cons_succ, Nat.reduceAdd]
          go_wp2_with fail
          go_meet
          case rel => exact ⟨a0, a1, _, hS.pop.pop.pop, Lib.hid ⟨by rw [act_mid H234.out HJW.out HFW.out, HT0.out]; simp only; rw [if_neg H4.out], (HO0.out.take (by omega) true HFO.out).mono (by omega)⟩⟩
    ·have e2 : (d == 2) = false := by simp; omega
     have e3 : (d == 3) = false := by simp; omega
     have e4 : (d == 4) = false := by simp; omega
     by_cases h5 : d = 5
     ·subst h5
      go_wp2_with fail
      refine (lifeA1 HA.out hO (by omega)).mono ?_; rintro e w2 ⟨rfl, a, h2⟩; have HA2 := Lib.hid h2; clear h2
      go_wp2_with fail
      go_meet
      case rel => exact ⟨_, _, _, HA2.out, Lib.hid ⟨by rw [TW.act, if_neg (by decide), if_neg (by decide), if_neg (by decide), if_pos rfl], (hO.life true).mono (by omega)⟩⟩
     ·have e5 : (d == 5) = false := by simpa using h5
      go_wp2_with fail
      go_meet
      case rel => exact ⟨a0, a1, T, HA.out, Lib.hid ⟨by rw [TW.act, if_neg h0, if_neg h1, if_neg h234, if_neg h5], hO.mono (by omega)⟩⟩
 case rest =>
  obtain ⟨c0, c1, T1, hA, HR⟩ := hcut; have HA1 := Lib.hid (show TwA c0 c1 w0 wc g (T1.trimTo 0) Qs by rw [trimTo_0]; exact hA); clear hA HA HAB HSB k0 k1 k2 hO
  go_wp2_with fail
  go_loopw [8] (fun iv wr => ∃ m : Nat, m ≤ 2 ∧ iv = .int .i64 (m : Int) ∧ Hid (TwA c0 c1 w0 wr g (T1.trimTo m) Qs)) (fun iv _ => 2 - (intOf iv).toNat)
  case atStart => exact ⟨0, by omega, rfl, HA1⟩
  case round =>
   obtain ⟨m, hm, rfl, HM⟩ := hrel
   rcases (show m = 0 ∨ m = 1 ∨ m = 2 by omega) with e | e | e
   ·subst e; obtain ⟨b0, b1, v0, v1, W0, W1, BB, bs, bt, q1, q2, q3, q4, h⟩ := HM.out; obtain ⟨AV, cV, hv, hcV, hcV2, _⟩ := sep_rwoForm (i := 5) h rfl; subst hv; obtain ⟨nl, Hnl⟩ : ∃ y, Hid (W0.length = y) := ⟨_, Lib.hid rfl⟩; rw [Hnl.out] at hcV; have HS2 := Lib.hid (show Sep w0 wr (Ce g 34 #[.pointer (some ⟨c0, 0, none⟩), .pointer (some ⟨c1, 0, none⟩), .int .u64 ((((T1.trimTo 0).l false).si : Nat) : Int), .int .u64 ((((T1.trimTo 0).l true).si : Nat) : Int), .int .u64 (((T1.trimTo 0).now false : Nat) : Int), .int .u64 (((T1.trimTo 0).now true : Nat) : Int), .slice AV nl cV, v1, .map (some bs), .map (some bt), .int .i64 (((T1.trimTo 0).n : Nat) : Int), .bool false] :: (Ce c0 72 (((T1.trimTo 0).l false).cells b0) :: BoxT b0 ((T1.trimTo 0).l false).box :: Ce c1 72 (((T1.trimTo 0).l true).cells b1) :: BoxT b1 ((T1.trimTo 0).l true).box :: RwO 51 10 (.slice AV nl cV) nl (fR_ W0) :: RwO 51 10 v1 W1.length (fR_ W1) :: Bods BB :: MapT bs (T1.trimTo 0).sent :: MapT bt (T1.trimTo 0).told :: Qs)) by rw [← Hnl.out]; exact h); have HQ := Lib.hid (And.intro q1 (And.intro q2 (And.intro q3 q4))); have hnl : nl = ((T1.trimTo 0).way false).length := by rw [← Hnl.out, ← q1, List.length_map]
    have hnb : nl ≤ B + 20 := by rw [hnl]; exact HR.out.2.way false
    have HNL := Lib.hid hnl; clear h q1 q2 q3 q4 hnl; have kk := cA (i := 0) HS2.out rfl 6 rfl
    by_cases h3 : 300 < nl
    ·have e3 : decide (300 < (nl : Int)) = true := by simp; omega
     obtain ⟨nd, Hnd⟩ : ∃ y, Hid (nl - 300 = y) := ⟨_, Lib.hid rfl⟩; have hnd : nd ≤ nl := by rw [← Hnd.out]; omega
     have esub : IntKind.i64.wrap ((nl : Int) - 300) = (nd : Int) := by rw [IntKind.wrap_i64]; have := Hnd.out; omega
     obtain ⟨SA, HSA⟩ : ∃ y, Hid ((if cV = nd then AV else AV.map (·.add (nd * 10))) = y) := ⟨_, Lib.hid rfl⟩; obtain ⟨sn, Hsn⟩ : ∃ y, Hid (nl - nd = y) := ⟨_, Lib.hid rfl⟩; obtain ⟨sc, Hsc⟩ : ∃ y, Hid (cV - nd = y) := ⟨_, Lib.hid rfl⟩; have HRS : Hid (∀ W, (Instr.slice 30 (.slice AV nl cV) (some (.int .i64 (nd : Int))) none none).run Try.prog W = .ok (.slice SA sn sc) W) := Lib.hid (fun W => by rw [run_fromF W AV nl cV nd hnd, HSA.out, Hsn.out, Hsc.out]); have HPUT : Hid (∀ W, Sep w0 W (Ce g 34 #[.pointer (some ⟨c0, 0, none⟩), .pointer (some ⟨c1, 0, none⟩), .int .u64 ((((T1.trimTo 0).l false).si : Nat) : Int), .int .u64 ((((T1.trimTo 0).l true).si : Nat) : Int), .int .u64 (((T1.trimTo 0).now false : Nat) : Int), .int .u64 (((T1.trimTo 0).now true : Nat) : Int), .slice AV nl cV, v1, .map (some bs), .map (some bt), .int .i64 (((T1.trimTo 0).n : Nat) : Int), .bool false] :: (Ce c0 72 (((T1.trimTo 0).l false).cells b0) :: BoxT b0 ((T1.trimTo 0).l false).box :: Ce c1 72 (((T1.trimTo 0).l true).cells b1) :: BoxT b1 ((T1.trimTo 0).l true).box :: RwO 51 10 (.slice AV nl cV) nl (fR_ W0) :: RwO 51 10 v1 W1.length (fR_ W1) :: Bods BB :: MapT bs (T1.trimTo 0).sent :: MapT bt (T1.trimTo 0).told :: Qs)) → Sep w0 (W.setCell ⟨g, 6, none⟩ (.slice SA sn sc)) (Ce g 34 #[.pointer (some ⟨c0, 0, none⟩), .pointer (some ⟨c1, 0, none⟩), .int .u64 ((((T1.trimTo 0).l false).si : Nat) : Int), .int .u64 ((((T1.trimTo 0).l true).si : Nat) : Int), .int .u64 (((T1.trimTo 0).now false : Nat) : Int), .int .u64 (((T1.trimTo 0).now true : Nat) : Int), .slice SA sn sc, v1, .map (some bs), .map (some bt), .int .i64 (((T1.trimTo 0).n : Nat) : Int), .bool false] :: (Ce c0 72 (((T1.trimTo 0).l false).cells b0) :: BoxT b0 ((T1.trimTo 0).l false).box :: Ce c1 72 (((T1.trimTo 0).l true).cells b1) :: BoxT b1 ((T1.trimTo 0).l true).box :: RwO 51 10 (.slice SA sn sc) sn ((fR_ W0).drop (nd * 10)) :: RwO 51 10 v1 W1.length (fR_ W1) :: Bods BB :: MapT bs (T1.trimTo 0).sent :: MapT bt (T1.trimTo 0).told :: Qs))) := Lib.hid (fun W hS => by
      have h1 := sep_rwoFrom (i := 5) (cS (i := 0) hS rfl 6 (.slice SA sn sc)) rfl hnd; rw [HSA.out, Hsn.out, Hsc.out] at h1; exact h1)
     clear hnd
     go_wp2_with fail
     refine wRF (fun dn xv W => if dn 14 = true then Sep w0 W (Ce g 34 #[.pointer (some ⟨c0, 0, none⟩), .pointer (some ⟨c1, 0, none⟩), .int .u64 ((((T1.trimTo 0).l false).si : Nat) : Int), .int .u64 ((((T1.trimTo 0).l true).si : Nat) : Int), .int .u64 (((T1.trimTo 0).now false : Nat) : Int), .int .u64 (((T1.trimTo 0).now true : Nat) : Int), .slice SA sn sc, v1, .map (some bs), .map (some bt), .int .i64 (((T1.trimTo 0).n : Nat) : Int), .bool false] :: (Ce c0 72 (((T1.trimTo 0).l false).cells b0) :: BoxT b0 ((T1.trimTo 0).l false).box :: Ce c1 72 (((T1.trimTo 0).l true).cells b1) :: BoxT b1 ((T1.trimTo 0).l true).box :: RwO 51 10 (.slice SA sn sc) sn ((fR_ W0).drop (nd * 10)) :: RwO 51 10 v1 W1.length (fR_ W1) :: Bods BB :: MapT bs (T1.trimTo 0).sent :: MapT bt (T1.trimTo 0).told :: Qs)) else Sep w0 W (Ce g 34 #[.pointer (some ⟨c0, 0, none⟩), .pointer (some ⟨c1, 0, none⟩), .int .u64 ((((T1.trimTo 0).l false).si : Nat) : Int), .int .u64 ((((T1.trimTo 0).l true).si : Nat) : Int), .int .u64 (((T1.trimTo 0).now false : Nat) : Int), .int .u64 (((T1.trimTo 0).now true : Nat) : Int), .slice AV nl cV, v1, .map (some bs), .map (some bt), .int .i64 (((T1.trimTo 0).n : Nat) : Int), .bool false] :: (Ce c0 72 (((T1.trimTo 0).l false).cells b0) :: BoxT b0 ((T1.trimTo 0).l false).box :: Ce c1 72 (((T1.trimTo 0).l true).cells b1) :: BoxT b1 ((T1.trimTo 0).l true).box :: RwO 51 10 (.slice AV nl cV) nl (fR_ W0) :: RwO 51 10 v1 W1.length (fR_ W1) :: Bods BB :: MapT bs (T1.trimTo 0).sent :: MapT bt (T1.trimTo 0).told :: Qs))) (fun _ _ => True) [fun v _ => v = .pointer (some ⟨g, 0, none⟩), fun v _ => v = .int .i64 0, fun v _ => v = .pointer (some ⟨g, 0, none⟩), fun v _ => v = .int .i64 0, fun v _ => v = .pointer (some ⟨g, 0, none⟩), fun v _ => v = .pointer (some ⟨g, 6, none⟩), fun v _ => v = .pointer (some ⟨g, 6, none⟩), fun v _ => v = .slice AV nl cV, fun v _ => v = .int .i64 (nl : Int), fun v _ => v = .int .i64 (nd : Int), fun v _ => v = .slice SA sn sc, fun v _ => v = .pointer (some ⟨g, 0, none⟩), fun v _ => v = .pointer (some ⟨g, 6, none⟩), fun v _ => v = .pointer (some ⟨g, 6, none⟩), fun v _ => True] (by kernel_rfl) (by kernel_rfl) (by kernel_rfl) (by kernel_rfl) (fun xv => by simpa using HS2.out.drew)
      (by repeat (first | exact trivial | refine ⟨fun _ _ _ _ h => h, ?_⟩)) ?_ ?_
     ·refine EC 1 rfl (fun h i W F a b c d e H K f => ?_) ?_
      ·have f0 : F.tmps.getD 0 undef = .pointer (some ⟨g, 0, none⟩) := (a 0).trans (by kernel_rfl); clear H c b d a; refine oP rfl ?_; go_simp; exact f.out _ _ rfl trivial e
      refine EC 2 rfl (fun g h W F a b c d e H K f => ?_) ?_
      ·have f8 : F.tmps.getD 8 undef = .int .i64 0 := (a 8).trans (by kernel_rfl); clear H c b d a; refine oP rfl ?_; go_simp; exact f.out _ _ rfl trivial e
      refine EC 3 rfl (fun h i W F a b c d e H K f => ?_) ?_
      ·have f0 : F.tmps.getD 0 undef = .pointer (some ⟨g, 0, none⟩) := (a 0).trans (by kernel_rfl); clear H c b d a; refine oP rfl ?_; go_simp; exact f.out _ _ rfl trivial e
      refine EC 4 rfl (fun g h W F a b c d e H K f => ?_) ?_
      ·have f8 : F.tmps.getD 8 undef = .int .i64 0 := (a 8).trans (by kernel_rfl); clear H c b d a; refine oP rfl ?_; go_simp; exact f.out _ _ rfl trivial e
      refine EC 5 rfl (fun g h W F a b c d e H K f => ?_) ?_
      ·have f153 := gE (a 153) (by kernel_rfl) (H 2) (by kernel_rfl); clear H c b d a; refine oP rfl ?_; go_simp; exact f.out _ _ rfl trivial e
      refine EC 6 rfl (fun g h W F a b c d e H K f => ?_) ?_
      ·have f155 := gE (a 155) (by kernel_rfl) (H 4) (by kernel_rfl); clear H c b d a; refine oP rfl ?_; go_simp; exact f.out _ _ rfl trivial e
      refine EC 7 rfl (fun g h W F a b c d e H K f => ?_) ?_
      ·have f154 := gE (a 154) (by kernel_rfl) (H 3) (by kernel_rfl); have f156 := gE (a 156) (by kernel_rfl) (H 5) (by kernel_rfl); clear H c b d a; refine oP rfl ?_; go_simp; exact f.out _ _ rfl trivial e
      refine EC 8 rfl (fun g h W F a b c d e H K f => ?_) ?_
      ·have f157 := gE (a 157) (by kernel_rfl) (H 6) (by kernel_rfl); have q14 : g 14 = false := c 14 (.more (j := 10) (by kernel_rfl) (.edge (by kernel_rfl))); have hq := e; rw [if_neg (by simp [q14])] at hq; have kk := cA (i := 0) hq rfl 6 rfl; clear H c b d a; refine oP rfl ?_; go_simp; exact f.out _ _ rfl trivial e
      refine EC 9 rfl (fun g h W F a b c d e H K f => ?_) ?_
      ·have f9 : F.tmps.getD 9 undef = .int .i64 (nl : Int) := (a 9).trans (by kernel_rfl); clear H c b d a; refine oP rfl ?_; go_simp; exact f.out _ _ rfl trivial e
      refine EC 10 rfl (fun g h W F a b c d e H K f => ?_) ?_
      ·have f159 := gE (a 159) (by kernel_rfl) (H 8) (by kernel_rfl); clear H c b d a; refine oP rfl ?_; go_simp; exact f.out _ _ rfl trivial e
      refine EC 11 rfl (fun g h W F a b c d e H K f => ?_) ?_
      ·have f158 := gE (a 158) (by kernel_rfl) (H 7) (by kernel_rfl); have f160 := gE (a 160) (by kernel_rfl) (H 9) (by kernel_rfl); have rs := HRS.out W; clear H c b d a; refine oP rfl ?_; go_simp; exact f.out _ _ rfl trivial e
      refine EC 12 rfl (fun g h W F a b c d e H K f => ?_) ?_
      ·have f151 := gE (a 151) (by kernel_rfl) (H 0) (by kernel_rfl); clear H c b d a; refine oP rfl ?_; go_simp; exact f.out _ _ rfl trivial e
      refine EC 13 rfl (fun g h W F a b c d e H K f => ?_) ?_
      ·have f162 := gE (a 162) (by kernel_rfl) (H 11) (by kernel_rfl); clear H c b d a; refine oP rfl ?_; go_simp; exact f.out _ _ rfl trivial e
      refine EC 14 rfl (fun g h W F a b c d e H K f => ?_) ?_
      ·have f152 := gE (a 152) (by kernel_rfl) (H 1) (by kernel_rfl); have f163 := gE (a 163) (by kernel_rfl) (H 12) (by kernel_rfl); clear H c b d a; refine oP rfl ?_; go_simp; exact f.out _ _ rfl trivial e
      refine EC 15 rfl (fun h j W F a b c d e H K f => ?_) ?_
      ·have f161 := gE (a 161) (by kernel_rfl) (H 10) (by kernel_rfl); have f164 := gE (a 164) (by kernel_rfl) (H 13) (by kernel_rfl); rw [if_neg (by simp [b])] at e; have hS := e; clear e c b d a H; refine oP rfl ?_; have yy := cFz (i := 0) hS rfl 6; have kk := cA (i := 0) hS rfl 6 rfl; have hs : Sep w0 (W.setCell ⟨g, 6, none⟩ (.slice SA sn sc)) (Ce g 34 #[.pointer (some ⟨c0, 0, none⟩), .pointer (some ⟨c1, 0, none⟩), .int .u64 ((((T1.trimTo 0).l false).si : Nat) : Int), .int .u64 ((((T1.trimTo 0).l true).si : Nat) : Int), .int .u64 (((T1.trimTo 0).now false : Nat) : Int), .int .u64 (((T1.trimTo 0).now true : Nat) : Int), .slice SA sn sc, v1, .map (some bs), .map (some bt), .int .i64 (((T1.trimTo 0).n : Nat) : Int), .bool false] :: (Ce c0 72 (((T1.trimTo 0).l false).cells b0) :: BoxT b0 ((T1.trimTo 0).l false).box :: Ce c1 72 (((T1.trimTo 0).l true).cells b1) :: BoxT b1 ((T1.trimTo 0).l true).box :: RwO 51 10 (.slice SA sn sc) sn ((fR_ W0).drop (nd * 10)) :: RwO 51 10 v1 W1.length (fR_ W1) :: Bods BB :: MapT bs (T1.trimTo 0).sent :: MapT bt (T1.trimTo 0).told :: Qs)) := HPUT.out W hS; go_simp; exact f.out undef _ trivial trivial (by simpa [upB, upd] using hs)
      exact EN
     ·intro dn xv W hI H; have qe : dn 14 = true := (H 14 (of_decide_eq_true (by kernel_rfl))).1; rw [if_pos qe] at hI; have hS := hI; clear H hI qe; simp only [putAll, Act.put, List.setIfInBounds_toArray, List.set_cons_zero, List.set_cons_succ, Nat.reduceAdd]; have HS3 := Lib.hid hS; clear hS
      go_wp2_with fail
      go_roundw
      case rel =>
       refine ⟨1, by omega, rfl, Lib.hid ⟨b0, b1, .slice SA sn sc, v1, W0.drop nd, W1, BB, bs, bt, ?_, ?_, ?_, ?_, ?_⟩⟩
       ·rw [List.map_drop, HQ.out.1]; exact trim_nd T1 false HNL.out Hnd.out
       ·exact HQ.out.2.1
       ·exact fun y hy => HQ.out.2.2.1 y (frBods_drop hy)
       ·exact HQ.out.2.2.2
       ·have h1 := HS3.out; rw [← frRow_drop, show sn = (W0.drop nd).length by rw [List.length_drop, Hnl.out, Hsn.out]] at h1; rw [show sn = (W0.drop nd).length by rw [List.length_drop, Hnl.out, Hsn.out]]; exact h1
      case measure => simp [intOf]
    ·have e3 : decide (300 < (nl : Int)) = false := by simp; omega
     have HM2 : Hid (TwA c0 c1 w0 wr g (T1.trimTo 1) Qs) := Lib.hid (by
      rw [trimTo_step0 T1 (by have h4 := HNL.out; rw [show (T1.trimTo 0).way false = T1.way false by simp [TW.trimTo]] at h4; omega)]; exact HM.out)
     go_wp2_with fail
     go_roundw
     case rel => exact ⟨1, by omega, rfl, HM2⟩
     case measure => simp [intOf]
   ·subst e; obtain ⟨b0, b1, v0, v1, W0, W1, BB, bs, bt, q1, q2, q3, q4, h⟩ := HM.out; obtain ⟨AV, cV, hv, hcV, hcV2, _⟩ := sep_rwoForm (i := 6) h rfl; subst hv; obtain ⟨nl, Hnl⟩ : ∃ y, Hid (W1.length = y) := ⟨_, Lib.hid rfl⟩; rw [Hnl.out] at hcV; have HS2 := Lib.hid (show Sep w0 wr (Ce g 34 #[.pointer (some ⟨c0, 0, none⟩), .pointer (some ⟨c1, 0, none⟩), .int .u64 ((((T1.trimTo 1).l false).si : Nat) : Int), .int .u64 ((((T1.trimTo 1).l true).si : Nat) : Int), .int .u64 (((T1.trimTo 1).now false : Nat) : Int), .int .u64 (((T1.trimTo 1).now true : Nat) : Int), v0, .slice AV nl cV, .map (some bs), .map (some bt), .int .i64 (((T1.trimTo 1).n : Nat) : Int), .bool false] :: (Ce c0 72 (((T1.trimTo 1).l false).cells b0) :: BoxT b0 ((T1.trimTo 1).l false).box :: Ce c1 72 (((T1.trimTo 1).l true).cells b1) :: BoxT b1 ((T1.trimTo 1).l true).box :: RwO 51 10 v0 W0.length (fR_ W0) :: RwO 51 10 (.slice AV nl cV) nl (fR_ W1) :: Bods BB :: MapT bs (T1.trimTo 1).sent :: MapT bt (T1.trimTo 1).told :: Qs)) by rw [← Hnl.out]; exact h); have HQ := Lib.hid (And.intro q1 (And.intro q2 (And.intro q3 q4))); have hnl : nl = ((T1.trimTo 1).way true).length := by rw [← Hnl.out, ← q2, List.length_map]
    have hnb : nl ≤ B + 20 := by rw [hnl]; exact HR.out.2.way true
    have HNL := Lib.hid hnl; clear h q1 q2 q3 q4 hnl; have kk := cA (i := 0) HS2.out rfl 7 rfl
    by_cases h3 : 300 < nl
    ·have e3 : decide (300 < (nl : Int)) = true := by simp; omega
     obtain ⟨nd, Hnd⟩ : ∃ y, Hid (nl - 300 = y) := ⟨_, Lib.hid rfl⟩; have hnd : nd ≤ nl := by rw [← Hnd.out]; omega
     have esub : IntKind.i64.wrap ((nl : Int) - 300) = (nd : Int) := by rw [IntKind.wrap_i64]; have := Hnd.out; omega
     obtain ⟨SA, HSA⟩ : ∃ y, Hid ((if cV = nd then AV else AV.map (·.add (nd * 10))) = y) := ⟨_, Lib.hid rfl⟩; obtain ⟨sn, Hsn⟩ : ∃ y, Hid (nl - nd = y) := ⟨_, Lib.hid rfl⟩; obtain ⟨sc, Hsc⟩ : ∃ y, Hid (cV - nd = y) := ⟨_, Lib.hid rfl⟩; have HRS : Hid (∀ W, (Instr.slice 30 (.slice AV nl cV) (some (.int .i64 (nd : Int))) none none).run Try.prog W = .ok (.slice SA sn sc) W) := Lib.hid (fun W => by rw [run_fromF W AV nl cV nd hnd, HSA.out, Hsn.out, Hsc.out]); have HPUT : Hid (∀ W, Sep w0 W (Ce g 34 #[.pointer (some ⟨c0, 0, none⟩), .pointer (some ⟨c1, 0, none⟩), .int .u64 ((((T1.trimTo 1).l false).si : Nat) : Int), .int .u64 ((((T1.trimTo 1).l true).si : Nat) : Int), .int .u64 (((T1.trimTo 1).now false : Nat) : Int), .int .u64 (((T1.trimTo 1).now true : Nat) : Int), v0, .slice AV nl cV, .map (some bs), .map (some bt), .int .i64 (((T1.trimTo 1).n : Nat) : Int), .bool false] :: (Ce c0 72 (((T1.trimTo 1).l false).cells b0) :: BoxT b0 ((T1.trimTo 1).l false).box :: Ce c1 72 (((T1.trimTo 1).l true).cells b1) :: BoxT b1 ((T1.trimTo 1).l true).box :: RwO 51 10 v0 W0.length (fR_ W0) :: RwO 51 10 (.slice AV nl cV) nl (fR_ W1) :: Bods BB :: MapT bs (T1.trimTo 1).sent :: MapT bt (T1.trimTo 1).told :: Qs)) → Sep w0 (W.setCell ⟨g, 7, none⟩ (.slice SA sn sc)) (Ce g 34 #[.pointer (some ⟨c0, 0, none⟩), .pointer (some ⟨c1, 0, none⟩), .int .u64 ((((T1.trimTo 1).l false).si : Nat) : Int), .int .u64 ((((T1.trimTo 1).l true).si : Nat) : Int), .int .u64 (((T1.trimTo 1).now false : Nat) : Int), .int .u64 (((T1.trimTo 1).now true : Nat) : Int), v0, .slice SA sn sc, .map (some bs), .map (some bt), .int .i64 (((T1.trimTo 1).n : Nat) : Int), .bool false] :: (Ce c0 72 (((T1.trimTo 1).l false).cells b0) :: BoxT b0 ((T1.trimTo 1).l false).box :: Ce c1 72 (((T1.trimTo 1).l true).cells b1) :: BoxT b1 ((T1.trimTo 1).l true).box :: RwO 51 10 v0 W0.length (fR_ W0) :: RwO 51 10 (.slice SA sn sc) sn ((fR_ W1).drop (nd * 10)) :: Bods BB :: MapT bs (T1.trimTo 1).sent :: MapT bt (T1.trimTo 1).told :: Qs))) := Lib.hid (fun W hS => by
      have h1 := sep_rwoFrom (i := 6) (cS (i := 0) hS rfl 7 (.slice SA sn sc)) rfl hnd; rw [HSA.out, Hsn.out, Hsc.out] at h1; exact h1)
     clear hnd
     go_wp2_with fail
     refine wRF (fun dn xv W => if dn 14 = true then Sep w0 W (Ce g 34 #[.pointer (some ⟨c0, 0, none⟩), .pointer (some ⟨c1, 0, none⟩), .int .u64 ((((T1.trimTo 1).l false).si : Nat) : Int), .int .u64 ((((T1.trimTo 1).l true).si : Nat) : Int), .int .u64 (((T1.trimTo 1).now false : Nat) : Int), .int .u64 (((T1.trimTo 1).now true : Nat) : Int), v0, .slice SA sn sc, .map (some bs), .map (some bt), .int .i64 (((T1.trimTo 1).n : Nat) : Int), .bool false] :: (Ce c0 72 (((T1.trimTo 1).l false).cells b0) :: BoxT b0 ((T1.trimTo 1).l false).box :: Ce c1 72 (((T1.trimTo 1).l true).cells b1) :: BoxT b1 ((T1.trimTo 1).l true).box :: RwO 51 10 v0 W0.length (fR_ W0) :: RwO 51 10 (.slice SA sn sc) sn ((fR_ W1).drop (nd * 10)) :: Bods BB :: MapT bs (T1.trimTo 1).sent :: MapT bt (T1.trimTo 1).told :: Qs)) else Sep w0 W (Ce g 34 #[.pointer (some ⟨c0, 0, none⟩), .pointer (some ⟨c1, 0, none⟩), .int .u64 ((((T1.trimTo 1).l false).si : Nat) : Int), .int .u64 ((((T1.trimTo 1).l true).si : Nat) : Int), .int .u64 (((T1.trimTo 1).now false : Nat) : Int), .int .u64 (((T1.trimTo 1).now true : Nat) : Int), v0, .slice AV nl cV, .map (some bs), .map (some bt), .int .i64 (((T1.trimTo 1).n : Nat) : Int), .bool false] :: (Ce c0 72 (((T1.trimTo 1).l false).cells b0) :: BoxT b0 ((T1.trimTo 1).l false).box :: Ce c1 72 (((T1.trimTo 1).l true).cells b1) :: BoxT b1 ((T1.trimTo 1).l true).box :: RwO 51 10 v0 W0.length (fR_ W0) :: RwO 51 10 (.slice AV nl cV) nl (fR_ W1) :: Bods BB :: MapT bs (T1.trimTo 1).sent :: MapT bt (T1.trimTo 1).told :: Qs))) (fun _ _ => True) [fun v _ => v = .pointer (some ⟨g, 0, none⟩), fun v _ => v = .int .i64 1, fun v _ => v = .pointer (some ⟨g, 0, none⟩), fun v _ => v = .int .i64 1, fun v _ => v = .pointer (some ⟨g, 0, none⟩), fun v _ => v = .pointer (some ⟨g, 6, none⟩), fun v _ => v = .pointer (some ⟨g, 7, none⟩), fun v _ => v = .slice AV nl cV, fun v _ => v = .int .i64 (nl : Int), fun v _ => v = .int .i64 (nd : Int), fun v _ => v = .slice SA sn sc, fun v _ => v = .pointer (some ⟨g, 0, none⟩), fun v _ => v = .pointer (some ⟨g, 6, none⟩), fun v _ => v = .pointer (some ⟨g, 7, none⟩), fun v _ => True] (by kernel_rfl) (by kernel_rfl) (by kernel_rfl) (by kernel_rfl) (fun xv => by simpa using HS2.out.drew)
      (by repeat (first | exact trivial | refine ⟨fun _ _ _ _ h => h, ?_⟩)) ?_ ?_
     ·refine EC 1 rfl (fun h i W F a b c d e H K f => ?_) ?_
      ·have f0 : F.tmps.getD 0 undef = .pointer (some ⟨g, 0, none⟩) := (a 0).trans (by kernel_rfl); clear H c b d a; refine oP rfl ?_; go_simp; exact f.out _ _ rfl trivial e
      refine EC 2 rfl (fun g h W F a b c d e H K f => ?_) ?_
      ·have f8 : F.tmps.getD 8 undef = .int .i64 1 := (a 8).trans (by kernel_rfl); clear H c b d a; refine oP rfl ?_; go_simp; exact f.out _ _ rfl trivial e
      refine EC 3 rfl (fun h i W F a b c d e H K f => ?_) ?_
      ·have f0 : F.tmps.getD 0 undef = .pointer (some ⟨g, 0, none⟩) := (a 0).trans (by kernel_rfl); clear H c b d a; refine oP rfl ?_; go_simp; exact f.out _ _ rfl trivial e
      refine EC 4 rfl (fun g h W F a b c d e H K f => ?_) ?_
      ·have f8 : F.tmps.getD 8 undef = .int .i64 1 := (a 8).trans (by kernel_rfl); clear H c b d a; refine oP rfl ?_; go_simp; exact f.out _ _ rfl trivial e
      refine EC 5 rfl (fun g h W F a b c d e H K f => ?_) ?_
      ·have f153 := gE (a 153) (by kernel_rfl) (H 2) (by kernel_rfl); clear H c b d a; refine oP rfl ?_; go_simp; exact f.out _ _ rfl trivial e
      refine EC 6 rfl (fun g h W F a b c d e H K f => ?_) ?_
      ·have f155 := gE (a 155) (by kernel_rfl) (H 4) (by kernel_rfl); clear H c b d a; refine oP rfl ?_; go_simp; exact f.out _ _ rfl trivial e
      refine EC 7 rfl (fun g h W F a b c d e H K f => ?_) ?_
      ·have f154 := gE (a 154) (by kernel_rfl) (H 3) (by kernel_rfl); have f156 := gE (a 156) (by kernel_rfl) (H 5) (by kernel_rfl); clear H c b d a; refine oP rfl ?_; go_simp; exact f.out _ _ rfl trivial e
      refine EC 8 rfl (fun g h W F a b c d e H K f => ?_) ?_
      ·have f157 := gE (a 157) (by kernel_rfl) (H 6) (by kernel_rfl); have q14 : g 14 = false := c 14 (.more (j := 10) (by kernel_rfl) (.edge (by kernel_rfl))); have hq := e; rw [if_neg (by simp [q14])] at hq; have kk := cA (i := 0) hq rfl 7 rfl; clear H c b d a; refine oP rfl ?_; go_simp; exact f.out _ _ rfl trivial e
      refine EC 9 rfl (fun g h W F a b c d e H K f => ?_) ?_
      ·have f9 : F.tmps.getD 9 undef = .int .i64 (nl : Int) := (a 9).trans (by kernel_rfl); clear H c b d a; refine oP rfl ?_; go_simp; exact f.out _ _ rfl trivial e
      refine EC 10 rfl (fun g h W F a b c d e H K f => ?_) ?_
      ·have f159 := gE (a 159) (by kernel_rfl) (H 8) (by kernel_rfl); clear H c b d a; refine oP rfl ?_; go_simp; exact f.out _ _ rfl trivial e
      refine EC 11 rfl (fun g h W F a b c d e H K f => ?_) ?_
      ·have f158 := gE (a 158) (by kernel_rfl) (H 7) (by kernel_rfl); have f160 := gE (a 160) (by kernel_rfl) (H 9) (by kernel_rfl); have rs := HRS.out W; clear H c b d a; refine oP rfl ?_; go_simp; exact f.out _ _ rfl trivial e
      refine EC 12 rfl (fun g h W F a b c d e H K f => ?_) ?_
      ·have f151 := gE (a 151) (by kernel_rfl) (H 0) (by kernel_rfl); clear H c b d a; refine oP rfl ?_; go_simp; exact f.out _ _ rfl trivial e
      refine EC 13 rfl (fun g h W F a b c d e H K f => ?_) ?_
      ·have f162 := gE (a 162) (by kernel_rfl) (H 11) (by kernel_rfl); clear H c b d a; refine oP rfl ?_; go_simp; exact f.out _ _ rfl trivial e
      refine EC 14 rfl (fun g h W F a b c d e H K f => ?_) ?_
      ·have f152 := gE (a 152) (by kernel_rfl) (H 1) (by kernel_rfl); have f163 := gE (a 163) (by kernel_rfl) (H 12) (by kernel_rfl); clear H c b d a; refine oP rfl ?_; go_simp; exact f.out _ _ rfl trivial e
      refine EC 15 rfl (fun h j W F a b c d e H K f => ?_) ?_
      ·have f161 := gE (a 161) (by kernel_rfl) (H 10) (by kernel_rfl); have f164 := gE (a 164) (by kernel_rfl) (H 13) (by kernel_rfl); rw [if_neg (by simp [b])] at e; have hS := e; clear e c b d a H; refine oP rfl ?_; have yy := cFz (i := 0) hS rfl 7; have kk := cA (i := 0) hS rfl 7 rfl; have hs : Sep w0 (W.setCell ⟨g, 7, none⟩ (.slice SA sn sc)) (Ce g 34 #[.pointer (some ⟨c0, 0, none⟩), .pointer (some ⟨c1, 0, none⟩), .int .u64 ((((T1.trimTo 1).l false).si : Nat) : Int), .int .u64 ((((T1.trimTo 1).l true).si : Nat) : Int), .int .u64 (((T1.trimTo 1).now false : Nat) : Int), .int .u64 (((T1.trimTo 1).now true : Nat) : Int), v0, .slice SA sn sc, .map (some bs), .map (some bt), .int .i64 (((T1.trimTo 1).n : Nat) : Int), .bool false] :: (Ce c0 72 (((T1.trimTo 1).l false).cells b0) :: BoxT b0 ((T1.trimTo 1).l false).box :: Ce c1 72 (((T1.trimTo 1).l true).cells b1) :: BoxT b1 ((T1.trimTo 1).l true).box :: RwO 51 10 v0 W0.length (fR_ W0) :: RwO 51 10 (.slice SA sn sc) sn ((fR_ W1).drop (nd * 10)) :: Bods BB :: MapT bs (T1.trimTo 1).sent :: MapT bt (T1.trimTo 1).told :: Qs)) := HPUT.out W hS; go_simp; exact f.out undef _ trivial trivial (by simpa [upB, upd] using hs)
      exact EN
     ·intro dn xv W hI H; have qe : dn 14 = true := (H 14 (of_decide_eq_true (by kernel_rfl))).1; rw [if_pos qe] at hI; have hS := hI; clear H hI qe; simp only [putAll, Act.put, List.setIfInBounds_toArray, List.set_cons_zero, List.set_cons_succ, Nat.reduceAdd]; have HS3 := Lib.hid hS; clear hS
      go_wp2_with fail
      go_roundw
      case rel =>
       refine ⟨2, by omega, rfl, Lib.hid ⟨b0, b1, v0, .slice SA sn sc, W0, W1.drop nd, BB, bs, bt, ?_, ?_, ?_, ?_, ?_⟩⟩
       ·exact HQ.out.1
       ·rw [List.map_drop, HQ.out.2.1]; exact trim_nd T1 true HNL.out Hnd.out
       ·exact HQ.out.2.2.1
       ·exact fun y hy => HQ.out.2.2.2 y (frBods_drop hy)
       ·have h1 := HS3.out; rw [← frRow_drop, show sn = (W1.drop nd).length by rw [List.length_drop, Hnl.out, Hsn.out]] at h1; rw [show sn = (W1.drop nd).length by rw [List.length_drop, Hnl.out, Hsn.out]]; exact h1
      case measure => simp [intOf]
    ·have e3 : decide (300 < (nl : Int)) = false := by simp; omega
     have HM2 : Hid (TwA c0 c1 w0 wr g (T1.trimTo 2) Qs) := Lib.hid (by
      rw [trimTo_step1 T1 (by have h4 := HNL.out; rw [show (T1.trimTo 1).way true = T1.way true by simp [TW.trimTo]] at h4; omega)]; exact HM.out)
     go_wp2_with fail
     go_roundw
     case rel => exact ⟨2, by omega, rfl, HM2⟩
     case measure => simp [intOf]
   ·subst e
    go_wp2_with fail
    go_end0
    refine ⟨rfl, true, k, c0, c1, ?_, ?_⟩
    ·rw [HR.out.1, ← trimTo_2]; exact HM.out
    ·rw [HR.out.1]; exact HR.out.2.trim
/-- an act, whatever it is -/
theorem actA {w0 w : World} {Qs : List SP} {g a0 a1 B : Nat} {T : TW} (h : TwA a0 a1 w0 w g T Qs) (hO : T.Ok B) (hB : B ≤ 1000000) (d at_ nn : Int) :
  Calls Try.prog 10 #[.pointer (some ⟨g, 0, none⟩), .agg #[.int .i64 d, .int .i64 at_, .int .i64 nn]] w fun e w' => e = .returned (.tuple #[]) ∧ ActP w0 w' g T d Qs B := by
 obtain ⟨k, hk, hb⟩ := and_low at_ 1 (by omega)
 rcases (show k = 0 ∨ k = 1 by omega) with rfl | rfl
 ·exact act0 h hO hB d at_ nn hb
 ·exact act1 h hO hB d at_ nn hb
end Go.Proofs.Ytngegjboenfmeaa
/- The beginning of two links' harness. -/
namespace Go.Proofs.Ytngegjboenfmeaa
open Go Go.RowKit Go.Shelf
set_option linter.unusedVariables false
set_option maxRecDepth 100000
set_option linter.unusedSimpArgs false

theorem TwA.bad {w0 w : World} {g a0 a1 : Nat} {T : TW} {Qs : List SP} (h : TwA a0 a1 w0 w g T Qs) : w.cell? ⟨g, 11, none⟩ = some (.bool false) := by
 obtain ⟨b0, b1, v0, v1, W0, W1, BB, bs, bt, q1, q2, q3, q4, h⟩ := h; exact cA (i := 0) h rfl 11 rfl
theorem TwA.bel {w0 w : World} {g a0 a1 : Nat} {T : TW} {Qs : List SP} (h : TwA a0 a1 w0 w g T Qs) : Below w0.heap.size w0 w := by
 obtain ⟨b0, b1, v0, v1, W0, W1, BB, bs, bt, q1, q2, q3, q4, h⟩ := h; exact h.bel
theorem has_bel {w w' : World} {A : Option Addr} {xs : List Value} (hb : Below w.heap.size w w') (h : Has w w.heap.size A xs) : Has w' w.heap.size A xs := h.below hb
set_option maxHeartbeats 3200000 in
theorem begin_any (w : World) : Calls Try.prog 9 #[] w fun e w' => ∃ g a0 a1, e = .returned (.pointer (some ⟨g, 0, none⟩)) ∧ TwA a0 a1 w w' g TW.start [] := by
 have hmm := @run_makeMap Try.prog; have h1 := sep_mapNew (sep_mapNew (Sep.nil w)); rw [World.size_alloc] at h1; have h2 := sep_ceF h1 (twC (.pointer none) (.pointer none) 0 0 0 0 (.slice none 0 0) (.slice none 0 0) w.heap.size (w.heap.size + 1) 0) 34; simp only [World.size_alloc] at h2; have HS := Lib.hid h2; clear h1 h2; go_enter Try.func9, Try.ntmps9
 go_wp2_with fail
 refine (life0 HS.out (by omega)).mono ?_; rintro e w1 ⟨rfl, a0, h1⟩; have HS1 := Lib.hid h1; clear h1 HS hmm
 go_wp2_with fail
 refine (life1 HS1.out (by omega)).mono ?_; rintro e w2 ⟨rfl, a1, h2⟩; have HS2 := Lib.hid h2; clear h2 HS1
 go_wp2_with fail
 go_ret
 have h3 := sep_bodsNil (sep_rwoNil (sep_rwoNil HS2.out 51 10) 51 10); refine ⟨_, a0, a1, rfl, .slice none 0 0, .slice none 0 0, .slice none 0 0, .slice none 0 0, [], [], [], _, _, rfl, rfl, by simp [fB_], by simp [fB_], ((((((((((h3).tF 8 rfl).tF 9 rfl).tF 2 rfl).tF 3 rfl).tF 4 rfl).tF 7 rfl).tF 7 rfl).tF 9 rfl).tF 9 rfl).tF 9 rfl⟩
end Go.Proofs.Ytngegjboenfmeaa
/- What two links keep to, whatever becomes of their frames: the plain law of parting. No program in sight. -/
namespace Go.Proofs.Ytngegjboenfmeaa
open Go Go.RowKit
set_option linter.unusedVariables false
set_option linter.unusedSimpArgs false
set_option maxRecDepth 100000

def Lx (a b c d : Nat) : Prop := a < c ∨ (a = c ∧ b ≤ d)
theorem Lx.refl (a b : Nat) : Lx a b a b := .inr ⟨rfl, Nat.le_refl _⟩
theorem Lx.trans {a b c d e f : Nat} (h : Lx a b c d) (h2 : Lx c d e f) : Lx a b e f := by
 unfold Lx at *; omega
/-- a frame that a link tells as it stands -/
def OfL (s : LS) (f : Fr) : Prop := f.inc = s.si ∧ f.conn = s.conn ∧ f.pinc = s.inc ∧ f.pconn = s.known
theorem ofL_hello (s : LS) : OfL s s.hello := ⟨rfl, rfl, rfl, rfl⟩
theorem ofL_data (s : LS) (x : Nat × List UInt8) : OfL s (s.data x) := ⟨rfl, rfl, rfl, rfl⟩
theorem OfL.to {s t : LS} {f : Fr} (h : OfL s f) (h1 : t.si = s.si) (h2 : t.conn = s.conn) (h3 : t.inc = s.inc) (h4 : t.known = s.known) : OfL t f := ⟨by rw [h1]; exact h.1, by rw [h2]; exact h.2.1, by rw [h3]; exact h.2.2.1, by rw [h4]; exact h.2.2.2⟩
/-- what a tick leaves of the numbers -/
theorem tick_nums (s : LS) (now : Nat) : (s.tick now).si = s.si ∧ (s.tick now).conn = (s.tick1 now).conn ∧ (s.tick now).inc = s.inc ∧ (s.tick now).known = s.known ∧ (s.tick now).heard = s.heard ∧ (s.tick now).up = (s.tick1 now).up ∧ (s.tick1 now).si = s.si ∧ (s.tick1 now).inc = s.inc ∧ (s.tick1 now).known = s.known := by
 have h1 : (s.tick1 now).si = s.si ∧ (s.tick1 now).inc = s.inc ∧ (s.tick1 now).known = s.known ∧ (s.tick1 now).heard = s.heard := by
  unfold LS.tick1; split <;> exact ⟨rfl, rfl, rfl, rfl⟩
 obtain ⟨e1, e2, e3, e4⟩ := h1; unfold LS.tick; simp only; split
 ·exact ⟨e1, rfl, e2, e3, e4, rfl, e1, e2, e3⟩
 ·exact ⟨e1, rfl, e2, e3, e4, rfl, e1, e2, e3⟩
theorem ofL_tickF (s : LS) (now : Nat) : ∀ f ∈ s.tickF now, OfL (s.tick now) f := by
 intro f hf; obtain ⟨h1, h2, h3, h4, _, _, h7, h8, h9⟩ := tick_nums s now; have key : OfL (s.tick1 now) f := by
  unfold LS.tickF at hf; simp only at hf
  rcases List.mem_cons.1 hf with rfl | hf
  ·exact ofL_hello _
  ·split at hf
   ·obtain ⟨x, _, rfl⟩ := List.mem_map.1 hf; exact ofL_data _ x
   ·simp at hf
 exact key.to (by rw [h1, h7]) h2 (by rw [h3, h8]) (by rw [h4, h9])
theorem ofL_sendF (s : LS) (now : Nat) (b : List UInt8) : ∀ f ∈ s.sendF b, OfL (s.send now b) f := by
 intro f hf; obtain ⟨_, _, u3, _, u5, u6, u7⟩ := send_up (s := s) (now := now) (b := b); unfold LS.sendF at hf; split at hf
 ·rw [List.mem_singleton.1 hf]; exact (ofL_data s _).to u3 u5 u6 u7
 ·simp at hf
/-- no link knows more of another than there is, no frame either -/
structure InvP (l : Bool → LS) (now : Bool → Nat) (way : Bool → List Fr) : Prop where
 hd : ∀ i, (l i).heard ≤ now i
 kn : ∀ i, Lx (l (!i)).inc (l (!i)).known (l i).si (l i).conn
 tw : ∀ i, ∀ f ∈ way i, Lx f.pinc f.pconn (l i).si (l i).conn
 fr : ∀ i, ∀ f ∈ way (!i), Lx f.inc f.conn (l i).si (l i).conn
theorem notnot (i : Bool) : (!(!i)) = i := by cases i <;> rfl
theorem not_ne (i : Bool) : (!i) ≠ i := by cases i <;> simp
/-- one side turns, and tells frames -/
theorem InvP.step {l : Bool → LS} {now : Bool → Nat} {way : Bool → List Fr} (h : InvP l now way) (i : Bool) {s : LS} {F : List Fr} (hg : Lx (l i).si (l i).conn s.si s.conn) (hh : s.heard ≤ now i)
  (hk : Lx s.inc s.known (l (!i)).si (l (!i)).conn) (hF : ∀ f ∈ F, OfL s f) : InvP (atB l i s) now (atB way (!i) (way (!i) ++ F)) := by
 have ei : ∀ j, j = i ∨ j = !i := fun j => by cases i <;> cases j <;> simp
 have a1 : atB l i s i = s := atB_same l i s; have a2 : atB l i s (!i) = l (!i) := by unfold atB; rw [if_neg (not_ne i)]
 have b1 : atB way (!i) (way (!i) ++ F) (!i) = way (!i) ++ F := atB_same way (!i) _; have b2 : atB way (!i) (way (!i) ++ F) i = way i := by unfold atB; rw [if_neg (fun e => not_ne i e.symm)]
 refine ⟨?_, ?_, ?_, ?_⟩
 ·intro j
  rcases ei j with rfl | rfl
  ·rw [a1]; exact hh
  ·rw [a2]; exact h.hd _
 ·intro j
  rcases ei j with rfl | rfl
  ·rw [a1, a2]; exact (h.kn _).trans hg
  ·rw [notnot, a1, a2]; exact hk
 ·intro j f hf
  rcases ei j with rfl | rfl
  ·rw [b2] at hf; rw [a1]; exact (h.tw _ f hf).trans hg
  ·rw [b1] at hf; rw [a2]
   rcases List.mem_append.1 hf with hf | hf
   ·exact h.tw _ f hf
   ·obtain ⟨_, _, e3, e4⟩ := hF f hf; rw [e3, e4]; exact hk
 ·intro j f hf
  rcases ei j with rfl | rfl
  ·rw [b1] at hf; rw [a1]
   rcases List.mem_append.1 hf with hf | hf
   ·exact (h.fr _ f hf).trans hg
   ·obtain ⟨e1, e2, _, _⟩ := hF f hf; rw [e1, e2]; exact Lx.refl _ _
  ·rw [notnot, b2] at hf; rw [a2]; have := h.fr (!i) f (by rw [notnot]; exact hf); exact this
def TW.Inv (T : TW) : Prop := InvP T.l T.now T.way
theorem start_ok : TW.start.Ok 1 := ⟨fun i => newLk_num i 1, fun i => by simp [TW.start, newLk], fun i => by simp [TW.start], fun i => by simp [TW.start], fun i f hf => by simp [TW.start] at hf, fun p => by simp [TW.start], fun p => by simp [TW.start], by simp [TW.start]⟩
theorem mem_trim {l : List Fr} {f : Fr} (h : f ∈ Go.Proofs.Ytngegjboenfmeaa.trim l) : f ∈ l := by
 unfold Go.Proofs.Ytngegjboenfmeaa.trim at h; exact List.mem_of_mem_drop h
end Go.Proofs.Ytngegjboenfmeaa
/- What is told by a pair is what was sent by it, in order, each once: the plain law of order. No program in sight. -/
namespace Go.Proofs.Ytngegjboenfmeaa
open Go Go.RowKit
set_option linter.unusedVariables false
set_option linter.unusedSimpArgs false
set_option maxRecDepth 100000

def Lx4 (a b c d a' b' c' d' : Nat) : Prop := a < a' ∨ (a = a' ∧ (b < b' ∨ (b = b' ∧ (c < c' ∨ (c = c' ∧ d ≤ d')))))
def Lt4 (a b c d a' b' c' d' : Nat) : Prop := a < a' ∨ (a = a' ∧ (b < b' ∨ (b = b' ∧ (c < c' ∨ (c = c' ∧ d < d')))))
/-- a link's pair, its own side first; the other side's, as the link knows it -/
def prL (i : Bool) (s : LS) : Pr := (side i, s.si, s.conn, s.inc, s.known)
def rpL (i : Bool) (s : LS) : Pr := (1 - side i, s.inc, s.known, s.si, s.conn)
def frq (i : Bool) (f : Fr) : Pr := (side i, f.inc, f.conn, f.pinc, f.pconn)
/-- a frame's body stands at its number among what was sent -/
def Snt (L : List (List UInt8)) (f : Fr) : Prop := 1 ≤ f.seq ∧ L[f.seq - 1]? = some f.body
theorem Snt.more {L : List (List UInt8)} {f : Fr} (h : Snt L f) (b : List UInt8) : Snt (L ++ [b]) f := ⟨h.1, by
 have hl := (List.getElem?_eq_some_iff.1 h.2).1; rw [List.getElem?_append_left hl]; exact h.2⟩
structure InvO (l : Bool → LS) (way : Bool → List Fr) (sent told : Pr → List (List UInt8)) : Prop where
 pre : ∀ q, told q <+: sent q
 snd : ∀ i, (l i).base ≤ (sent (prL i (l i))).length ∧ (sent (prL i (l i))).drop (l i).base = (l i).box
 rcv : ∀ i, (l i).got ≤ (sent (rpL i (l i))).length ∧ told (rpL i (l i)) = (sent (rpL i (l i))).take (l i).got
 dn : ∀ i, (l i).up = false → (l i).base = 0 ∧ (l i).box = [] ∧ (l i).got = 0
 fs : ∀ i q, q.1 = side i → sent q ≠ [] → Lx4 q.2.1 q.2.2.1 q.2.2.2.1 q.2.2.2.2 (l i).si (l i).conn (l i).inc (l i).known
 ft : ∀ i q, q.1 = 1 - side i → told q ≠ [] → Lx4 q.2.2.2.1 q.2.2.2.2 q.2.1 q.2.2.1 (l i).si (l i).conn (l i).inc (l i).known
 fr : ∀ i, ∀ f ∈ way (!i), f.kind = 2 → Snt (sent (frq i f)) f
theorem side_ne (i : Bool) : side (!i) ≠ side i := by cases i <;> simp [side]
theorem side_not (i : Bool) : 1 - side i = side (!i) := by cases i <;> simp [side]
theorem two_of (i j : Bool) : j = i ∨ j = !i := by cases i <;> cases j <;> simp
theorem atB_not {α : Type} (f : Bool → α) (i : Bool) (x : α) : atB f i x (!i) = f (!i) := atB_other f i x
section
variable {l : Bool → LS} {way : Bool → List Fr} {sent told : Pr → List (List UInt8)}
/-- a side begins anew, by a pair that was not there -/
theorem InvO.reset (h : InvO l way sent told) (i : Bool) {s : LS} (hlt : Lt4 (l i).si (l i).conn (l i).inc (l i).known s.si s.conn s.inc s.known) (hb : s.base = 0) (hx : s.box = []) (hg : s.got = 0) : InvO (atB l i s) way sent told := by
 have a1 : atB l i s i = s := atB_same l i s; have a2 : atB l i s (!i) = l (!i) := atB_not l i s; have e1 : sent (prL i s) = [] := by
  by_cases e : sent (prL i s) = []
  ·exact e
  ·have := h.fs i _ rfl e
   simp only [prL] at this; unfold Lx4 at this; unfold Lt4 at hlt; omega
 have e2 : told (rpL i s) = [] := by
  by_cases e : told (rpL i s) = []
  ·exact e
  ·have := h.ft i _ rfl e
   simp only [rpL] at this; unfold Lx4 at this; unfold Lt4 at hlt; omega
 refine ⟨h.pre, ?_, ?_, ?_, ?_, ?_, h.fr⟩
 ·intro j
  rcases two_of i j with rfl | rfl
  ·rw [a1, e1, hb, hx]; exact ⟨Nat.zero_le _, rfl⟩
  ·rw [a2]; exact h.snd _
 ·intro j
  rcases two_of i j with rfl | rfl
  ·rw [a1, e2, hg]; exact ⟨Nat.zero_le _, by simp⟩
  ·rw [a2]; exact h.rcv _
 ·intro j
  rcases two_of i j with rfl | rfl
  ·rw [a1]; exact fun _ => ⟨hb, hx, hg⟩
  ·rw [a2]; exact h.dn _
 ·intro j q hq hs
  rcases two_of i j with rfl | rfl
  ·rw [a1]; have := h.fs _ q hq hs; unfold Lx4 at *; unfold Lt4 at hlt; omega
  ·rw [a2]; exact h.fs _ q hq hs
 ·intro j q hq hs
  rcases two_of i j with rfl | rfl
  ·rw [a1]; have := h.ft _ q hq hs; unfold Lx4 at *; unfold Lt4 at hlt; omega
  ·rw [a2]; exact h.ft _ q hq hs
/-- the pair stays, what was taken too -/
theorem InvO.same (h : InvO l way sent told) (i : Bool) {s : LS} (h1 : s.si = (l i).si) (h2 : s.conn = (l i).conn) (h3 : s.inc = (l i).inc) (h4 : s.known = (l i).known) (h5 : s.got = (l i).got)
  (h6 : ∀ S : List (List UInt8), (l i).base ≤ S.length → S.drop (l i).base = (l i).box → s.base ≤ S.length ∧ S.drop s.base = s.box) (h7 : s.up = false → s.base = 0 ∧ s.box = [] ∧ s.got = 0) : InvO (atB l i s) way sent told := by
 have a1 : atB l i s i = s := atB_same l i s; have a2 : atB l i s (!i) = l (!i) := atB_not l i s; have e1 : prL i s = prL i (l i) := by unfold prL; rw [h1, h2, h3, h4]
 have e2 : rpL i s = rpL i (l i) := by unfold rpL; rw [h1, h2, h3, h4]
 refine ⟨h.pre, ?_, ?_, ?_, ?_, ?_, h.fr⟩
 ·intro j
  rcases two_of i j with rfl | rfl
  ·rw [a1, e1]; exact h6 _ (h.snd _).1 (h.snd _).2
  ·rw [a2]; exact h.snd _
 ·intro j
  rcases two_of i j with rfl | rfl
  ·rw [a1, e2, h5]; exact h.rcv _
  ·rw [a2]; exact h.rcv _
 ·intro j
  rcases two_of i j with rfl | rfl
  ·rw [a1]; exact h7
  ·rw [a2]; exact h.dn _
 ·intro j q hq hs
  rcases two_of i j with rfl | rfl
  ·rw [a1, h1, h2, h3, h4]; exact h.fs _ q hq hs
  ·rw [a2]; exact h.fs _ q hq hs
 ·intro j q hq hs
  rcases two_of i j with rfl | rfl
  ·rw [a1, h1, h2, h3, h4]; exact h.ft _ q hq hs
  ·rw [a2]; exact h.ft _ q hq hs
theorem updM_same (m : Pr → List (List UInt8)) (q : Pr) (x : List (List UInt8)) : updM m q x q = x := by simp [updM]
theorem updM_ne {m : Pr → List (List UInt8)} {q p : Pr} {x : List (List UInt8)} (h : p ≠ q) : updM m q x p = m p := by simp [updM, h]
/-- the next one is taken -/
theorem InvO.tell (h : InvO l way sent told) (i : Bool) {s : LS} {b : List UInt8} (h1 : s.si = (l i).si) (h2 : s.conn = (l i).conn) (h3 : s.inc = (l i).inc) (h4 : s.known = (l i).known) (h5 : s.got = (l i).got + 1)
  (hb : s.base = (l i).base) (hx : s.box = (l i).box) (hu : s.up = true) (hsb : (sent (rpL i (l i)))[(l i).got]? = some b) : InvO (atB l i s) way sent (updM told (rpL i s) (told (rpL i s) ++ [b])) := by
 have a1 : atB l i s i = s := atB_same l i s; have a2 : atB l i s (!i) = l (!i) := atB_not l i s; have e1 : prL i s = prL i (l i) := by unfold prL; rw [h1, h2, h3, h4]
 have e2 : rpL i s = rpL i (l i) := by unfold rpL; rw [h1, h2, h3, h4]
 have hlt := (List.getElem?_eq_some_iff.1 hsb).1; have ht : told (rpL i (l i)) ++ [b] = (sent (rpL i (l i))).take ((l i).got + 1) := by
  rw [(h.rcv i).2, List.take_add_one, hsb]; rfl
 rw [e2]; have hne : rpL (!i) (l (!i)) ≠ rpL i (l i) := fun e => by
  have := congrArg (fun p : Pr => p.1) e
  simp only [rpL, side_not] at this; rw [notnot] at this; exact side_ne i this.symm
 refine ⟨?_, ?_, ?_, ?_, ?_, ?_, h.fr⟩
 ·intro q
  by_cases e : q = rpL i (l i)
  ·rw [e, updM_same, ht]; exact List.take_prefix _ _
  ·rw [updM_ne e]; exact h.pre q
 ·intro j
  rcases two_of i j with rfl | rfl
  ·rw [a1, e1, hb, hx]; exact h.snd _
  ·rw [a2]; exact h.snd _
 ·intro j
  rcases two_of i j with rfl | rfl
  ·rw [a1, e2, h5, updM_same, ht]; exact ⟨hlt, rfl⟩
  ·rw [a2, updM_ne hne]; exact h.rcv _
 ·intro j
  rcases two_of i j with rfl | rfl
  ·rw [a1, hu]; intro e; cases e
  ·rw [a2]; exact h.dn _
 ·intro j q hq hs
  rcases two_of i j with rfl | rfl
  ·rw [a1, h1, h2, h3, h4]; exact h.fs _ q hq hs
  ·rw [a2]; exact h.fs _ q hq hs
 ·intro j q hq hs
  by_cases e : q = rpL i (l i)
  ·rcases two_of i j with rfl | rfl
   ·rw [a1, h1, h2, h3, h4, e]; simp only [rpL]; unfold Lx4; omega
   ·rw [e] at hq; simp only [rpL, side_not] at hq; rw [notnot] at hq; exact (side_ne i hq).elim
  ·rw [updM_ne e] at hs
   rcases two_of i j with rfl | rfl
   ·rw [a1, h1, h2, h3, h4]; exact h.ft _ q hq hs
   ·rw [a2]; exact h.ft _ q hq hs
/-- a body is sent -/
theorem InvO.push (h : InvO l way sent told) (i : Bool) {s : LS} {b : List UInt8} (h1 : s.si = (l i).si) (h2 : s.conn = (l i).conn) (h3 : s.inc = (l i).inc) (h4 : s.known = (l i).known) (h5 : s.got = (l i).got)
  (hb : s.base = (l i).base) (hx : s.box = (l i).box ++ [b]) (hu : s.up = true) : InvO (atB l i s) way (updM sent (prL i s) (sent (prL i s) ++ [b])) told := by
 have a1 : atB l i s i = s := atB_same l i s; have a2 : atB l i s (!i) = l (!i) := atB_not l i s; have e1 : prL i s = prL i (l i) := by unfold prL; rw [h1, h2, h3, h4]
 have e2 : rpL i s = rpL i (l i) := by unfold rpL; rw [h1, h2, h3, h4]
 rw [e1]; have n1 : rpL i (l i) ≠ prL i (l i) := fun e => by
  have := congrArg (fun p : Pr => p.1) e
  simp only [rpL, prL, side_not] at this; exact side_ne i this
 have n2 : prL (!i) (l (!i)) ≠ prL i (l i) := fun e => by
  have := congrArg (fun p : Pr => p.1) e
  simp only [prL] at this; exact side_ne i this
 have grow : ∀ q, ∃ y, updM sent (prL i (l i)) (sent (prL i (l i)) ++ [b]) q = sent q ++ y := fun q => by
  by_cases e : q = prL i (l i)
  ·rw [e, updM_same]; exact ⟨_, rfl⟩
  ·rw [updM_ne e]; exact ⟨[], by simp⟩
 refine ⟨?_, ?_, ?_, ?_, ?_, ?_, ?_⟩
 ·intro q; obtain ⟨y, hy⟩ := grow q; rw [hy]; exact (h.pre q).trans (List.prefix_append _ _)
 ·intro j
  rcases two_of i j with rfl | rfl
  ·obtain ⟨g1, g2⟩ := h.snd j; rw [a1, e1, updM_same, hb, hx]; refine ⟨by rw [List.length_append]; omega, ?_⟩; rw [List.drop_append_of_le_length g1, g2]
  ·rw [a2, updM_ne n2]; exact h.snd _
 ·intro j
  rcases two_of i j with rfl | rfl
  ·rw [a1, e2, h5, updM_ne n1]; exact h.rcv _
  ·obtain ⟨g1, g2⟩ := h.rcv (!i); obtain ⟨y, hy⟩ := grow (rpL (!i) (l (!i))); rw [a2, hy]; refine ⟨by rw [List.length_append]; omega, ?_⟩; rw [List.take_append_of_le_length g1]; exact g2
 ·intro j
  rcases two_of i j with rfl | rfl
  ·rw [a1, hu]; intro e; cases e
  ·rw [a2]; exact h.dn _
 ·intro j q hq hs
  by_cases e : q = prL i (l i)
  ·rcases two_of i j with rfl | rfl
   ·rw [a1, h1, h2, h3, h4, e]; simp only [prL]; unfold Lx4; omega
   ·rw [e] at hq; simp only [prL] at hq; exact (side_ne i hq.symm).elim
  ·rw [updM_ne e] at hs
   rcases two_of i j with rfl | rfl
   ·rw [a1, h1, h2, h3, h4]; exact h.fs _ q hq hs
   ·rw [a2]; exact h.fs _ q hq hs
 ·intro j q hq hs
  rcases two_of i j with rfl | rfl
  ·rw [a1, h1, h2, h3, h4]; exact h.ft _ q hq hs
  ·rw [a2]; exact h.ft _ q hq hs
 ·intro j f hf hk; have := h.fr j f hf hk
  by_cases e : frq j f = prL i (l i)
  ·rw [e, updM_same, ← e]; exact this.more b
  ·rw [updM_ne e]; exact this
/-- frames go, frames are lost -/
theorem InvO.ways (h : InvO l way sent told) {way' : Bool → List Fr} (hw : ∀ i, ∀ f ∈ way' (!i), f ∈ way (!i) ∨ (f.kind = 2 → Snt (sent (frq i f)) f)) : InvO l way' sent told :=
 ⟨h.pre, h.snd, h.rcv, h.dn, h.fs, h.ft, fun i f hf hk => (hw i f hf).elim (fun h2 => h.fr i f h2 hk) (fun h2 => h2 hk)⟩
theorem InvO.go (h : InvO l way sent told) (i : Bool) {F : List Fr} (hF : ∀ f ∈ F, f.kind = 2 → Snt (sent (frq i f)) f) : InvO l (atB way (!i) (way (!i) ++ F)) sent told := by
 refine h.ways fun j f hf => ?_
 rcases two_of i j with rfl | rfl
 ·rw [atB_same] at hf; exact (List.mem_append.1 hf).imp id (hF f)
 ·rw [notnot] at hf ⊢; have e : atB way (!i) (way (!i) ++ F) i = way i := by unfold atB; rw [if_neg (fun e => not_ne i e.symm)]
  rw [e] at hf; exact .inl hf
end
theorem tellE_app (q : Pr) : ∀ (A B : List Ev) (t : Pr → List (List UInt8)), tellE t q (A ++ B) = tellE (tellE t q A) q B
 | [], B, t => rfl
 | e :: A, B, t => tellE_app q A B _
theorem tellE_no (q : Pr) : ∀ (E : List Ev) (t : Pr → List (List UInt8)), (∀ e ∈ E, e.kind ≠ 3) → tellE t q E = t
 | [], t, _ => rfl
 | e :: E, t, h => by
  unfold tellE; rw [if_neg (h e (by simp))]; exact tellE_no q E t fun x hx => h x (by simp [hx])
/-- what is due stands among what was sent -/
theorem due_snt {s : LS} {S : List (List UInt8)} (h : S.drop s.base = s.box) : ∀ x ∈ s.due, 1 ≤ x.1 ∧ S[x.1 - 1]? = some x.2 := by
 intro x hx; unfold LS.due items at hx; obtain ⟨k, hk, rfl⟩ := List.mem_mapIdx.1 hx; refine ⟨by simp only; omega, ?_⟩; have hd : ∀ y, (dueL s.base s.box)[k]? = some y → s.box[k]? = some y := by
  intro y hy; unfold dueL at hy; split at hy
  ·rw [List.getElem?_take] at hy; split at hy
   ·exact hy
   ·cases hy
  ·simp at hy
 have := hd _ (List.getElem?_eq_getElem hk)
 generalize (dueL s.base s.box)[k] = y at this; rw [← h, List.getElem?_drop] at this; simp only; rw [show s.base + 1 + k - 1 = s.base + k by omega]; exact this
theorem data_snt {s : LS} {S : List (List UInt8)} (h : S.drop s.base = s.box) : ∀ f ∈ s.due.map s.data, Snt S f := by
 intro f hf; obtain ⟨x, hx, rfl⟩ := List.mem_map.1 hf; exact due_snt h x hx
theorem ofL_frq {s : LS} {f : Fr} (i : Bool) (h : OfL s f) : frq i f = prL i s := by
 obtain ⟨h1, h2, h3, h4⟩ := h; unfold frq prL; rw [h1, h2, h3, h4]
def TW.Ord (T : TW) : Prop := InvO T.l T.way T.sent T.told
theorem ord_start : TW.start.Ord := ⟨fun q => List.prefix_refl _, fun i => ⟨Nat.zero_le _, rfl⟩, fun i => ⟨Nat.zero_le _, rfl⟩, fun i _ => ⟨rfl, rfl, rfl⟩, fun i q _ h => (h rfl).elim, fun i q _ h => (h rfl).elim, fun i f hf => by simp [TW.start] at hf⟩
theorem atB_twice {α : Type} (f : Bool → α) (i : Bool) (x y : α) : atB (atB f i x) i y = atB f i y := by
 funext j; unfold atB; split <;> rfl
theorem atB_id {α : Type} (f : Bool → α) (i : Bool) : atB f i (f i) = f := by
 funext j; unfold atB; split
 ·rename_i e; rw [e]
 ·rfl
theorem ord_tick {T : TW} (h : T.Ord) (i : Bool) : (T.tick i).Ord := by
 have hE : ∀ e ∈ (T.l i).tickE (T.now i), e.kind ≠ 3 := by
  intro e he; unfold LS.tickE at he; split at he
  ·rw [List.mem_singleton.1 he]; simp [LS.ev]
  ·simp at he
 -- the first half
 have h1 : InvO (atB T.l i ((T.l i).tick1 (T.now i))) T.way T.sent T.told := by
  unfold LS.tick1; split
  ·exact h.reset i (by unfold Lt4; simp [LS.down]) rfl rfl rfl
  ·rw [atB_id]; exact h
 have e1 : atB T.l i ((T.l i).tick1 (T.now i)) i = (T.l i).tick1 (T.now i) := atB_same _ _ _; have h2 : InvO (atB T.l i ((T.l i).tick (T.now i))) T.way T.sent T.told := by
  have := h1.same i (s := (T.l i).tick (T.now i)) (by rw [e1]; unfold LS.tick; simp only; split <;> rfl) (by rw [e1]; unfold LS.tick; simp only; split <;> rfl) (by rw [e1]; unfold LS.tick; simp only; split <;> rfl) (by rw [e1]; unfold LS.tick; simp only; split <;> rfl) (by rw [e1]; unfold LS.tick; simp only; split <;> rfl)
   (by rw [e1]; unfold LS.tick; simp only; split <;> exact fun S a b => ⟨a, b⟩) (by
    have hd := h1.dn i; rw [e1] at hd; unfold LS.tick; simp only; split <;> exact hd)
  rw [atB_twice] at this; exact this
 have hw := h2.go i (F := (T.l i).tickF (T.now i)) (by
  intro f hf hk; have hq := ofL_frq i (ofL_tickF _ _ f hf); have hs := (h2.snd i); rw [atB_same] at hs; rw [hq]; unfold LS.tickF at hf; simp only at hf
  rcases List.mem_cons.1 hf with rfl | hf
  ·simp [LS.hello] at hk
  ·split at hf
   ·have hs2 := (h1.snd i).2; rw [e1] at hs2; have e3 : prL i ((T.l i).tick (T.now i)) = prL i ((T.l i).tick1 (T.now i)) := by
     unfold LS.tick; simp only; split <;> rfl
    rw [e3]; exact data_snt hs2 f hf
   ·simp at hf)
 unfold TW.Ord TW.tick TW.ans; simp only; rw [tellE_no _ _ _ hE]; exact hw
theorem ord_life {T : TW} (h : T.Ord) (i : Bool) : (T.life i).Ord := InvO.reset h i (by unfold Lt4; simp [newLk]) rfl rfl rfl
theorem ord_trim {T : TW} (h : T.Ord) : T.trim.Ord := InvO.ways h fun i f hf => .inl (mem_trim hf)
theorem ord_later {T : TW} (h : T.Ord) (i : Bool) (q : Nat) : (T.later i q).Ord := h
theorem ord_lose {T : TW} (h : T.Ord) (i : Bool) (j : Nat) : ({ T with way := atB T.way i ((T.way i).eraseIdx j) } : TW).Ord :=
 InvO.ways h fun k f hf => .inl (by
  revert hf; show f ∈ atB T.way i ((T.way i).eraseIdx j) (!k) → f ∈ T.way (!k); unfold atB; split
  ·rename_i e; rw [e]; exact fun hf => List.mem_of_mem_eraseIdx hf
  ·exact fun hf => hf)
theorem ord_send {T : TW} (h : T.Ord) (i : Bool) : (T.send i).Ord := by
 obtain ⟨e1, _, e3, _, e5⟩ := send_l T i; have hw : (T.send i).way = atB T.way (!i) (T.way (!i) ++ (T.l i).sendF (bodyN T.n i)) := by cases i <;> first | exact send_way0 | exact send_way1
 unfold TW.Ord; rw [e1, e3, e5, hw]; obtain ⟨u1, _, u3, _, u5, u6, u7⟩ := send_up (s := T.l i) (now := T.now i) (b := bodyN T.n i)
 by_cases he : (T.l i).sendE (bodyN T.n i) = 0
 ·rw [if_pos he]; have hup : (T.l i).up = true := by
   unfold LS.sendE at he; split at he
   ·assumption
   ·simp at he
  have hbox : ((T.l i).send (T.now i) (bodyN T.n i)).box = (T.l i).box ++ [bodyN T.n i] := by unfold LS.send; rw [if_pos he]
  have hbase : ((T.l i).send (T.now i) (bodyN T.n i)).base = (T.l i).base := by unfold LS.send; rw [if_pos he]
  have hgot : ((T.l i).send (T.now i) (bodyN T.n i)).got = (T.l i).got := by unfold LS.send; rw [if_pos he]
  have hp : prL i ((T.l i).send (T.now i) (bodyN T.n i)) = T.pr i := by unfold prL TW.pr; rw [u3, u5, u6, u7]
  have h1 := InvO.push h i (s := (T.l i).send (T.now i) (bodyN T.n i)) (b := bodyN T.n i) u3 u5 u6 u7 hgot hbase hbox (by rw [u1]; exact hup); rw [hp] at h1; refine h1.go i fun f hf hk => ?_
  rw [ofL_frq i (ofL_sendF (T.l i) (T.now i) _ f hf), hp, updM_same]; unfold LS.sendF at hf; split at hf
  ·rw [List.mem_singleton.1 hf]; obtain ⟨g1, g2⟩ := h.snd i; have hl : (T.sent (T.pr i)).length = (T.l i).base + (T.l i).box.length := by
    have := congrArg List.length g2
    rw [List.length_drop] at this; have e : T.pr i = prL i (T.l i) := rfl; rw [e]; omega
   refine ⟨by simp only [LS.data]; omega, ?_⟩; simp only [LS.data]; rw [show (T.l i).base + ((T.l i).box.length + 1) - 1 = (T.sent (T.pr i)).length by omega]; simp
  ·simp at hf
 ·rw [if_neg he]; have hF : (T.l i).sendF (bodyN T.n i) = [] := by unfold LS.sendF; rw [if_neg (fun e => he e.1)]
  have hs : (T.l i).send (T.now i) (bodyN T.n i) = T.l i := by unfold LS.send; rw [if_neg he]
  rw [hF, hs, atB_id, List.append_nil, atB_id]; exact h
theorem ord_take {T : TW} (h : T.Ord) (i : Bool) {f : Fr} (hf : f.kind = 2 → Snt (T.sent (frq (!i) f)) f) : (T.take i f).Ord := by
 unfold TW.Ord TW.take TW.ans; simp only
 by_cases hl : (T.l i).looks f = true
 ·-- it turns to another connection, or not
  have h1 : InvO (atB T.l i ((T.l i).turn f)) T.way T.sent T.told := by
   unfold LS.turn; split
   ·rename_i ho
    refine h.reset i ?_ rfl rfl rfl; simp only [LS.looks, Bool.and_eq_true, Bool.not_eq_true', Bool.or_eq_false_iff, decide_eq_false_iff_not, Bool.and_eq_false_iff] at hl; simp only [LS.other, Bool.or_eq_true, decide_eq_true_eq] at ho; show Lt4 (T.l i).si (T.l i).conn (T.l i).inc (T.l i).known (T.l i).si (T.l i).conn f.inc f.conn; unfold Lt4; omega
   ·rw [atB_id]; exact h
  have e1 : atB T.l i ((T.l i).turn f) i = (T.l i).turn f := atB_same _ _ _; have h2 : InvO (atB T.l i ((T.l i).take1 (T.now i) f)) T.way T.sent T.told := by
   have hd := h1.dn i; rw [e1] at hd; have := h1.same i (s := (T.l i).take1 (T.now i) f) (by rw [e1]; rfl) (by rw [e1]; rfl) (by rw [e1]; rfl) (by rw [e1]; rfl) (by rw [e1]; rfl) (by rw [e1]; exact fun S a b => ⟨a, b⟩) hd; rw [atB_twice] at this; exact this
  have hT1 : ∀ e ∈ (T.l i).take1E f, e.kind ≠ 3 := by
   intro e he; unfold LS.take1E at he; split at he
   ·rw [List.mem_singleton.1 he]; simp [LS.ev]
   ·simp at he
  have et : (T.l i).take (T.now i) f = (if ((T.l i).take1 (T.now i) f).knows f then ((T.l i).take1 (T.now i) f).take5 (T.now i) f else (T.l i).take1 (T.now i) f) := by unfold LS.take; rw [if_pos hl]
  have eF : (T.l i).takeF (T.now i) f = (if ((T.l i).take1 (T.now i) f).knows f then ((T.l i).take1 (T.now i) f).take5F f else [((T.l i).take1 (T.now i) f).hello]) := by unfold LS.takeF; rw [if_pos hl]
  have eE : (T.l i).takeE (T.now i) f = (T.l i).take1E f ++ (if ((T.l i).take1 (T.now i) f).knows f then ((T.l i).take1 (T.now i) f).take2E ++ (((T.l i).take1 (T.now i) f).take3 f).take4E f else []) := by unfold LS.takeE; rw [if_pos hl]
  rw [et, eF, eE]
  -- what it knows of the other one is the frame's
  have hinc : ((T.l i).take1 (T.now i) f).inc = f.inc ∧ ((T.l i).take1 (T.now i) f).known = f.conn := by
   unfold LS.take1 LS.turn; split
   ·exact ⟨rfl, rfl⟩
   ·rename_i ho
    simp only [LS.other, Bool.or_eq_true, decide_eq_true_eq, not_or, Decidable.not_not] at ho; exact ⟨ho.1.symm, ho.2.symm⟩
  obtain ⟨t, Ht⟩ : ∃ t, (T.l i).take1 (T.now i) f = t := ⟨_, rfl⟩; rw [Ht] at h2 hinc ⊢
  by_cases hk : t.knows f = true
  ·rw [if_pos hk, if_pos hk, if_pos hk]; have e2 : atB T.l i t i = t := atB_same _ _ _
   -- acknowledged
   have h3 : InvO (atB T.l i (t.take3 f)) T.way T.sent T.told := by
    have := h2.same i (s := t.take3 f) (by rw [e2]; rfl) (by rw [e2]; rfl) (by rw [e2]; rfl) (by rw [e2]; rfl) (by rw [e2]; rfl) (by
     rw [e2]; intro S a b; show ackV t.base t.box f.ack ≤ S.length ∧ S.drop (ackV t.base t.box f.ack) = ackL t.base t.box f.ack
     by_cases ha : ackB t.base t.box f.ack = true
     ·obtain ⟨k1, k2⟩ := ack_yes ha; simp only [ackB, Bool.and_eq_true, decide_eq_true_eq] at ha; have hbl := congrArg List.length b; rw [List.length_drop] at hbl; rw [k1, k2, ← b, List.drop_drop]; exact ⟨by omega, by rw [show t.base + (f.ack - t.base) = f.ack by omega]⟩
     ·simp only [Bool.not_eq_true] at ha; obtain ⟨k1, k2⟩ := ack_no ha; rw [k1, k2]; exact ⟨a, b⟩) (by intro e; simp [LS.take3] at e)
    rw [atB_twice] at this; exact this
   have e3 : atB T.l i (t.take3 f) i = t.take3 f := atB_same _ _ _; have hrp : rpL i (t.take3 f) = frq (!i) f := by
    simp only [LS.knows, Bool.and_eq_true, decide_eq_true_eq] at hk; unfold rpL frq; rw [side_not, hk.1, hk.2]; show (side (!i), t.inc, t.known, t.si, t.conn) = _; rw [hinc.1, hinc.2]
   -- taken
   have hT2 : ∀ e ∈ t.take2E, e.kind ≠ 3 := by
    intro e he; unfold LS.take2E at he; split at he
    ·simp at he
    ·rw [List.mem_singleton.1 he]; simp [LS.ev]
   have h4 : InvO (atB T.l i ((t.take3 f).take4 f)) T.way T.sent (tellE T.told (rpL i ((t.take3 f).take4 f)) ((T.l i).take1E f ++ (t.take2E ++ (t.take3 f).take4E f))) := by
    rw [tellE_app, tellE_no _ _ _ hT1, tellE_app, tellE_no _ _ _ hT2]
    by_cases hta : (t.take3 f).taken f = true
    ·have e5 : (t.take3 f).take4 f = { t.take3 f with got := f.seq } := by unfold LS.take4; rw [if_pos hta]
     have e6 : (t.take3 f).take4E f = [(t.take3 f).ev 3 f.body] := by unfold LS.take4E; rw [if_pos hta]
     rw [e5, e6]; simp only [LS.taken, takeB, Bool.and_eq_true, decide_eq_true_eq] at hta; obtain ⟨hk2, _, hsq⟩ := hta; have hsn := hf hk2; rw [← hrp] at hsn; have := h3.tell i (s := { t.take3 f with got := f.seq }) (b := f.body) (by rw [e3]) (by rw [e3]) (by rw [e3]) (by rw [e3]) (by rw [e3]; exact hsq) (by rw [e3]) (by rw [e3]) rfl (by
      rw [e3]; have h9 := hsn.2; rw [hsq] at h9; exact h9)
     rw [atB_twice] at this; exact this
    ·simp only [Bool.not_eq_true] at hta; have e5 : (t.take3 f).take4 f = t.take3 f := by unfold LS.take4; rw [if_neg (by rw [hta]; simp)]
     have e6 : (t.take3 f).take4E f = [] := by unfold LS.take4E; rw [if_neg (by rw [hta]; simp)]
     rw [e5, e6]; exact h3
   obtain ⟨u, Hu⟩ : ∃ u, (t.take3 f).take4 f = u := ⟨_, rfl⟩; have h5e : (t.take5 (T.now i) f) = u ∨ (t.take5 (T.now i) f) = { u with sent := T.now i } := by
    unfold LS.take5; simp only; rw [Hu]; split
    ·exact .inl rfl
    ·exact .inr rfl
   have hrp5 : rpL i (t.take5 (T.now i) f) = rpL i u := by rcases h5e with e | e <;> rw [e] <;> rfl
   have hpr5 : prL i (t.take5 (T.now i) f) = prL i u := by rcases h5e with e | e <;> rw [e] <;> rfl
   rw [Hu] at h4; have e4 : atB T.l i u i = u := atB_same _ _ _; have hT : TW.rp { T with l := atB T.l i (t.take5 (T.now i) f) } i = rpL i u := by
    rw [← hrp5]; unfold TW.rp rpL; simp only [atB_same]
   rw [hT]; have h5 : InvO (atB T.l i (t.take5 (T.now i) f)) T.way T.sent (tellE T.told (rpL i u) ((T.l i).take1E f ++ (t.take2E ++ (t.take3 f).take4E f))) := by
    have hd := h4.dn i; rw [e4] at hd; have := h4.same i (s := t.take5 (T.now i) f) (by rw [e4]; rcases h5e with e | e <;> rw [e]) (by rw [e4]; rcases h5e with e | e <;> rw [e]) (by rw [e4]; rcases h5e with e | e <;> rw [e]) (by rw [e4]; rcases h5e with e | e <;> rw [e]) (by rw [e4]; rcases h5e with e | e <;> rw [e])
     (by rw [e4]; rcases h5e with e | e <;> rw [e] <;> exact fun S a b => ⟨a, b⟩) (by rcases h5e with e | e <;> rw [e] <;> exact hd)
    rw [atB_twice] at this; exact this
   refine h5.go i fun x hx hk2 => ?_
   have hsn := (h4.snd i).2; rw [e4] at hsn; have hof : OfL u x := by
    unfold LS.take5F at hx; simp only at hx; rw [Hu] at hx
    rcases List.mem_append.1 hx with hx | hx
    ·split at hx
     ·simp at hx
     ·obtain ⟨y, _, rfl⟩ := List.mem_map.1 hx; exact ofL_data _ y
    ·split at hx
     ·rw [List.mem_singleton.1 hx]; exact ofL_hello _
     ·simp at hx
   rw [ofL_frq i hof]; unfold LS.take5F at hx; simp only at hx; rw [Hu] at hx
   rcases List.mem_append.1 hx with hx | hx
   ·split at hx
    ·simp at hx
    ·obtain ⟨y, hy, rfl⟩ := List.mem_map.1 hx; exact due_snt hsn y (List.mem_filter.1 hy).1
   ·split at hx
    ·rw [List.mem_singleton.1 hx] at hk2; simp [LS.hello] at hk2
    ·simp at hx
  ·rw [if_neg hk, if_neg hk, if_neg hk, List.append_nil, tellE_no _ _ _ hT1]; refine h2.go i fun x hx hk2 => ?_
   rw [List.mem_singleton.1 hx] at hk2; simp [LS.hello] at hk2
 ·have e1 : (T.l i).take (T.now i) f = T.l i := by unfold LS.take; rw [if_neg hl]
  have e2 : (T.l i).takeF (T.now i) f = [] := by unfold LS.takeF; rw [if_neg hl]
  have e3 : (T.l i).takeE (T.now i) f = [] := by unfold LS.takeE; rw [if_neg hl]
  rw [e1, e2, e3, atB_id, List.append_nil, atB_id]; exact h
theorem ord_act {T : TW} (h : T.Ord) (d : Int) (i : Bool) (k : Nat) : (T.act d i k).Ord := by
 unfold TW.act; split
 ·exact ord_trim (ord_tick (ord_later h i (k % 4)) i)
 split
 ·exact ord_trim (ord_send h i)
 split
 ·split
  ·exact h
  ·rename_i f0 l hw
   simp only; have hT1 : (if d = 3 then T else { T with way := atB T.way i ((f0 :: l).eraseIdx (k % (l.length + 1))) } : TW).Ord := by
    split
    ·exact h
    ·rw [← hw]; exact ord_lose h i _
   have hj : k % (l.length + 1) < (f0 :: l).length := by rw [List.length_cons]; exact Nat.mod_lt _ (Nat.succ_pos _)
   have hm : (f0 :: l).getD (k % (l.length + 1)) f0 ∈ T.way i := by
    rw [hw, List.getD_eq_getElem?_getD, List.getElem?_eq_getElem hj]; exact List.getElem_mem hj
   have hf := h.fr (!i) _ (by rw [notnot]; exact hm); split
   ·exact ord_trim hT1
   ·refine ord_trim (ord_take hT1 i ?_); split
    ·exact hf
    ·exact hf
 split
 ·exact ord_trim (ord_life h i)
 ·exact ord_trim h
end Go.Proofs.Ytngegjboenfmeaa
/- Whether the bodies that are told are the first ones that were sent: a range over one map, with look-ups in the other. -/
namespace Go.Proofs.Ytngegjboenfmeaa
open Go Go.RowKit Go.MapKept Go.ChangeMaps
open Go.WideMaps (KeyLaw)
set_option linter.unusedVariables false
set_option maxRecDepth 100000
set_option linter.unusedSimpArgs false

theorem setB_same (w : World) (b : Nat) (o : Obj) (h : b < w.heap.size) : (setBlock w b o).heap[b]? = some o := by
 show (w.heap.setIfInBounds b o)[b]? = _; rw [Array.getElem?_setIfInBounds, if_pos rfl, if_pos h]
theorem setB_other (w : World) (b : Nat) (o : Obj) {k : Nat} (h : k ≠ b) : (setBlock w b o).heap[k]? = w.heap[k]? := by
 show (w.heap.setIfInBounds b o)[k]? = _; rw [Array.getElem?_setIfInBounds, if_neg (fun e => h e.symm)]
/-- how many entries are still to come -/
def itLeft (es : Array MapEntry) (r : Nat) (w : World) : Nat := match w.heap[r]? with | some (.mapIter _ _ seen _) => (leftOf es seen).size | _ => 0
theorem itLeft_at {es : Array MapEntry} {r : Nat} {w : World} {a b c : _} {seen : Array Nat} (h : w.heap[r]? = some (.mapIter a b seen c)) : itLeft es r w = (leftOf es seen).size := by unfold itLeft; rw [h]
/-- a look-up, in whatever world the map is as it was -/
theorem map_lookupK {w : World} {F : Nat → Prop} {b : Nat} {m : Pr → List (List UInt8)} {q : Pr} (hq : prOk q) (h : MapT b m w F) :
  ∃ u, StrR w u (m q) ∧ (∀ k, u.ownBlock = some k → F k) ∧ ∀ W : World, (∀ k, F k → W.heap[k]? = w.heap[k]?) → (Instr.lookup 32 (.map (some b)) (prV q) false).run Try.prog W = .ok u W := by
 obtain ⟨es, clock, h1, h2, h3, h4⟩ := h; obtain ⟨kl, hkl⟩ := prKey hq
 rcases prLaw.find w hkl es.toList (keys_of h1) with ⟨g1, g2⟩ | ⟨j, e0, g1, g2, g3⟩
 ·refine ⟨.slice none 0 0, by rw [h4 q g2]; exact strR_nil _, fun k hk => by simp [Value.ownBlock] at hk, fun W hW => ?_⟩; have h1' := h1.keep hW; have g1' : _ := g1
  rcases prLaw.find W hkl es.toList (keys_of h1) with ⟨f1, f2⟩ | ⟨j, e0, f1, f2, f3⟩
  ·simp [Instr.lookup, run_underlying pairUnder, MapKept.run_getObj_map h1'.hp, prLaw.check W _ hkl, f1, zeroStrs, Result.andThen]
  ·exact (g2 e0 (List.mem_of_getElem? f2) f3).elim
 ·have hm : e0 ∈ es.toList := List.mem_of_getElem? g2; obtain ⟨a1, a2⟩ := h2 e0 hm q g3; refine ⟨e0.val, a1, fun k hk => (a2 k hk).1, fun W hW => ?_⟩; have h1' := h1.keep hW
  rcases prLaw.find W hkl es.toList (keys_of h1) with ⟨f1, f2⟩ | ⟨j', e1, f1, f2, f3⟩
  ·exact (f2 e0 hm g3).elim
  ·have hm1 : e1 ∈ es.toList := List.mem_of_getElem? f2; have he : e1 = e0 := by
    have hnd := ((stamped_iff es clock).1 h1.st).2.2; exact entry_eq_of_key hnd hm1 hm (f3.trans g3.symm)
   subst he; simp [Instr.lookup, run_underlying pairUnder, MapKept.run_getObj_map h1'.hp, prLaw.check W _ hkl, f1, Result.andThen]
theorem strR_form {w : World} {v : Value} {L : List (List UInt8)} (h : StrR w v L) : ∃ A c, v = .slice A L.length c ∧ L.length ≤ c ∧ c ≤ maxLen ∧ Has w w.heap.size A (strsV L) := ownO_form (ownO_of h)
theorem strsV_at {L : List (List UInt8)} {k : Nat} {y : List UInt8} (h : L[k]? = some y) : (strsV L)[k]? = some (.string ⟨y.toArray⟩) := by
 unfold strsV; rw [List.getElem?_map, h]; rfl
set_option maxHeartbeats 3200000 in
theorem right_core (w : World) (g bs bt : Nat) (S D : Pr → List (List UInt8)) (Fs Ft : Nat → Prop) (h8 : w.cell? ⟨g, 8, none⟩ = some (.map (some bs))) (h9 : w.cell? ⟨g, 9, none⟩ = some (.map (some bt))) (h11 : w.cell? ⟨g, 11, none⟩ = some (.bool false))
  (hg : g < w.heap.size) (hS : MapT bs S w Fs) (hT : MapT bt D w Ft) (hpre : ∀ q, D q <+: S q) (hlen : ∀ q, (D q).length ≤ 1000000000) :
  Calls Try.prog 11 #[.pointer (some ⟨g, 0, none⟩)] w fun e w' => e = .returned (.bool true) ∧ Below w.heap.size w w' := by
 obtain ⟨es, clock, k1, k2, k3, k4⟩ := hT; have hrange := run_range_map w 32 81 84 bt es clock pairUnder k1.hp; have hrs := lt_of_heap k1.hp; have HS := Lib.hid hS; have K1 := Lib.hid k1; have K2 := Lib.hid k2; have HP := Lib.hid hpre; have H8 := Lib.hid h8; have H11 := Lib.hid h11; clear hS k1 k2 k3 k4 hpre; go_enter Try.func11, Try.ntmps11
 go_wp2_with fail
 go_loopw [] (fun wr => ∃ (seen : Array Nat), Hid (Below w.heap.size w wr) ∧ Hid (wr.heap[w.heap.size]? = some (.mapIter (some bt) clock seen clock))) (fun wr => itLeft es w.heap.size wr)
 case atStart => exact ⟨#[], Lib.hid ((Below.refl _ _).alloc (Nat.le_refl _) _), Lib.hid (heap_alloc_new _ _)⟩
 case round =>
  obtain ⟨seen, HB, HR⟩ := hrel; clear h8 h9 h11 hrange; have h8 : wr.cell? ⟨g, 8, none⟩ = some (.map (some bs)) := (show _ = _ from HB.out.cell (show (⟨g, 8, none⟩ : Addr).block < w.heap.size from hg)).trans H8.out; have h11 : wr.cell? ⟨g, 11, none⟩ = some (.bool false) := (show _ = _ from HB.out.cell (show (⟨g, 11, none⟩ : Addr).block < w.heap.size from hg)).trans H11.out
  rcases run_next_at (P := Try.prog) wr 0 w.heap.size bt clock clock seen es clock HR.out ((HB.out.block _ hrs).trans K1.out.hp) K1.out.st.1 (Nat.le_refl _) with ⟨h0, hnext⟩ | ⟨e, he, w1, hw1, hnext⟩
  ·go_wp2_with fail
   go_ret
   exact ⟨rfl, HB.out⟩
  ·have hes := (mem_left he).1; obtain ⟨p, hp, ek⟩ := K1.out.keys e hes; obtain ⟨hr1, hr2⟩ := K2.out e hes p ek; have hwl : w1.heap[w.heap.size]? = some (.mapIter (some bt) clock seen clock) := by rcases hw1 with rfl | rfl <;> exact HR.out
   have hb1 : Below w.heap.size w w1 := by
    rcases hw1 with rfl | rfl
    ·exact HB.out
    ·exact HB.out.drew
   have hb2 : Below w.heap.size w (setBlock w1 w.heap.size (.mapIter (some bt) clock (seen.push e.born) clock)) :=
    ⟨hb1.os, hb1.tape, hb1.output, by simpa [setBlock] using hb1.size, fun k hk => (setB_other _ _ _ (by omega)).trans (hb1.block k hk)⟩
   have hi2 : (setBlock w1 w.heap.size (.mapIter (some bt) clock (seen.push e.born) clock)).heap[w.heap.size]? = some (.mapIter (some bt) clock (seen.push e.born) clock) := setB_same _ _ _ (lt_of_heap hwl); have hent := run_entry_at (P := Try.prog) _ w.heap.size bt clock seen es clock e hi2 ((hb2.block _ hrs).trans K1.out.hp) hes K1.out.st.2.1; obtain ⟨W1, HW1⟩ : ∃ y, Hid (setBlock w1 w.heap.size (.mapIter (some bt) clock (seen.push e.born) clock) = y) := ⟨_, Lib.hid rfl⟩; rw [HW1.out] at hnext hent hb2 hi2; obtain ⟨A, c, ev, hc1, hc2, hA⟩ := strR_form hr1; rw [ek, ev, prV] at hent; rw [ek, ev, prV] at hnext; have hsh := Lib.hid (left_shrinks es seen e he); obtain ⟨u, hu1, hu2, hu3⟩ := map_lookupK hp HS.out; obtain ⟨A', c', eu, hd1, hd2, hA'⟩ := strR_form hu1; subst eu; have HB2 := Lib.hid hb2; have HI2 := Lib.hid hi2; have HA := Lib.hid hA; have HA' := Lib.hid hA'; have hFs : ∀ k, Fs k → k < w.heap.size := by
    obtain ⟨_, _, q, _⟩ := HS.out; exact q.lt
   have HLK : Hid (∀ W, Below w.heap.size w W → (Instr.lookup 32 (.map (some bs)) (.agg #[.int .i64 p.1, .int .u64 (p.2.1 : Int), .int .u64 (p.2.2.1 : Int), .int .u64 (p.2.2.2.1 : Int), .int .u64 (p.2.2.2.2 : Int)]) false).run Try.prog W = .ok (.slice A' (S p).length c') W) := Lib.hid (fun W hW => hu3 W fun k hk => hW.block k (hFs k hk)); have HPL := Lib.hid (HP.out p); have hdb : (D p).length ≤ 1000000000 := hlen p; have hle : (D p).length ≤ (S p).length := (HP.out p).length_le; obtain ⟨DL, HDL⟩ : ∃ y, Hid (D p = y) := ⟨_, Lib.hid rfl⟩; obtain ⟨SL, HSL⟩ : ∃ y, Hid (S p = y) := ⟨_, Lib.hid rfl⟩; rw [HDL.out] at hnext hent hle HPL HA hdb; rw [HSL.out] at hle HPL HA' HLK; obtain ⟨p0, p1, p2, p3, p4⟩ := p; simp only at hnext hent HLK; clear hr1 hr2 hwl hb1 hb2 hi2 hA hA' hu1 hu2 hu3 ek ev hc1 hc2 hd1 hd2 hw1 h8 h11; have HB3 := Lib.hid (HB2.out.alloc HB2.out.size (.cells #[.int .i64 p0, .int .u64 (p1 : Int), .int .u64 (p2 : Int), .int .u64 (p3 : Int), .int .u64 (p4 : Int)] 81)); have h8 := (show _ = _ from HB3.out.cell (show (⟨g, 8, none⟩ : Addr).block < w.heap.size from hg)).trans H8.out; have hl3 := HLK.out _ HB3.out; have hl4 := HLK.out _ HB3.out.drew; obtain ⟨dn, HDN⟩ : ∃ y, Hid (DL.length = y) := ⟨_, Lib.hid rfl⟩; obtain ⟨sn, HSN⟩ : ∃ y, Hid (SL.length = y) := ⟨_, Lib.hid rfl⟩; rw [HDN.out] at hnext hent hle hdb; rw [HSN.out] at hl3 hl4 hle; have egt : decide (sn < dn) = false := decide_eq_false (by omega); obtain ⟨W2, HW2⟩ : ∃ y, Hid (W1.alloc (.cells #[.int .i64 p0, .int .u64 (p1 : Int), .int .u64 (p2 : Int), .int .u64 (p3 : Int), .int .u64 (p4 : Int)] 81) = y) := ⟨_, Lib.hid rfl⟩; have HI3 : Hid (W2.drew.heap[w.heap.size]? = some (.mapIter (some bt) clock (seen.push e.born) clock)) := Lib.hid (by
    rw [← HW2.out]; exact (heap_alloc_old W1 _ (lt_of_heap HI2.out)).trans HI2.out)
   have HB4 : Hid (Below w.heap.size w W2.drew) := Lib.hid (by rw [← HW2.out]; exact HB3.out.drew)
   go_wp2_with fail
   go_region
   go_wp2_with fail
   go_loopw [6] (fun iv wr => ∃ (j : Nat), j ≤ dn ∧ iv = .int .i64 (j : Int) ∧ Hid (Below w.heap.size w wr) ∧ Hid (wr.heap[w.heap.size]? = some (.mapIter (some bt) clock (seen.push e.born) clock))) (fun iv _ => dn - (intOf iv).toNat)
   case atStart => exact ⟨0, Nat.zero_le _, rfl, Lib.hid (by rw [HW2.out]; exact HB4.out), Lib.hid (by rw [HW2.out]; exact HI3.out)⟩
   case round =>
    obtain ⟨j, hj, rfl, HB5, HI5⟩ := hrel
    by_cases hjd : j < dn
    ·have elt : decide (j < dn) = true := decide_eq_true hjd; obtain ⟨y, hy⟩ : ∃ y, DL[j]? = some y := ⟨_, List.getElem?_eq_getElem (by rw [HDN.out]; exact hjd)⟩; have hy2 : SL[j]? = some y := by
      obtain ⟨z, hz⟩ := HPL.out; rw [← hz, List.getElem?_append_left (by rw [HDN.out]; exact hjd)]; exact hy
     have hh1 : Has wr w.heap.size A (strsV DL) := HA.out.below HB5.out; have hh2 : Has wr w.heap.size A' (strsV SL) := HA'.out.below HB5.out; have c0 := strsV_at hy; have c1 := strsV_at hy2; obtain ⟨ba, oa, rfl, _, _⟩ := hh1 _ _ c0; obtain ⟨bb, ob, rfl, _, _⟩ := hh2 _ _ c1; have f0 := hK4 hh1 c0; have f1 := hK4 hh2 c1; have i0 : (0 : Int) ≤ (j : Int) := by omega
     have i1 : (j : Int) < (dn : Int) := by omega
     have i2 : (j : Int) < (sn : Int) := by omega
     clear c0 c1 hh1 hh2 hy hy2
     go_wp2_with fail
     go_region
     go_wp2_with fail
     go_roundw
     case rel => exact ⟨j + 1, by omega, by go_num, Lib.hid HB5.out.drew, HI5⟩
     case measure => simp [intOf]; omega
    ·have elt : decide (j < dn) = false := decide_eq_false hjd
     go_wp2_with fail
     go_roundw
     case rel => exact ⟨_, HB5, HI5⟩
     case measure => rw [itLeft_at HI5.out, itLeft_at HR.out]; exact hsh.out
end Go.Proofs.Ytngegjboenfmeaa
/- A link's Tick whose answer is put into a cell; what ticks without a word do to a link. -/
namespace Go.Proofs.Ytngegjboenfmeaa
open Go Go.RowKit
set_option linter.unusedVariables false
set_option linter.unusedSimpArgs false
set_option maxRecDepth 100000

def TckPre (la : Nat) (s : LS) (bx : Value) (R : List SP) : List SP := Ce la 72 (s.cells bx) :: BoxT bx s.box :: R
def TckPost (la : Nat) (s : LS) (vF vE bx' : Value) (LP : List (Fr × Value)) (LE : List (Ev × Value)) (R : List SP) : List SP :=
 Rw 51 10 vF LP.length (fR_ LP) :: Bods (fB_ LP) :: Rw 49 4 vE LE.length (eR_ LE) :: Bods (eB_ LE) :: Ce la 72 (s.cells bx') :: BoxT bx' s.box :: R
def TckSt (la : Nat) (s : LS) (now : Nat) (bx : Value) (R : List SP) (d12 d13 d14 : Bool) (x12 x13 : Value) (w0 W : World) : Prop :=
 if d14 = true then ∃ a vF vE bx' LP LE, x13 = .pointer (some ⟨a, 0, none⟩) ∧ LP.map Prod.fst = s.tickF now ∧ LE.map Prod.fst = s.tickE now ∧ Sep w0 W (Ce a 43 #[vF, vE] :: TckPost la (s.tick now) vF vE bx' LP LE R)
 else if d12 = true then ∃ vF vE bx' LP LE, x12 = .agg #[vF, vE] ∧ LP.map Prod.fst = s.tickF now ∧ LE.map Prod.fst = s.tickE now ∧
  (if d13 = true then ∃ a, x13 = .pointer (some ⟨a, 0, none⟩) ∧ Sep w0 W (Ce a 43 #[.slice none 0 0, .slice none 0 0] :: TckPost la (s.tick now) vF vE bx' LP LE R)
  else Sep w0 W (TckPost la (s.tick now) vF vE bx' LP LE R))
 else if d13 = true then ∃ a, x13 = .pointer (some ⟨a, 0, none⟩) ∧ Sep w0 W (Ce a 43 #[.slice none 0 0, .slice none 0 0] :: TckPre la s bx R)
 else Sep w0 W (TckPre la s bx R)
section
variable {la : Nat} {s : LS} {now : Nat} {bx : Value} {R : List SP} {d12 d13 d14 : Bool} {x12 x13 : Value} {w0 W W' : World}
theorem TckSt.rst (h : TckSt la s now bx R d12 d13 d14 x12 x13 w0 W) : Sep w0 W R := by
 unfold TckSt at h; split at h
 ·obtain ⟨a, vF, vE, bx', LP, LE, _, _, _, h⟩ := h; exact h.popF.popF.popF.popF.popF.popF.popF
 split at h
 ·obtain ⟨vF, vE, bx', LP, LE, _, _, _, h⟩ := h; split at h
  ·obtain ⟨a, _, h⟩ := h; exact h.popF.popF.popF.popF.popF.popF.popF
  ·exact h.popF.popF.popF.popF.popF.popF
 split at h
 ·obtain ⟨a, _, h⟩ := h; exact h.popF.popF.popF
 ·exact h.popF.popF
theorem TckSt.start (h : Sep w0 W (TckPre la s bx R)) : TckSt la s now bx R false false false x12 x13 w0 W := by
 simpa [TckSt] using h
theorem TckSt.made (h : TckSt la s now bx R d12 false false x12 x13 w0 W) :
  TckSt la s now bx R d12 true false x12 (.pointer (some ⟨W.heap.size, 0, none⟩)) w0 (W.alloc (.cells #[.slice none 0 0, .slice none 0 0] 43)) := by
 unfold TckSt at h ⊢; rw [if_neg (by simp)] at h ⊢; split at h
 ·rw [if_pos ‹_›]; obtain ⟨vF, vE, bx', LP, LE, e1, e2, e3, h⟩ := h; rw [if_neg (by simp)] at h; refine ⟨vF, vE, bx', LP, LE, e1, e2, e3, ?_⟩; rw [if_pos rfl]; exact ⟨_, rfl, sep_ceF h _ _⟩
 ·rw [if_neg ‹_›, if_pos rfl]; rw [if_neg (by simp)] at h; exact ⟨_, rfl, sep_ceF h _ _⟩
theorem TckSt.call (h : TckSt la s now bx R false d13 false x12 x13 w0 W) (hs : s.Num) (hc : s.conn + 1 < 18446744073709551616) (hn : now < 18446744073709551616) :
  Calls Try.prog 14 #[.pointer (some ⟨la, 0, none⟩), .int .u64 (now : Int)] W fun e W' => ∃ v, e = .returned v ∧ TckSt la s now bx R true d13 false v x13 w0 W' := by
 unfold TckSt at h; rw [if_neg (by simp), if_neg (by simp)] at h; cases d13 with
 | false =>
  rw [if_neg (by simp)] at h; refine (tickG h hs hc hn).mono ?_; rintro e W' ⟨vF, vE, bx', LP, LE, rfl, e1, e2, h2⟩; refine ⟨_, rfl, ?_⟩; unfold TckSt; rw [if_neg (by simp), if_pos rfl]; refine ⟨vF, vE, bx', LP, LE, rfl, e1, e2, ?_⟩; rw [if_neg (by simp)]; exact h2
 | true =>
  rw [if_pos rfl] at h; obtain ⟨a, e0, h⟩ := h; have h1 : Sep w0 W (Ce la 72 (s.cells bx) :: BoxT bx s.box :: Ce a 43 #[.slice none 0 0, .slice none 0 0] :: R) := (h.tF 2 rfl).tF 2 rfl; refine (tickG h1 hs hc hn).mono ?_; rintro e W' ⟨vF, vE, bx', LP, LE, rfl, e1, e2, h2⟩; refine ⟨_, rfl, ?_⟩; unfold TckSt; rw [if_neg (by simp), if_pos rfl]; refine ⟨vF, vE, bx', LP, LE, rfl, e1, e2, ?_⟩; rw [if_pos rfl]; exact ⟨a, e0, h2.tF 6 rfl⟩
theorem TckSt.stored (h : TckSt la s now bx R true true false x12 x13 w0 W) :
  ∃ a Af kf cf Ae ke ce, x13 = .pointer (some ⟨a, 0, none⟩) ∧ x12 = .agg #[.slice Af kf cf, .slice Ae ke ce] ∧ W.frozen? ⟨a, 0, none⟩ = false ∧ W.frozen? ⟨a, 1, none⟩ = false ∧ W.cell? ⟨a, 0, none⟩ = some (.slice none 0 0) ∧ W.cell? ⟨a, 1, none⟩ = some (.slice none 0 0) ∧
   TckSt la s now bx R true true true x12 x13 w0 ((W.setCell ⟨a, 0, none⟩ (.slice Af kf cf)).setCell ⟨a, 1, none⟩ (.slice Ae ke ce)) := by
 unfold TckSt at h; rw [if_neg (by simp), if_pos rfl] at h; obtain ⟨vF, vE, bx', LP, LE, e1, e2, e3, h⟩ := h; rw [if_pos rfl] at h; obtain ⟨a, e5, h⟩ := h; obtain ⟨Af, cf, rfl, _⟩ := sep_rwForm (i := 1) h rfl; obtain ⟨Ae, ce, rfl, _⟩ := sep_rwForm (i := 3) h rfl; refine ⟨a, Af, _, cf, Ae, _, ce, e5, e1, cFz (i := 0) h rfl 0, cFz (i := 0) h rfl 1, cA (i := 0) h rfl 0 rfl, cA (i := 0) h rfl 1 rfl, ?_⟩; unfold TckSt; rw [if_pos rfl]; exact ⟨a, _, _, bx', LP, LE, e5, e2, e3, cS (i := 0) (cS (i := 0) h rfl 0 (.slice Af LP.length cf)) rfl 1 (.slice Ae LE.length ce)⟩
theorem TckSt.done (h : TckSt la s now bx R d12 d13 true x12 x13 w0 W) :
  ∃ a vF vE bx' LP LE, x13 = .pointer (some ⟨a, 0, none⟩) ∧ LP.map Prod.fst = s.tickF now ∧ LE.map Prod.fst = s.tickE now ∧ Sep w0 W (Ce a 43 #[vF, vE] :: TckPost la (s.tick now) vF vE bx' LP LE R) := by
 unfold TckSt at h
 rwa [if_pos rfl] at h
end
/-- how a link stands k ticks behind s, if it heard nothing, dn being how often it told that it is down -/
def TkI (s : LS) (n0 k : Nat) (s' : LS) (dn : Nat) : Prop := s'.Num ∧ s'.si = s.si ∧ ((s.up = true ∧ s'.up = true ∧ s'.conn = s.conn ∧ s'.heard = s.heard ∧ dn = 0 ∧ k < 4) ∨ (s'.up = false ∧ s.up = true ∧ s'.conn = s.conn + 1 ∧ dn = 1) ∨ (s'.up = false ∧ s.up = false ∧ s'.conn = s.conn ∧ dn = 0))
end Go.Proofs.Ytngegjboenfmeaa
/- A link that hears nothing more goes down, and comes up by nothing that was on its way. -/
namespace Go.Proofs.Ytngegjboenfmeaa
open Go Go.RowKit Go.Shelf
set_option linter.unusedVariables false
set_option maxRecDepth 100000
set_option linter.unusedSimpArgs false

/-- acts as an argument's cells -/
def actRow (L : List (Int × Int × Int)) : List Value := L.flatMap fun a => [.int .i64 a.1, .int .i64 a.2.1, .int .i64 a.2.2]
end Go.Proofs.Ytngegjboenfmeaa
/- Acts out of the argument: rows of three whole numbers each, opened. -/
namespace Go.Proofs.Ytngegjboenfmeaa
open Go Go.RowKit Go.ChangeShapes Go.WideShapes Go.ChangeAt Go.Deep
set_option linter.unusedVariables false
set_option maxRecDepth 100000
theorem actRow_len (L : List (Int × Int × Int)) : (actRow L).length = L.length * 3 := by
 induction L with
 | nil => rfl
 | cons a L ih =>
  show ([_, _, _] ++ actRow L).length = _; rw [List.length_append, ih]; show 3 + L.length * 3 = (L.length + 1) * 3; omega
section
variable {H : Type} {enc : TypeId × Value → H} {P : Program} {w : World}
theorem arg_acts {r : Reach} {b0 : Nat} {t e i : TypeId} {f0 f1 f2 : Field} {v : Value} {d : DataW H} {p : List MemPlace} (ht : P.underlying t = some (.slice e)) (he : P.underlying e = some (.struct #[f0, f1, f2])) (hi : P.underlying i = some (.int .i64)) (hc : P.cellsOf e = 3) (hci : P.cellsOf i = 1) (hby : P.bytesOf e = 24)
  (hf0 : f0.type = i ∧ f0.offset = 0) (hf1 : f1.type = i ∧ f1.offset = 1) (hf2 : f2.type = i ∧ f2.offset = 2)
  (hv : Value.okWide P w r b0 t v) (h : DataW.Trod enc P w 0 (fun _ => true) true t v d p) (hw : ∀ n ∈ d.weights P t, n ≤ reachBytes) :
  ∃ (A : Option Addr) (c : Nat) (l : List (Int × Int × Int)), v = .slice A l.length c ∧ l.length ≤ c ∧ c ≤ maxLen ∧ l.length ≤ 140737488355328 ∧ Has w w.heap.size A (actRow l) := by
 obtain ⟨a0, n0, c0, rfl⟩ := okWide_slice ht hv; obtain ⟨fuel, hf⟩ := h; have hf' : DataW.trod enc P w 0 (fun _ => true) true fuel t [.slice a0 n0 c0] = some (d, p) := by simpa [Value.cells] using hf
 rcases open_slice ht hf' with ⟨hcs, _⟩ | ⟨a, len, cap, m, n, D, Pl, hcs, _, hl, hm, hmm, hx, hel⟩
 ·exact ⟨none, 0, [], by simpa using hcs, by simp, by unfold maxLen; omega, by simp, Has.nil⟩
 ·simp only [if_true] at hmm; simp only [Prod.mk.injEq] at hx; obtain ⟨hx, _⟩ := hx; subst hmm; obtain ⟨ls, hls, hp⟩ := choose_list len (fun k (x : Int × Int × Int) => w.cell? (a.add (k * 3)) = some (.int .i64 x.1) ∧ w.cell? (a.add (k * 3 + 1)) = some (.int .i64 x.2.1) ∧ w.cell? (a.add (k * 3 + 2)) = some (.int .i64 x.2.2)) (fun k hk => by
   obtain ⟨cs', hc1, ht1⟩ := hel k (by omega); obtain ⟨_, hlen, hcell⟩ := World.cells?_some hc1; obtain ⟨xs, nx, _, _, _, hxl, hxx⟩ := DataW.trod_struct he ht1; rw [hc] at hlen hcell hc1; simp only [List.size_toArray, List.length_cons, List.length_nil, Nat.reduceAdd] at hxl
   match cs', hlen, xs, hxl with
   | [u0, u1, u2], _, [x0, x1, x2], _ =>
    have h0 := hxx 0 f0 rfl; have h1 := hxx 1 f1 rfl; have h2 := hxx 2 f2 rfl; rw [hf0.1, hf0.2, hci] at h0; rw [hf1.1, hf1.2, hci] at h1; rw [hf2.1, hf2.2, hci] at h2; obtain ⟨z0, e0, _, _⟩ := DataW.trod_int hi (show DataW.trod enc P w 0 (fun _ => true) true nx i [u0] = some x0 from h0); obtain ⟨z1, e1, _, _⟩ := DataW.trod_int hi (show DataW.trod enc P w 0 (fun _ => true) true nx i [u1] = some x1 from h1); obtain ⟨z2, e2, _, _⟩ := DataW.trod_int hi (show DataW.trod enc P w 0 (fun _ => true) true nx i [u2] = some x2 from h2); simp only [List.cons.injEq, and_true] at e0 e1 e2; have c0 := hcell 0 (by omega); have c1 := hcell 1 (by omega); have c2 := hcell 2 (by omega); rw [add_add] at c0 c1 c2; refine ⟨(z0, z1, z2), ?_, ?_, ?_⟩
    ·rw [Nat.add_zero] at c0; rw [c0, e0]; rfl
    ·rw [c1, e1]; rfl
    ·rw [c2, e2]; rfl)
  refine ⟨some a, m, ls, by rw [hls]; simpa using hcs, by omega, hm, ?_, ?_⟩
  ·rw [hx] at hw; have := hw ((len + (m - len)) * 24) (by simp [DataW.weights, ht, hby]); unfold reachBytes at this; omega
  ·refine has_of_cells fun j u hu => ?_
   have hlen2 : (actRow ls).length = ls.length * 3 := actRow_len ls; have hj : j < ls.length * 3 := by
    rcases Nat.lt_or_ge j (ls.length * 3) with h' | h'
    ·exact h'
    ·rw [List.getElem?_eq_none (by rw [hlen2]; exact h')] at hu; cases hu
   obtain ⟨k, hk⟩ : ∃ k, k = j / 3 := ⟨_, rfl⟩; have hk2 : k < ls.length := by omega
   have hpk := hp k _ (List.getElem?_eq_getElem hk2); have hat : ∀ r, r < 3 → (actRow ls)[k * 3 + r]? = [Value.int .i64 (ls[k]).1, .int .i64 (ls[k]).2.1, .int .i64 (ls[k]).2.2][r]? := fun r hr => by
    rw [actRow, flat_at (n := 3) (fun _ => rfl) ls k _ r (List.getElem?_eq_getElem hk2) hr]
   obtain ⟨r, hr⟩ : ∃ r, j = k * 3 + r := ⟨j - k * 3, by omega⟩; have hr3 : r < 3 := by omega
   subst hr; rw [hat r hr3] at hu
   match r, hr3 with
   | 0, _ => have h0 := hpk.1; rw [Nat.add_zero]; rw [h0]; exact hu
   | 1, _ => rw [hpk.2.1]; exact hu
   | 2, _ => rw [hpk.2.2]; exact hu
end
end Go.Proofs.Ytngegjboenfmeaa
/- The statements' sign of life of layer 12, by the general contracts. -/
namespace Go.Proofs.Ytngegjboenfmeaa
open Go Go.RowKit
set_option linter.unusedVariables false
set_option maxRecDepth 100000
set_option linter.unusedSimpArgs false

theorem one_of {α β : Type} {LP : List (α × β)} {f : α} (h : LP.map Prod.fst = [f]) : ∃ u, LP = [(f, u)] := by
 match LP, h with
 | [(x, u)], h =>
  simp only [List.map_cons, List.map_nil, List.cons.injEq, and_true] at h; subst h; exact ⟨u, rfl⟩
def aw1 : Fr := ⟨1, 1, 2, 1, 1, 0, 0, 0, 0, []⟩
def aw2 : Fr := ⟨1, 2, 1, 1, 1, 1, 1, 0, 0, []⟩
def awL2 : LS := (newLk true 1).take 1 aw1
def awL1 : LS := ((newLk false 1).tick 1).take 1 aw2
theorem aw_t : (newLk false 1).tickF 1 = [aw1] := by rfl
theorem aw_f2 : (newLk true 1).takeF 1 aw1 = [aw2] := by rfl
theorem aw_f1 : (((newLk false 1).tick 1).takeF 1 aw2).length = 1 ∧ ((newLk false 1).tick 1).takeE 1 aw2 = [⟨1, 2, 1, []⟩] := by exact ⟨rfl, rfl⟩
theorem aw_up : awL1.up = true ∧ awL2.up = false ∧ awL1.sn = 1 ∧ awL2.sn = 2 := by exact ⟨rfl, rfl, rfl, rfl⟩
set_option maxHeartbeats 6400000 in
theorem awakeG (w : World) : Calls Try.prog 8 #[] w fun e w' => e = .returned (.bool true) ∧ Below w.heap.size w w' := by
 go_enter Try.func8, Try.ntmps8
 go_wp2_with fail
 refine (newLink_any _ 1 1 2 (by omega) (by omega) (by omega) (by omega) (by omega) (by omega) (by omega)).mono ?_; rintro e w1 ⟨g1, rfl, hg1, hh1, hb1⟩; have HS1 := Lib.hid (sep_boxNil (show Sep w w1 (Ce g1 72 ((newLk false 1).cells (.slice none 0 0)) :: []) from ((Sep.nil w).add (F := fun k => k = g1) hb1 ⟨hh1, fun k => Iff.rfl⟩ (Ce.loc _ _ _) (fun k hk => by rw [hk]; exact hg1)).lastFront)); clear hg1 hh1 hb1
 go_wp2_with fail
 refine (newLink_any _ 2 1 1 (by omega) (by omega) (by omega) (by omega) (by omega) (by omega) (by omega)).mono ?_; rintro e w2 ⟨g2, rfl, hg2, hh2, hb2⟩; have h2 := sep_boxNil ((HS1.out.add (F := fun k => k = g2) hb2 ⟨hh2, fun k => Iff.rfl⟩ (Ce.loc _ _ _) (fun k hk => by rw [hk]; exact hg2)).lastFront); have HS2 := Lib.hid (show Sep w w2 (Ce g1 72 ((newLk false 1).cells (.slice none 0 0)) :: BoxT (.slice none 0 0) (newLk false 1).box :: Ce g2 72 ((newLk true 1).cells (.slice none 0 0)) :: BoxT (.slice none 0 0) [] :: []) from ((((h2).tF 0 rfl).tF 1 rfl).tF 2 rfl).tF 3 rfl); clear HS1 hg2 hh2 hb2 h2
 go_wp2_with fail
 refine (tickG (now := 1) HS2.out (newLk_num false 1) (by decide) (by decide)).mono ?_; rintro e w3 ⟨vF, vE, bx1, LP, LE, rfl, e1, e2, h3⟩; rw [aw_t] at e1; obtain ⟨u1, rfl⟩ := one_of e1; obtain ⟨A1, c1, rfl, _, _, hx1⟩ := sep_rwForm (i := 0) h3 rfl; obtain ⟨AE, cE, rfl, _, _, _⟩ := sep_rwForm (i := 2) h3 rfl; obtain ⟨b1, o1, rfl, _, _⟩ := hx1.at_ (k := 0) (by simp [fR_, Fr.cellsV]); obtain ⟨AU, cU, rfl, _, _, _⟩ := sep_bodsAt (i := 1) h3 rfl (u := u1) (l := []) (by simp [fB_, aw1]); obtain ⟨ne, Hne⟩ : ∃ x, Hid (LE.length = x) := ⟨_, Lib.hid rfl⟩; rw [Hne.out] at h3 ⊢; have HS4 := Lib.hid (sep_ceF h3 #[.slice (some ⟨b1, o1, none⟩) 1 c1, .slice AE ne cE] 43); clear HS2 h3 hx1 e1 e2; have kx := cA (i := 0) HS4.out rfl 0 rfl; have p0 : World.cell? _ ⟨b1, o1 + 0, none⟩ = some (.int .i64 1) := hK4 (rH (i := 1) HS4.out rfl) rfl; have p1 : World.cell? _ ⟨b1, o1 + 1, none⟩ = some (.int .i64 1) := hK4 (rH (i := 1) HS4.out rfl) rfl; have p2 : World.cell? _ ⟨b1, o1 + 2, none⟩ = some (.int .i64 2) := hK4 (rH (i := 1) HS4.out rfl) rfl; have p3 : World.cell? _ ⟨b1, o1 + 3, none⟩ = some (.int .u64 1) := hK4 (rH (i := 1) HS4.out rfl) rfl; have p4 : World.cell? _ ⟨b1, o1 + 4, none⟩ = some (.int .u64 1) := hK4 (rH (i := 1) HS4.out rfl) rfl; have p5 : World.cell? _ ⟨b1, o1 + 5, none⟩ = some (.int .u64 0) := hK4 (rH (i := 1) HS4.out rfl) rfl; have p6 : World.cell? _ ⟨b1, o1 + 6, none⟩ = some (.int .u64 0) := hK4 (rH (i := 1) HS4.out rfl) rfl; have p7 : World.cell? _ ⟨b1, o1 + 7, none⟩ = some (.int .u64 0) := hK4 (rH (i := 1) HS4.out rfl) rfl; have p8 : World.cell? _ ⟨b1, o1 + 8, none⟩ = some (.int .u64 0) := hK4 (rH (i := 1) HS4.out rfl) rfl; have p9 : World.cell? _ ⟨b1, o1 + 9, none⟩ = some (.slice AU 0 cU) := hK4 (rH (i := 1) HS4.out rfl) rfl; rw [Nat.add_zero] at p0
 go_wp2_with fail
 clear kx p0 p1 p2 p3 p4 p5 p6 p7 p8 p9; have h5 := HS4.out; refine (takeG (s := newLk true 1) (f := aw1) (now := 1) (A := AU) (c := cU) (X := Bods (fB_ [(aw1, .slice AU ([] : List UInt8).length cU)])) (Qs := Ce w3.heap.size 43 #[.slice (some ⟨b1, o1, none⟩) 1 c1, .slice AE ne cE] :: Rw 51 10 (.slice (some ⟨b1, o1, none⟩) 1 c1) 1 (fR_ [(aw1, .slice AU ([] : List UInt8).length cU)]) :: Rw 49 4 (.slice AE ne cE) ne (eR_ LE) :: Bods (eB_ LE) :: Ce g1 72 (((newLk false 1).tick 1).cells bx1) :: BoxT bx1 ((newLk false 1).tick 1).box :: []) ((((((((((h5).tF 6 rfl).tF 6 rfl).tF 6 rfl).tF 6 rfl).tF 5 rfl).tF 5 rfl).tF 6 rfl).tF 8 rfl).tF 8 rfl) (reads_bods (c := cU) (by simp [fB_, aw1])) (newLk_num true 1) (by unfold maxLen; decide) (by decide) (by decide) (by decide)).mono ?_; rintro e w5 ⟨vF2, vE2, bx2, LP2, LE2, rfl, e1, e2, h6⟩; rw [aw_f2] at e1; obtain ⟨u2, rfl⟩ := one_of e1; obtain ⟨A2, c2, rfl, _, _, hx2⟩ := sep_rwForm (i := 0) h6 rfl; obtain ⟨AE2, cE2, rfl, _, _, _⟩ := sep_rwForm (i := 2) h6 rfl; obtain ⟨b2, o2, rfl, _, _⟩ := hx2.at_ (k := 0) (by simp [fR_, Fr.cellsV]); obtain ⟨AU2, cU2, rfl, _, _, _⟩ := sep_bodsAt (i := 1) h6 rfl (u := u2) (l := []) (by simp [fB_, aw2]); obtain ⟨ne2, Hne2⟩ : ∃ x, Hid (LE2.length = x) := ⟨_, Lib.hid rfl⟩; rw [Hne2.out] at h6 ⊢; have HS7 := Lib.hid (sep_ceF h6 #[.slice (some ⟨b2, o2, none⟩) 1 c2, .slice AE2 ne2 cE2] 43); clear HS4 h5 h6 hx2 e1 e2; have kx := cA (i := 0) HS7.out rfl 0 rfl; have p0 : World.cell? _ ⟨b2, o2 + 0, none⟩ = some (.int .i64 1) := hK4 (rH (i := 1) HS7.out rfl) rfl; have p1 : World.cell? _ ⟨b2, o2 + 1, none⟩ = some (.int .i64 2) := hK4 (rH (i := 1) HS7.out rfl) rfl; have p2 : World.cell? _ ⟨b2, o2 + 2, none⟩ = some (.int .i64 1) := hK4 (rH (i := 1) HS7.out rfl) rfl; have p3 : World.cell? _ ⟨b2, o2 + 3, none⟩ = some (.int .u64 1) := hK4 (rH (i := 1) HS7.out rfl) rfl; have p4 : World.cell? _ ⟨b2, o2 + 4, none⟩ = some (.int .u64 1) := hK4 (rH (i := 1) HS7.out rfl) rfl; have p5 : World.cell? _ ⟨b2, o2 + 5, none⟩ = some (.int .u64 1) := hK4 (rH (i := 1) HS7.out rfl) rfl; have p6 : World.cell? _ ⟨b2, o2 + 6, none⟩ = some (.int .u64 1) := hK4 (rH (i := 1) HS7.out rfl) rfl; have p7 : World.cell? _ ⟨b2, o2 + 7, none⟩ = some (.int .u64 0) := hK4 (rH (i := 1) HS7.out rfl) rfl; have p8 : World.cell? _ ⟨b2, o2 + 8, none⟩ = some (.int .u64 0) := hK4 (rH (i := 1) HS7.out rfl) rfl; have p9 : World.cell? _ ⟨b2, o2 + 9, none⟩ = some (.slice AU2 0 cU2) := hK4 (rH (i := 1) HS7.out rfl) rfl; rw [Nat.add_zero] at p0
 go_wp2_with fail
 clear kx p0 p1 p2 p3 p4 p5 p6 p7 p8 p9; have h8 := HS7.out; refine (takeG (s := (newLk false 1).tick 1) (f := aw2) (now := 1) (A := AU2) (c := cU2) (X := Bods (fB_ [(aw2, .slice AU2 ([] : List UInt8).length cU2)])) (Qs := Ce w5.heap.size 43 #[.slice (some ⟨b2, o2, none⟩) 1 c2, .slice AE2 ne2 cE2] :: Rw 51 10 (.slice (some ⟨b2, o2, none⟩) 1 c2) 1 (fR_ [(aw2, .slice AU2 ([] : List UInt8).length cU2)]) :: Rw 49 4 (.slice AE2 ne2 cE2) ne2 (eR_ LE2) :: Bods (eB_ LE2) :: Ce g2 72 (((newLk true 1).take 1 aw1).cells bx2) :: BoxT bx2 ((newLk true 1).take 1 aw1).box :: Bods (fB_ [(aw1, .slice AU ([] : List UInt8).length cU)]) :: Ce w3.heap.size 43 #[.slice (some ⟨b1, o1, none⟩) 1 c1, .slice AE ne cE] :: Rw 51 10 (.slice (some ⟨b1, o1, none⟩) 1 c1) 1 (fR_ [(aw1, .slice AU ([] : List UInt8).length cU)]) :: Rw 49 4 (.slice AE ne cE) ne (eR_ LE) :: Bods (eB_ LE) :: []) (((((((((((((((h8).tF 11 rfl).tF 11 rfl).tF 11 rfl).tF 11 rfl).tF 11 rfl).tF 11 rfl).tF 11 rfl).tF 11 rfl).tF 11 rfl).tF 10 rfl).tF 10 rfl).tF 11 rfl).tF 13 rfl).tF 13 rfl) (reads_bods (c := cU2) (by simp [fB_, aw2])) ((newLk_num false 1).tick (by decide)) (by unfold maxLen; decide) (by decide) (by decide) (by decide)).mono ?_; rintro e w8 ⟨vF3, vE3, bx3, LP3, LE3, rfl, e1, e2, h9⟩; rw [aw_f1.2] at e2; obtain ⟨u3, rfl⟩ := one_of e2; obtain ⟨A3, c3, rfl, _, _, _⟩ := sep_rwForm (i := 0) h9 rfl; obtain ⟨AE3, cE3, rfl, _, _, hx3⟩ := sep_rwForm (i := 2) h9 rfl; obtain ⟨b3, o3, rfl, _, _⟩ := hx3.at_ (k := 0) (by simp [eR_, Ev.cellsV]); obtain ⟨AV3, cV3, rfl, _, _, _⟩ := sep_bodsAt (i := 3) h9 rfl (u := u3) (l := []) (by simp [eB_]); have hl3 : LP3.length = 1 := by
  have h := congrArg List.length e1; rw [List.length_map, aw_f1.1] at h; exact h
 rw [hl3] at h9 ⊢; have HS10 := Lib.hid (sep_ceF h9 #[.slice A3 1 c3, .slice (some ⟨b3, o3, none⟩) 1 cE3] 43); clear HS7 h8 h9 hx3 e1 e2 hl3; have kx := cA (i := 0) HS10.out rfl 0 rfl; have ky := cA (i := 0) HS10.out rfl 1 rfl; have p0 : World.cell? _ ⟨b3, o3 + 0, none⟩ = some (.int .i64 1) := hK4 (rH (i := 3) HS10.out rfl) rfl; have p1 : World.cell? _ ⟨b3, o3 + 1, none⟩ = some (.int .i64 2) := hK4 (rH (i := 3) HS10.out rfl) rfl; have p2 : World.cell? _ ⟨b3, o3 + 2, none⟩ = some (.int .u64 1) := hK4 (rH (i := 3) HS10.out rfl) rfl; have p3 : World.cell? _ ⟨b3, o3 + 3, none⟩ = some (.slice AV3 0 cV3) := hK4 (rH (i := 3) HS10.out rfl) rfl; rw [Nat.add_zero] at p0
 go_wp2_with fail
 clear kx ky p0 p1 p2 p3; refine (up_any _ g1 awL1.sn awL1.up (by rw [aw_up.2.2.1]; decide) (cA (i := 5) HS10.out rfl 3 rfl) (cA (i := 5) HS10.out rfl 9 rfl)).mono ?_; rintro e w11 ⟨rfl, hb11⟩; have HS11 := Lib.hid (HS10.out.grow hb11); rw [aw_up.1]; clear hb11 HS10
 go_wp2_with fail
 refine (up_any _ g2 awL2.sn awL2.up (by rw [aw_up.2.2.2]; decide) (cA (i := 12) HS11.out rfl 3 rfl) (cA (i := 12) HS11.out rfl 9 rfl)).mono ?_; rintro e w12 ⟨rfl, hb12⟩; have HS12 := Lib.hid (HS11.out.grow hb12); rw [aw_up.2.1]; clear hb12 HS11
 go_wp2_with fail
 go_ret
 exact ⟨rfl, HS12.out.bel⟩
end Go.Proofs.Ytngegjboenfmeaa
/- Whatever two links do, what is told by a pair is what was sent by it: the walk of LinkOrder. -/
namespace Go.Proofs.Ytngegjboenfmeaa
open Go Go.RowKit Go.Shelf
set_option linter.unusedVariables false
set_option maxRecDepth 100000
set_option linter.unusedSimpArgs false

theorem right_any {w0 w : World} {g a0 a1 : Nat} {T : TW} {B : Nat} (h : TwA a0 a1 w0 w g T []) (ho : T.Ord) (hk : T.Ok B) (hB : B ≤ 1000000000) :
  Calls Try.prog 11 #[.pointer (some ⟨g, 0, none⟩)] w fun e w' => e = .returned (.bool true) ∧ Below w.heap.size w w' := by
 obtain ⟨b0, b1, v0, v1, W0, W1, BB, bs, bt, q1, q2, q3, q4, h⟩ := h; obtain ⟨Fs, hs, _⟩ := h.upd (i := 8) rfl; obtain ⟨Ft, ht, _⟩ := h.upd (i := 9) rfl; exact right_core w g bs bt T.sent T.told Fs Ft (cA (i := 0) h rfl 8 rfl) (cA (i := 0) h rfl 9 rfl) (cA (i := 0) h rfl 11 rfl) (lt_of_heap (cH (i := 0) h rfl)) hs ht ho.pre (fun q => Nat.le_trans (hk.told q) hB)
set_option maxHeartbeats 12800000 in
theorem order_any (w : World) (A0 : Option Addr) (cc : Nat) (L : List (Int × Int × Int)) (h : Has w w.heap.size A0 (actRow L)) (hm : L.length ≤ 140737488355328) :
  Calls Try.prog 3 #[.slice A0 L.length cc] w fun e w' => e = .returned (.bool true) ∧ Below w.heap.size w w' := by
 have HST := Lib.hid h; clear h
 by_cases h1 : 1500 < L.length
 ·have e1 : decide (1500 < (L.length : Int)) = true := by simp; omega
  go_enter Try.func3, Try.ntmps3
  go_wp2_with fail
  refine (awakeG _).mono ?_; rintro e w' ⟨rfl, hb⟩
  go_wp2_with fail
  go_ret
  exact ⟨rfl, hb⟩
 have e1 : decide (1500 < (L.length : Int)) = false := by simp; omega
 go_enter Try.func3, Try.ntmps3
 go_wp2_with fail
 refine (begin_any _).mono ?_; rintro e w1 ⟨g, c0, c1, rfl, hA⟩; have HA := Lib.hid hA; clear hA; have kb := HA.out.bad
 go_wp2_with fail
 go_loopw [4] (fun iv wr => ∃ (k a0 a1 : Nat) (T : TW), k ≤ L.length ∧ iv = .int .i64 (k : Int) ∧ Hid (TwA a0 a1 w wr g T []) ∧ Hid (T.Ord ∧ T.Ok (1 + 20 * k))) (fun iv _ => L.length - (intOf iv).toNat)
 case atStart => exact ⟨0, c0, c1, TW.start, Nat.zero_le _, rfl, HA, Lib.hid ⟨ord_start, start_ok⟩⟩
 case round =>
  clear kb; obtain ⟨k, a0, a1, T, hk, rfl, HM, HI⟩ := hrel; have kb := HM.out.bad
  by_cases hkl : k < L.length
  ·have elt : decide (k < L.length) = true := decide_eq_true hkl; obtain ⟨p, hp⟩ : ∃ p, L[k]? = some p := ⟨_, List.getElem?_eq_getElem hkl⟩; obtain ⟨d, ax, nx⟩ := p; have hh := has_bel HM.out.bel HST.out; have c0 : (actRow L)[k * 3 + 0]? = some (.int .i64 d) := by rw [actRow, flat_at (n := 3) (fun _ => rfl) L k _ 0 hp (by omega)]; rfl
   have c1 : (actRow L)[k * 3 + 1]? = some (.int .i64 ax) := by rw [actRow, flat_at (n := 3) (fun _ => rfl) L k _ 1 hp (by omega)]; rfl
   have c2 : (actRow L)[k * 3 + 2]? = some (.int .i64 nx) := by rw [actRow, flat_at (n := 3) (fun _ => rfl) L k _ 2 hp (by omega)]; rfl
   obtain ⟨ba, oa, rfl, _, _⟩ := hh _ _ c0; have f0 := hK4 hh c0; have f1 := hK4 hh c1; have f2 := hK4 hh c2; rw [Nat.add_zero] at f0; rw [← Nat.add_assoc] at f1 f2; clear c0 c1 c2 hp hh
   go_wp2_with fail
   refine (actA HM.out HI.out.2 (by omega) d ax nx).mono ?_; rintro e w2 ⟨rfl, i, kk, b0, b1, h2, h3⟩; have HM2 := Lib.hid h2; have HI2 : Hid ((T.act d i kk).Ord ∧ (T.act d i kk).Ok (1 + 20 * (k + 1))) := Lib.hid ⟨ord_act HI.out.1 d i kk, h3.mono (by omega)⟩; clear h2 h3 kb; have kb := HM2.out.bad
   go_wp2_with fail
   go_roundw
   case rel => exact ⟨k + 1, b0, b1, _, by omega, by go_num, HM2, HI2⟩
   case measure => simp [intOf]; omega
  ·have elt : decide (k < L.length) = false := decide_eq_false hkl
   go_wp2_with fail
   refine (right_any HM.out HI.out.1 HI.out.2 (by omega)).mono ?_; rintro e w3 ⟨rfl, hb3⟩; have HM3 := Lib.hid (HM.out.grow hb3)
   go_wp2_with fail
   refine (awakeG _).mono ?_; rintro e w4 ⟨rfl, hb4⟩; have HM4 := Lib.hid (HM3.out.grow hb4)
   go_wp2_with fail
   go_ret
   exact ⟨rfl, HM4.out.bel⟩
end Go.Proofs.Ytngegjboenfmeaa
/- 'caucus/caucuslaw12.LinkOrder' returns true at every input, and every argument reads behind the call as it read before it. -/
namespace Go.Proofs.Ytngegjboenfmeaa.linkOrder
open Go.ChangeShapes Go.WideShapes Go.ChangeAt Go.RowKit
set_option linter.unusedVariables false

theorem own : ownKnob Try.prog.godebug = none := by kernel_rfl
theorem laidOut : laidOutB Try.prog = true := by kernel_rfl
theorem readable : ∀ t ∈ Try.f3.params.toList, Try.prog.readableRec t = true ∧ t < Try.prog.types.size := by
 rw [Try.params3]; intro t ht; simp only [List.mem_cons, List.not_mem_nil, or_false] at ht; subst ht; exact ⟨by kernel_rfl, of_decide_eq_true (by kernel_rfl)⟩

set_option maxRecDepth 100000 in
theorem lifted (os : Os) (started : os.Started) (H : Type) (enc : TypeId × Value → H) :
  ReturnsInHanded {} Try.checked os 3 .any (Rows.linkOrderSpec.pre6 enc Try.prog Try.f3 Rows.linkOrderRow.domain false) (Rows.linkOrderSpec.post enc Try.prog Try.f3 false true false false) := by
 refine returnsInHanded_of_change_sized (C := Try.checked) own started (by kernel_rfl) Try.func3
  (ChangeSpec.witness6 (enc := enc) (C := Try.checked) false ⟨#[], #[.slice none 0 0], []⟩ 8 (by kernel_rfl) (by kernel_rfl) (by kernel_rfl) (by kernel_rfl)) ?_
 intro W base args ds gs before hval0 hW hcnd hsz0 _; have hval : ∀ (j : Nat) t v, Try.f3.params[j]? = some t → args[j]? = some v → Value.okWide Try.prog W .any base t v := hval0; have hW' := hW; obtain ⟨p, q, hA0, hV, rfl, hfz, hnd⟩ := hW; have hA : DataW.TrodAll enc Try.prog W 0 (fun _ => true) true Try.f3.params.toList args.toList ds p := hA0; have hA' := hA; have hsz : (DataW.weightsEach Try.prog (Try.f3.params.toList ++ Rows.linkOrderSpec.plain.varTypes Try.prog) (ds ++ gs)).all (· ≤ reachBytes) = true := hsz0; rw [Try.params3] at hA hval hsz; obtain ⟨v0, vs0, d0, ds0, p0, q0, hargs, rfl, rfl, h0, r0⟩ := trodAll_cons hA; obtain ⟨rfl, rfl, rfl⟩ := trodAll_nil r0; obtain rfl : args = #[v0] := by cases args; simp_all
 obtain ⟨rfl, rfl⟩ := trodVars_none hV; obtain ⟨A0, c0, l0, rfl, hc0, hm0, hr0, hh0⟩ := arg_acts Try.underlying22 Try.underlying37 Try.underlying3 (by kernel_rfl) (by kernel_rfl) (by kernel_rfl) ⟨rfl, rfl⟩ ⟨rfl, rfl⟩ ⟨rfl, rfl⟩ (hval 0 22 v0 rfl rfl) h0 (weights_at hsz 0 rfl rfl); refine (order_any W A0 c0 l0 hh0 hr0).mono fun e W' ⟨he, bel⟩ => ?_
 subst he; exact ⟨_, rfl, _, _, _, [], _, [], hW', trodAll_mk1 (shut_bool Try.underlying4 _), trodAll_stays laidOut bel readable hA', rfl, bel.frame _, fun h => by cases h⟩

theorem over : Rows.linkOrderRow.holds Try.pinned (OpenSpec.ofChange Rows.linkOrderSpec) :=
 OpenClaim.holds_of_wide 3 Try.f3 rfl rfl rfl rfl rfl rfl rfl ⟨rfl, rfl, rfl, rfl, rfl⟩ rfl rfl rfl rfl rfl (by kernel_rfl) Try.func3 (by kernel_rfl)
  (of_decide_eq_true (by kernel_rfl)) (by unfold Func.isWrapper; first | (rw [if_pos (by decide +kernel)]; kernel_rfl) | (rw [if_neg (by decide +kernel)]; exact ⟨rfl, rfl⟩))
  (fun os started H enc _ => lifted os started H enc)

/-- THE STATEMENT -/
theorem proved : Rows.LinkOrderSaid := over
#print axioms proved
end Go.Proofs.Ytngegjboenfmeaa.linkOrder
