/- Part 6 of the texts of a claim: TwC TwE PartP Tck -/
import Derived.Test.YtngegjboenfmeaaPa1
import Derived.Test.YtngegjboenfmeaaPa2
import Derived.Test.YtngegjboenfmeaaPa3
import Derived.Test.YtngegjboenfmeaaPa4
import Derived.Test.YtngegjboenfmeaaPa5
import Derived.Deep.CutBlock
import Derived.Deep.DeepCutAuto
namespace Go.Proofs.Ytngegjboenfmeaa
open Go Go.RowKit Go.Shelf
set_option linter.unusedVariables false
set_option maxRecDepth 100000
set_option linter.unusedSimpArgs false

/-- what an act leaves -/
def ActP (w0 w' : World) (g : Nat) (T : TW) (d : Int) (Qs : List SP) (B : Nat) : Prop := ∃ i k b0 b1, TwA b0 b1 w0 w' g (T.act d i k) Qs ∧ (T.act d i k).Ok (B + 20)
theorem trimTo_step0 (T : TW) (h : (T.way false).length ≤ 300) : T.trimTo 1 = T.trimTo 0 := by
 unfold TW.trimTo; congr 1; funext i; cases i
 ·simp [trim_short h]
 ·simp
theorem trimTo_step1 (T : TW) (h : (T.way true).length ≤ 300) : T.trimTo 2 = T.trimTo 1 := by
 unfold TW.trimTo; congr 1; funext i; cases i
 ·simp
 ·simp [trim_short h]
theorem trim_nd (T : TW) (i : Bool) {nl nd : Nat} (h : nl = ((T.trimTo (if i then 1 else 0)).way i).length) (hd : nl - 300 = nd) : ((T.trimTo (if i then 1 else 0)).way i).drop nd = (T.trimTo ((if i then 1 else 0) + 1)).way i := by
 have e : (T.trimTo (if i then 1 else 0)).way i = T.way i := by cases i <;> simp [TW.trimTo]
 rw [e] at h ⊢; rw [← hd, h]; cases i <;> simp [TW.trimTo, Go.Proofs.Ytngegjboenfmeaa.trim]
theorem map_erase {α β : Type} (f : α → β) (l : List α) (n : Nat) : (l.eraseIdx n).map f = (l.map f).eraseIdx n := by
 rw [List.eraseIdx_eq_take_drop_succ, List.eraseIdx_eq_take_drop_succ, List.map_append, List.map_take, List.map_drop]
theorem frBods_erase {W : List (Fr × Value)} {n : Nat} {y : Value × List UInt8} (h : y ∈ fB_ (W.eraseIdx n)) : y ∈ fB_ W := by
 obtain ⟨p, hp, rfl⟩ := List.mem_map.1 h; exact List.mem_map.2 ⟨p, List.mem_of_mem_eraseIdx hp, rfl⟩
theorem frBods_drop {W : List (Fr × Value)} {n : Nat} {y : Value × List UInt8} (h : y ∈ fB_ (W.drop n)) : y ∈ fB_ W := by
 obtain ⟨p, hp, rfl⟩ := List.mem_map.1 h; exact List.mem_map.2 ⟨p, List.mem_of_mem_drop hp, rfl⟩
set_option maxHeartbeats 6400000 in
theorem act0 {w0 w : World} {Qs : List SP} {g a0 a1 B : Nat} {T : TW} (h : TwA a0 a1 w0 w g T Qs) (hO : T.Ok B) (hB : B ≤ 1000000) (d at_ nn : Int) (heb : bits .and .i64 at_ 1 = 0) :
  Calls Try.prog 10 #[.pointer (some ⟨g, 0, none⟩), .agg #[.int .i64 d, .int .i64 at_, .int .i64 nn]] w fun e w' => e = .returned (.tuple #[]) ∧ ActP w0 w' g T d Qs B := by
 obtain ⟨k, hk, hk2⟩ := and_low nn 65535 (by omega); have ek : bits .and .i64 nn 65535 = (k : Int) := hk2; have HSB := Lib.hid (sep_ce (Sep.nil w) #[.int .i64 d, .int .i64 at_, .int .i64 nn] 37); have HA := Lib.hid (h.grow ((Below.refl _ _).alloc (Nat.le_refl _) (.cells #[.int .i64 d, .int .i64 at_, .int .i64 nn] 37))); have HAB := Lib.hid (h.ce #[.int .i64 d, .int .i64 at_, .int .i64 nn] 37); have k0 := cA (i := 0) HSB.out rfl 0 rfl; have k1 := cA (i := 0) HSB.out rfl 1 rfl; have k2 := cA (i := 0) HSB.out rfl 2 rfl; clear h hk2; have ei : bits .and .i64 at_ 1 = 0 := heb; go_enter Try.func10, Try.ntmps10
 go_upto_block 0 with fail
 go_cut [6, 7] from 18 to 137 (fun u6 u7 wx => ∃ b0 b1 T1, TwA b0 b1 w0 wx g T1 Qs ∧ Hid (T.act d false k = T1.trim ∧ T1.Ok (B + 20)))
 case first =>
  clear k1 k2
  by_cases h0 : d = 0
  ·subst h0; have HB0 := Lib.hid k0; obtain ⟨kq, Hkq⟩ : ∃ x, Hid (k % 4 = x) := ⟨_, Lib.hid rfl⟩; have hkq : kq ≤ 3 := by rw [← Hkq.out]; omega
   have e3 : bits .and .i64 (k : Int) 3 = (kq : Int) := by rw [and_3 k (by omega), Hkq.out]
   have hnow := hO.now false; have ew1 : IntKind.u64.wrap (kq : Int) = (kq : Int) := u64_wrapG (by omega) (by omega); have ew2 : IntKind.u64.wrap (((T.now false : Nat) : Int) + (kq : Int)) = ((T.now false : Nat) : Int) + (kq : Int) := u64_wrapG (by omega) (by omega); clear hnow
   go_wp2_with fail
   refine wRF (fun dn xv W => if dn 13 = true then TwA a0 a1 w0 W g (T.later false kq) Qs else TwA a0 a1 w0 W g T Qs) (fun _ _ => True) [fun v _ => v = .pointer (some ⟨g, 0, none⟩), fun v _ => v = .int .i64 0, fun v _ => v = .pointer (some ⟨g, 0, none⟩), fun v _ => v = .pointer (some ⟨g, 4, none⟩), fun v _ => v = .pointer (some ⟨g, 4, none⟩), fun v _ => v = .int .u64 ((T.now false : Nat) : Int), fun v _ => v = .int .i64 (k : Int), fun v _ => v = .int .i64 (kq : Int), fun v _ => v = .int .u64 (kq : Int), fun v _ => v = .int .u64 ((T.now false : Nat) + (kq : Nat) : Int), fun v _ => v = .pointer (some ⟨g, 0, none⟩), fun v _ => v = .pointer (some ⟨g, 4, none⟩), fun v _ => v = .pointer (some ⟨g, 4, none⟩), fun v _ => True] (by kernel_rfl) (by kernel_rfl) (by kernel_rfl) (by kernel_rfl) (fun xv => by simpa using HA.out.drew)
    (by repeat (first | exact trivial | refine ⟨fun _ _ _ _ h => h, ?_⟩)) ?_ ?_
   ·refine EC 1 rfl (fun h i W F a b c d e H K f => ?_) ?_
    ·have f0 : F.tmps.getD 0 undef = .pointer (some ⟨g, 0, none⟩) := (a 0).trans (by kernel_rfl); clear H c b d a; refine oP rfl ?_; go_simp; exact f.out _ _ rfl trivial e
    refine EC 2 rfl (fun g h W F a b c d e H K f => ?_) ?_
    ·have f4 : F.tmps.getD 4 undef = .int .i64 0 := (a 4).trans (by kernel_rfl); clear H c b d a; refine oP rfl ?_; go_simp; exact f.out _ _ rfl trivial e
    refine EC 3 rfl (fun g h W F a b c d e H K f => ?_) ?_
    ·have f20 := gE (a 20) (by kernel_rfl) (H 0) (by kernel_rfl); clear H c b d a; refine oP rfl ?_; go_simp; exact f.out _ _ rfl trivial e
    refine EC 4 rfl (fun g h W F a b c d e H K f => ?_) ?_
    ·have f22 := gE (a 22) (by kernel_rfl) (H 2) (by kernel_rfl); clear H c b d a; refine oP rfl ?_; go_simp; exact f.out _ _ rfl trivial e
    refine EC 5 rfl (fun g h W F a b c d e H K f => ?_) ?_
    ·have f21 := gE (a 21) (by kernel_rfl) (H 1) (by kernel_rfl); have f23 := gE (a 23) (by kernel_rfl) (H 3) (by kernel_rfl); clear H c b d a; refine oP rfl ?_; go_simp; exact f.out _ _ rfl trivial e
    refine EC 6 rfl (fun g h W F a b c d e H K f => ?_) ?_
    ·have f24 := gE (a 24) (by kernel_rfl) (H 4) (by kernel_rfl); have q13 : g 13 = false := c 13 (.more (j := 9) (by kernel_rfl) (.edge (by kernel_rfl))); have hq := e; rw [if_neg (by simp [q13])] at hq; have kk := hq.t0; clear H c b d a; refine oP rfl ?_; go_simp; exact f.out _ _ rfl trivial e
    refine EC 7 rfl (fun g h W F a b c d e H K f => ?_) ?_
    ·have f5 : F.tmps.getD 5 undef = .int .i64 (k : Int) := (a 5).trans (by kernel_rfl); clear H c b d a; refine oP rfl ?_; go_simp; exact f.out _ _ rfl trivial e
    refine EC 8 rfl (fun g h W F a b c d e H K f => ?_) ?_
    ·have f26 := gE (a 26) (by kernel_rfl) (H 6) (by kernel_rfl); clear H c b d a; refine oP rfl ?_; go_simp; exact f.out _ _ rfl trivial e
    refine EC 9 rfl (fun g h W F a b c d e H K f => ?_) ?_
    ·have f27 := gE (a 27) (by kernel_rfl) (H 7) (by kernel_rfl); clear H c b d a; refine oP rfl ?_; go_simp; exact f.out _ _ rfl trivial e
    refine EC 10 rfl (fun g h W F a b c d e H K f => ?_) ?_
    ·have f25 := gE (a 25) (by kernel_rfl) (H 5) (by kernel_rfl); have f28 := gE (a 28) (by kernel_rfl) (H 8) (by kernel_rfl); clear H c b d a; refine oP rfl ?_; go_simp; exact f.out _ _ rfl trivial e
    refine EC 11 rfl (fun g h W F a b c d e H K f => ?_) ?_
    ·have f20 := gE (a 20) (by kernel_rfl) (H 0) (by kernel_rfl); clear H c b d a; refine oP rfl ?_; go_simp; exact f.out _ _ rfl trivial e
    refine EC 12 rfl (fun g h W F a b c d e H K f => ?_) ?_
    ·have f30 := gE (a 30) (by kernel_rfl) (H 10) (by kernel_rfl); clear H c b d a; refine oP rfl ?_; go_simp; exact f.out _ _ rfl trivial e
    refine EC 13 rfl (fun g h W F a b c d e H K f => ?_) ?_
    ·have f21 := gE (a 21) (by kernel_rfl) (H 1) (by kernel_rfl); have f31 := gE (a 31) (by kernel_rfl) (H 11) (by kernel_rfl); clear H c b d a; refine oP rfl ?_; go_simp; exact f.out _ _ rfl trivial e
    refine EC 14 rfl (fun g h W F a b c d e H K f => ?_) ?_
    ·have f29 := gE (a 29) (by kernel_rfl) (H 9) (by kernel_rfl); have f32 := gE (a 32) (by kernel_rfl) (H 12) (by kernel_rfl); rw [if_neg (by simp [b])] at e; have hS := e; clear e c b d a H; refine oP rfl ?_; obtain ⟨yy, hs⟩ := hS.later0 kq; have kk := hS.t0; go_simp; exact f.out undef _ trivial trivial (by simpa [upB, upd] using hs)
    exact EN
   ·intro dn xv W hI H; have qe : dn 13 = true := (H 13 (of_decide_eq_true (by kernel_rfl))).1; rw [if_pos qe] at hI; have hS := hI; clear H hI qe; simp only [putAll, Act.put, List.setIfInBounds_toArray, List.set_cons_zero, List.set_cons_succ, Nat.reduceAdd]; obtain ⟨T0, HT0⟩ : ∃ x, Hid (T.later false kq = x) := ⟨_, Lib.hid rfl⟩; rw [HT0.out] at hS; have HA1 := Lib.hid hS; have HO0 : Hid (T0.Ok (B + 3)) := Lib.hid (by rw [← HT0.out]; exact hO.later false hkq); have HC1 := Lib.hid (fun (W : World) (hS : TwA a0 a1 w0 W g T0 Qs) => tickA0 hS HO0.out (by omega)); have HC2 := Lib.hid (fun (W : World) (v : Value) (hS : MidA a0 a1 v w0 W g (T0.withL false ((T0.l false).tick (T0.now false))) ((T0.l false).tickF (T0.now false)) ((T0.l false).tickE (T0.now false)) Qs) => show Calls Try.prog 31 #[.pointer (some ⟨g, 0, none⟩), .int .i64 0, v] W (fun e w' => e = .returned (.tuple #[]) ∧ TwA a0 a1 w0 w' g (T0.tick false) Qs) from
     ansA0 hS ((HO0.out.mono (Nat.le_add_right _ 1)).withL false ((HO0.out.num false).tick (now := T0.now false) (by have := HO0.out.now false; omega)) (ids_tick (HO0.out.ids false) (T0.now false))) (by omega) (by have := (tickF_ok (HO0.out.num false) (HO0.out.ids false) (T0.now false)).2.1; omega) (by have := (tickF_ok (HO0.out.num false) (HO0.out.ids false) (T0.now false)).2.2; omega))
    clear hS e3 ew1 ew2 hkq
    go_wp2_with fail
    refine wRF (fun dn xv W => if dn 15 = true then TwA a0 a1 w0 W g (T0.tick false) Qs else if dn 14 = true then MidA a0 a1 (xv 14) w0 W g (T0.withL false ((T0.l false).tick (T0.now false))) ((T0.l false).tickF (T0.now false)) ((T0.l false).tickE (T0.now false)) Qs else TwA a0 a1 w0 W g T0 Qs) (fun _ _ => True) [fun v _ => v = .pointer (some ⟨g, 0, none⟩), fun v _ => v = .int .i64 0, fun v _ => v = .pointer (some ⟨g, 0, none⟩), fun v _ => v = .int .i64 0, fun v _ => v = .pointer (some ⟨g, 0, none⟩), fun v _ => v = .pointer (some ⟨g, 0, none⟩), fun v _ => v = .pointer (some ⟨g, 0, none⟩), fun v _ => v = .pointer (some ⟨a0, 0, none⟩), fun v _ => v = .pointer (some ⟨g, 0, none⟩), fun v _ => v = .int .i64 0, fun v _ => v = .pointer (some ⟨g, 0, none⟩), fun v _ => v = .pointer (some ⟨g, 4, none⟩), fun v _ => v = .pointer (some ⟨g, 4, none⟩), fun v _ => v = .int .u64 ((T0.now false : Nat) : Int), fun v _ => True, fun v _ => True] (by kernel_rfl) (by kernel_rfl) (by kernel_rfl) (by kernel_rfl) (fun xv => by simpa using HA1.out.drew)
     (by repeat (first | exact trivial | refine ⟨fun _ _ _ _ h => h, ?_⟩)) ?_ ?_
    ·refine EC 1 rfl (fun h i W F a b c d e H K f => ?_) ?_
     ·have f0 : F.tmps.getD 0 undef = .pointer (some ⟨g, 0, none⟩) := (a 0).trans (by kernel_rfl); clear H c b d a; refine oP rfl ?_; go_simp; exact f.out _ _ rfl trivial e
     refine EC 2 rfl (fun g h W F a b c d e H K f => ?_) ?_
     ·have f4 : F.tmps.getD 4 undef = .int .i64 0 := (a 4).trans (by kernel_rfl); clear H c b d a; refine oP rfl ?_; go_simp; exact f.out _ _ rfl trivial e
     refine EC 3 rfl (fun h i W F a b c d e H K f => ?_) ?_
     ·have f0 : F.tmps.getD 0 undef = .pointer (some ⟨g, 0, none⟩) := (a 0).trans (by kernel_rfl); clear H c b d a; refine oP rfl ?_; go_simp; exact f.out _ _ rfl trivial e
     refine EC 4 rfl (fun g h W F a b c d e H K f => ?_) ?_
     ·have f4 : F.tmps.getD 4 undef = .int .i64 0 := (a 4).trans (by kernel_rfl); clear H c b d a; refine oP rfl ?_; go_simp; exact f.out _ _ rfl trivial e
     refine EC 5 rfl (fun g h W F a b c d e H K f => ?_) ?_
     ·have f35 := gE (a 35) (by kernel_rfl) (H 2) (by kernel_rfl); clear H c b d a; refine oP rfl ?_; go_simp; exact f.out _ _ rfl trivial e
     refine EC 6 rfl (fun g h W F a b c d e H K f => ?_) ?_
     ·have f37 := gE (a 37) (by kernel_rfl) (H 4) (by kernel_rfl); clear H c b d a; refine oP rfl ?_; go_simp; exact f.out _ _ rfl trivial e
     refine EC 7 rfl (fun g h W F a b c d e H K f => ?_) ?_
     ·have f36 := gE (a 36) (by kernel_rfl) (H 3) (by kernel_rfl); have f38 := gE (a 38) (by kernel_rfl) (H 5) (by kernel_rfl); clear H c b d a; refine oP rfl ?_; go_simp; exact f.out _ _ rfl trivial e
     refine EC 8 rfl (fun g h W F a b c d e H K f => ?_) ?_
     ·have f39 := gE (a 39) (by kernel_rfl) (H 6) (by kernel_rfl); have q1 : g 14 = false := c 14 (.edge (by kernel_rfl)); have q2 : g 15 = false := c 15 (.more (j := 14) (by kernel_rfl) (.edge (by kernel_rfl))); have hq := e; rw [if_neg (by simp [q2]), if_neg (by simp [q1])] at hq; have kk := hq.l0; clear H c b d a; refine oP rfl ?_; go_simp; exact f.out _ _ rfl trivial e
     refine EC 9 rfl (fun h i W F a b c d e H K f => ?_) ?_
     ·have f0 : F.tmps.getD 0 undef = .pointer (some ⟨g, 0, none⟩) := (a 0).trans (by kernel_rfl); clear H c b d a; refine oP rfl ?_; go_simp; exact f.out _ _ rfl trivial e
     refine EC 10 rfl (fun g h W F a b c d e H K f => ?_) ?_
     ·have f4 : F.tmps.getD 4 undef = .int .i64 0 := (a 4).trans (by kernel_rfl); clear H c b d a; refine oP rfl ?_; go_simp; exact f.out _ _ rfl trivial e
     refine EC 11 rfl (fun g h W F a b c d e H K f => ?_) ?_
     ·have f41 := gE (a 41) (by kernel_rfl) (H 8) (by kernel_rfl); clear H c b d a; refine oP rfl ?_; go_simp; exact f.out _ _ rfl trivial e
     refine EC 12 rfl (fun g h W F a b c d e H K f => ?_) ?_
     ·have f43 := gE (a 43) (by kernel_rfl) (H 10) (by kernel_rfl); clear H c b d a; refine oP rfl ?_; go_simp; exact f.out _ _ rfl trivial e
     refine EC 13 rfl (fun g h W F a b c d e H K f => ?_) ?_
     ·have f42 := gE (a 42) (by kernel_rfl) (H 9) (by kernel_rfl); have f44 := gE (a 44) (by kernel_rfl) (H 11) (by kernel_rfl); clear H c b d a; refine oP rfl ?_; go_simp; exact f.out _ _ rfl trivial e
     refine EC 14 rfl (fun g h W F a b c d e H K f => ?_) ?_
     ·have f45 := gE (a 45) (by kernel_rfl) (H 12) (by kernel_rfl); have q1 : g 14 = false := c 14 (.edge (by kernel_rfl)); have q2 : g 15 = false := c 15 (.more (j := 14) (by kernel_rfl) (.edge (by kernel_rfl))); have hq := e; rw [if_neg (by simp [q2]), if_neg (by simp [q1])] at hq; have kk := hq.t0; clear H c b d a; refine oP rfl ?_; go_simp; exact f.out _ _ rfl trivial e
     refine EC 15 rfl (fun h i W F a b c d f H K g => ?_) ?_
     ·have f40 := gE (a 40) (by kernel_rfl) (H 7) (by kernel_rfl); have f46 := gE (a 46) (by kernel_rfl) (H 13) (by kernel_rfl); have q15 : h 15 = false := c 15 (.edge (by kernel_rfl)); rw [if_neg (by simp [q15]), if_neg (by simp [b])] at f; have hS := f; clear f c b d a H; refine oP rfl ?_; go_simp; refine (HC1.out W hS).mono ?_; rintro e W' ⟨v, rfl, hs⟩; exact g.out v W' trivial trivial (by simpa [upB, upd, q15] using hs)
     refine EC 16 rfl (fun h i W F a b c d f H K g => ?_) ?_
     ·have f33 := gE (a 33) (by kernel_rfl) (H 0) (by kernel_rfl); have f34 := gE (a 34) (by kernel_rfl) (H 1) (by kernel_rfl); have f47 : F.tmps.getD 47 undef = i 14 := (a 47).trans (by kernel_rfl); have q14 : h 14 = true := (H 14 (.edge (by kernel_rfl))).1; rw [if_neg (by simp [b]), if_pos q14] at f; have hS := f; clear f c b d a H; refine oP rfl ?_; go_simp; refine (HC2.out W _ hS).mono ?_; rintro e W' ⟨rfl, hs⟩; exact g.out _ W' trivial trivial (by simpa [upB, upd] using hs)
     exact EN
    ·intro dn xv W hI H; have qe : dn 15 = true := (H 15 (of_decide_eq_true (by kernel_rfl))).1; rw [if_pos qe] at hI; have hS := hI; clear H hI qe; simp only [putAll, Act.put, List.setIfInBounds_toArray, List.set_cons_zero, List.set_cons_succ, Nat.reduceAdd]
     go_wp2_with fail
     go_meet
     case rel => exact ⟨a0, a1, _, hS, Lib.hid ⟨by rw [TW.act, if_pos rfl, ← HT0.out, ← Hkq.out]; rfl, (HO0.out.tick (by omega) false).mono (by omega)⟩⟩
  ·have e0 : (d == 0) = false := by simpa using h0
   by_cases h1 : d = 1
   ·subst h1
    go_wp2_with fail
    refine (sendA0 HA.out hO (by omega)).mono ?_; rintro e w2 ⟨rfl, h2⟩; have HA2 := Lib.hid h2; clear h2
    go_wp2_with fail
    go_meet
    case rel => exact ⟨a0, a1, _, HA2.out, Lib.hid ⟨by rw [TW.act, if_neg (by decide), if_pos rfl], (hO.send (by omega) false).mono (by omega)⟩⟩
   ·have e1 : (d == 1) = false := by simpa using h1
    by_cases h234 : d = 2 ∨ d = 3 ∨ d = 4
    ·skip
     have H234 := Lib.hid h234; have HA3 := Lib.hid (HAB.out)
     go_upto_if 54 with fail
     go_cut [54] from 55 to 57 (fun t54 wx => t54 = .bool true ∧ wx = (w.alloc (.cells #[.int .i64 d, .int .i64 at_, .int .i64 nn] 37)))
     case first =>
      by_cases h2 : d = 2
      ·subst h2
       go_wp2_with fail
       go_meet
       case rel => exact ⟨rfl, rfl⟩
      ·have e2 : (d == 2) = false := by simpa using h2
       by_cases h3 : d = 3
       ·subst h3
        go_wp2_with fail
        go_meet
        case rel => exact ⟨rfl, rfl⟩
       ·have h4 : d = 4 := by have := H234.out; omega
        subst h4
        go_wp2_with fail
        go_meet
        case rel => exact ⟨rfl, rfl⟩
     case rest =>
      obtain ⟨rfl, rfl⟩ := hcut; obtain ⟨b0, b1, v0, v1, W0, W1, BB, bs, bt, q1, q2, q3, q4, h⟩ := HA3.out; obtain ⟨AV, cV, hv, hcV, hcV2, hasV⟩ := sep_rwoForm (i := 5) h rfl; subst hv; have HQW := Lib.hid (And.intro q1 (And.intro q2 (And.intro q3 q4))); have hlw : W0.length = (T.way false).length := by rw [← q1, List.length_map]
      have kk := cA (v := .slice AV W0.length cV) (i := 0) h rfl 6 rfl; clear q1 q2 q3 q4
      by_cases hw : T.way false = []
      ·have e0 : ((W0.length : Int) == 0) = true := by rw [hlw, hw]; rfl
       have e00 : (W0.length == 0) = true := by rw [hlw, hw]; rfl
       have HW := Lib.hid hw; clear hw hasV h
       go_wp2_with fail
       refine bodyPost_ret (results_none rfl _ _ _) rfl ?_; exact ⟨rfl, false, k, a0, a1, by rw [act_none H234.out HW.out]; exact HA3.out.pop, by rw [act_none H234.out HW.out]; exact hO.mono (by omega)⟩
      ·have hpos : 0 < W0.length := by rw [hlw]; exact List.length_pos_iff.2 hw
       obtain ⟨nl, Hnl⟩ : ∃ y, Hid (W0.length = y) := ⟨_, Lib.hid rfl⟩; obtain ⟨bw, ow, rfl, _, _⟩ := hasV.at_ (k := 0) (by rw [frRow_len]; omega); rw [Hnl.out] at h hcV kk hlw hpos; have e0 : (nl == 0) = false := by simp; omega
       have e00 : ((nl : Int) == 0) = false := by simp; omega
       obtain ⟨jj, Hjj⟩ : ∃ y, Hid (k % nl = y) := ⟨_, Lib.hid rfl⟩; have hjn : jj < nl := by rw [← Hjj.out]; exact Nat.mod_lt _ hpos
       have er : Int.tmod (k : Int) (nl : Int) = (jj : Int) := by rw [← Hjj.out]; rfl
       have er2 : (k : Int) % (nl : Int) = (jj : Int) := by rw [← Hjj.out]; rfl
       obtain ⟨p, hp⟩ : ∃ p, W0[jj]? = some p := ⟨_, List.getElem?_eq_getElem (by rw [Hnl.out]; exact hjn)⟩; have hpB : (p.2, p.1.body) ∈ BB := by
        have hm : (p.2, p.1.body) ∈ fB_ W0 := List.mem_map.2 ⟨_, List.mem_of_getElem? hp, rfl⟩; exact HQW.out.2.2.1 _ hm
       obtain ⟨AU, cU, hu, _, _, hasU⟩ := sep_bodsAt (i := 7) h rfl hpB; have hfw : (T.way false)[jj]? = some p.1 := by rw [← HQW.out.1, List.getElem?_map, hp]; rfl
       have hfo := hO.frs false p.1 (List.mem_of_getElem? hfw); have HJW : Hid (k % (T.way false).length = jj) := Lib.hid (by rw [← hlw]; exact Hjj.out); obtain ⟨⟨kind, ffr, fto, finc, fconn, pinc, pconn, fack, fseq, body⟩, u⟩ := p; simp only at hu; subst hu; obtain ⟨fF, HfF⟩ : ∃ y, Hid ((⟨kind, ffr, fto, finc, fconn, pinc, pconn, fack, fseq, body⟩ : Fr) = y) := ⟨_, Lib.hid rfl⟩; have HFW : Hid ((T.way false)[jj]? = some fF) := Lib.hid (by rw [← HfF.out]; exact hfw); have HFO : Hid (FrOk B fF) := Lib.hid (by rw [← HfF.out]; exact hfo); have hbl : body.length ≤ 448 := hfo.2.2.2.2; have HS4 := Lib.hid (show Sep w0 (w.alloc (.cells #[.int .i64 d, .int .i64 at_, .int .i64 nn] 37)) (Ce g 34 #[.pointer (some ⟨a0, 0, none⟩), .pointer (some ⟨a1, 0, none⟩), .int .u64 (((T.l false).si : Nat) : Int), .int .u64 (((T.l true).si : Nat) : Int), .int .u64 ((T.now false : Nat) : Int), .int .u64 ((T.now true : Nat) : Int), .slice (some ⟨bw, ow, none⟩) nl cV, v1, .map (some bs), .map (some bt), .int .i64 ((T.n : Nat) : Int), .bool false] :: Ce a0 72 ((T.l false).cells b0) :: BoxT b0 (T.l false).box :: Ce a1 72 ((T.l true).cells b1) :: BoxT b1 (T.l true).box :: RwO 51 10 (.slice (some ⟨bw, ow, none⟩) nl cV) nl (fR_ W0) :: RwO 51 10 v1 W1.length (fR_ W1) :: Bods BB :: MapT bs T.sent :: MapT bt T.told :: Ce w.heap.size 37 #[.int .i64 d, .int .i64 at_, .int .i64 nn] :: Qs) by unfold TWL at h; rw [Hnl.out] at h; exact h); have hr := sep_rwoHas (i := 5) HS4.out rfl; have kf0 := hK4 hr (frRow_at (r := 0) (v := .int .i64 kind) hp (by omega)); rw [Nat.add_zero] at kf0; have kf1 := hK4 hr (frRow_at (r := 1) (v := .int .i64 ffr) hp (by omega)); rw [← Nat.add_assoc] at kf1; have kf2 := hK4 hr (frRow_at (r := 2) (v := .int .i64 fto) hp (by omega)); rw [← Nat.add_assoc] at kf2; have kf3 := hK4 hr (frRow_at (r := 3) (v := .int .u64 (finc : Int)) hp (by omega)); rw [← Nat.add_assoc] at kf3; have kf4 := hK4 hr (frRow_at (r := 4) (v := .int .u64 (fconn : Int)) hp (by omega)); rw [← Nat.add_assoc] at kf4; have kf5 := hK4 hr (frRow_at (r := 5) (v := .int .u64 (pinc : Int)) hp (by omega)); rw [← Nat.add_assoc] at kf5; have kf6 := hK4 hr (frRow_at (r := 6) (v := .int .u64 (pconn : Int)) hp (by omega)); rw [← Nat.add_assoc] at kf6; have kf7 := hK4 hr (frRow_at (r := 7) (v := .int .u64 (fack : Int)) hp (by omega)); rw [← Nat.add_assoc] at kf7; have kf8 := hK4 hr (frRow_at (r := 8) (v := .int .u64 (fseq : Int)) hp (by omega)); rw [← Nat.add_assoc] at kf8; have kf9 := hK4 hr (frRow_at (r := 9) (v := .slice AU body.length cU) hp (by omega)); rw [← Nat.add_assoc] at kf9; have HU := Lib.hid hasU; have HHP := Lib.hid hp; have HLW := Lib.hid hlw; have hnb : nl ≤ B := by rw [hlw]; exact hO.way false
       clear hr hasV hw h hp hpB hfo hfw hasU hlw
       go_wp2_with fail
       refine (own5_any _ _ ⟨kind, ffr, fto, finc, fconn, pinc, pconn, fack, fseq, body⟩ AU cU HU.out (Nat.le_refl _) (by simp only; omega)).mono ?_; rintro e w3 ⟨AZ, cZ, rfl, hoN, hbN⟩; simp only [Fr.cells]; clear kk kf0 kf1 kf2 kf3 kf4 kf5 kf6 kf7 kf8 kf9 er er2 e0 e00; have HA4 := Lib.hid (HA3.out.grow hbN); have HA5 := Lib.hid (((HA3.out.by_ hbN hoN).ce #[.int .i64 kind, .int .i64 ffr, .int .i64 fto, .int .u64 (finc : Int), .int .u64 (fconn : Int), .int .u64 (pinc : Int), .int .u64 (pconn : Int), .int .u64 (fack : Int), .int .u64 (fseq : Int), .slice AZ body.length cZ] 51).swap); have HS5 := Lib.hid (show Sep w0 (w3.alloc (.cells #[.int .i64 kind, .int .i64 ffr, .int .i64 fto, .int .u64 (finc : Int), .int .u64 (fconn : Int), .int .u64 (pinc : Int), .int .u64 (pconn : Int), .int .u64 (fack : Int), .int .u64 (fseq : Int), .slice AZ body.length cZ] 51)) (Ce g 34 #[.pointer (some ⟨a0, 0, none⟩), .pointer (some ⟨a1, 0, none⟩), .int .u64 (((T.l false).si : Nat) : Int), .int .u64 (((T.l true).si : Nat) : Int), .int .u64 ((T.now false : Nat) : Int), .int .u64 ((T.now true : Nat) : Int), .slice (some ⟨bw, ow, none⟩) nl cV, v1, .map (some bs), .map (some bt), .int .i64 ((T.n : Nat) : Int), .bool false] :: Ce a0 72 ((T.l false).cells b0) :: BoxT b0 (T.l false).box :: Ce a1 72 ((T.l true).cells b1) :: BoxT b1 (T.l true).box :: RwO 51 10 (.slice (some ⟨bw, ow, none⟩) nl cV) nl (fR_ W0) :: RwO 51 10 v1 W1.length (fR_ W1) :: Bods BB :: MapT bs T.sent :: MapT bt T.told :: By (.slice AZ body.length cZ) body :: Ce (w3.heap.size) 51 #[.int .i64 kind, .int .i64 ffr, .int .i64 fto, .int .u64 (finc : Int), .int .u64 (fconn : Int), .int .u64 (pinc : Int), .int .u64 (pconn : Int), .int .u64 (fack : Int), .int .u64 (fseq : Int), .slice AZ body.length cZ] :: Ce w.heap.size 37 #[.int .i64 d, .int .i64 at_, .int .i64 nn] :: Qs) from (show Sep w0 (w3.alloc (.cells #[.int .i64 kind, .int .i64 ffr, .int .i64 fto, .int .u64 (finc : Int), .int .u64 (fconn : Int), .int .u64 (pinc : Int), .int .u64 (pconn : Int), .int .u64 (fack : Int), .int .u64 (fseq : Int), .slice AZ body.length cZ] 51)) (Ce w3.heap.size 51 #[.int .i64 kind, .int .i64 ffr, .int .i64 fto, .int .u64 (finc : Int), .int .u64 (fconn : Int), .int .u64 (pinc : Int), .int .u64 (pconn : Int), .int .u64 (fack : Int), .int .u64 (fseq : Int), .slice AZ body.length cZ] :: By (.slice AZ body.length cZ) body :: Ce g 34 #[.pointer (some ⟨a0, 0, none⟩), .pointer (some ⟨a1, 0, none⟩), .int .u64 (((T.l false).si : Nat) : Int), .int .u64 (((T.l true).si : Nat) : Int), .int .u64 ((T.now false : Nat) : Int), .int .u64 ((T.now true : Nat) : Int), .slice (some ⟨bw, ow, none⟩) nl cV, v1, .map (some bs), .map (some bt), .int .i64 ((T.n : Nat) : Int), .bool false] :: Ce a0 72 ((T.l false).cells b0) :: BoxT b0 (T.l false).box :: Ce a1 72 ((T.l true).cells b1) :: BoxT b1 (T.l true).box :: RwO 51 10 (.slice (some ⟨bw, ow, none⟩) nl cV) nl (fR_ W0) :: RwO 51 10 v1 W1.length (fR_ W1) :: Bods BB :: MapT bs T.sent :: MapT bt T.told :: Ce w.heap.size 37 #[.int .i64 d, .int .i64 at_, .int .i64 nn] :: Qs) from sep_ceF (HS4.out.add (F := fun k => (Value.slice AZ body.length cZ).ownBlock = some k) hbN ⟨own_mono hoN (Nat.zero_le _), fun k => Iff.rfl⟩ (By.loc _ _) fun k hk => (hoN.lt k hk).1).lastFront _ _) |> fun h => ((((((((((((h).tF 0 rfl).tF 1 rfl).tF 11 rfl).tF 11 rfl).tF 11 rfl).tF 11 rfl).tF 11 rfl).tF 11 rfl).tF 11 rfl).tF 11 rfl).tF 11 rfl).tF 11 rfl)
       have HZ := Lib.hid (sep_ce (Sep.nil w3) #[.int .i64 0, .int .i64 0, .int .i64 0, .int .u64 0, .int .u64 0, .int .u64 0, .int .u64 0, .int .u64 0, .int .u64 0, .slice none 0 0] 51); have zf0 := cA (i := 0) HZ.out rfl 0 rfl; have yf0 := cFz (i := 0) HZ.out rfl 0; have zf1 := cA (i := 0) HZ.out rfl 1 rfl; have yf1 := cFz (i := 0) HZ.out rfl 1; have zf2 := cA (i := 0) HZ.out rfl 2 rfl; have yf2 := cFz (i := 0) HZ.out rfl 2; have zf3 := cA (i := 0) HZ.out rfl 3 rfl; have yf3 := cFz (i := 0) HZ.out rfl 3; have zf4 := cA (i := 0) HZ.out rfl 4 rfl; have yf4 := cFz (i := 0) HZ.out rfl 4; have zf5 := cA (i := 0) HZ.out rfl 5 rfl; have yf5 := cFz (i := 0) HZ.out rfl 5; have zf6 := cA (i := 0) HZ.out rfl 6 rfl; have yf6 := cFz (i := 0) HZ.out rfl 6; have zf7 := cA (i := 0) HZ.out rfl 7 rfl; have yf7 := cFz (i := 0) HZ.out rfl 7; have zf8 := cA (i := 0) HZ.out rfl 8 rfl; have yf8 := cFz (i := 0) HZ.out rfl 8; have zf9 := cA (i := 0) HZ.out rfl 9 rfl; have yf9 := cFz (i := 0) HZ.out rfl 9; have kd := HA5.out.q2 0 (v := .int .i64 d) rfl; obtain ⟨T0, HT0⟩ : ∃ x, Hid ((if d = 3 then T else ({ T with way := atB T.way false ((T.way false).eraseIdx jj) } : TW)) = x) := ⟨_, Lib.hid rfl⟩; have HO0 : Hid (T0.Ok B) := Lib.hid (by
        rw [← HT0.out]; split
        ·exact hO
        ·exact hO.lose false jj)
       go_upto_if 87 with fail
       go_cut [] from 88 to 112 (fun wx => TwA a0 a1 w0 wx g T0 (By (.slice AZ body.length cZ) body :: Ce (w3.heap.size) 51 #[.int .i64 kind, .int .i64 ffr, .int .i64 fto, .int .u64 (finc : Int), .int .u64 (fconn : Int), .int .u64 (pinc : Int), .int .u64 (pconn : Int), .int .u64 (fack : Int), .int .u64 (fseq : Int), .slice AZ body.length cZ] :: Ce w.heap.size 37 #[.int .i64 d, .int .i64 at_, .int .i64 nn] :: Qs))
       case first =>
        by_cases h3 : d = 3
        ·subst h3; have HT3 : Hid (T = T0) := Lib.hid (by rw [← HT0.out, if_pos rfl])
         go_wp2_with fail
         go_meet
         case rel =>
          rw [← HT3.out]; exact HA5.out
        ·have e3 : (d != 3) = true := by simpa using h3
         have H3 := Lib.hid h3; have hjn2 : jj + 1 ≤ nl := hjn; have hone := frRow_oneB (LP := W0) (i := 7) HS5.out rfl (fun x hx => HQW.out.2.2.1 _ hx); have HX1 : Hid (∀ u ∈ (fR_ W0).take (jj * 10), u.oneCell' = true) := Lib.hid (fun u hu => hone u (List.mem_of_mem_take hu)); have HX2 : Hid (∀ u ∈ (fR_ W0).drop ((jj + 1) * 10), u.oneCell' = true) := Lib.hid (fun u hu => hone u (List.mem_of_mem_drop hu)); obtain ⟨jk, Hjk⟩ : ∃ y, Hid (jj + 1 = y) := ⟨_, Lib.hid rfl⟩; obtain ⟨SB, HSB2⟩ : ∃ y, Hid ((if cV = jj + 1 then (some ⟨bw, ow, none⟩ : Option Addr) else (some (⟨bw, ow, none⟩ : Addr)).map (·.add ((jj + 1) * 10))) = y) := ⟨_, Lib.hid rfl⟩; obtain ⟨n2, Hn2⟩ : ∃ y, Hid (nl - (jj + 1) = y) := ⟨_, Lib.hid rfl⟩; obtain ⟨c2, Hc2⟩ : ∃ y, Hid (cV - (jj + 1) = y) := ⟨_, Lib.hid rfl⟩; obtain ⟨nn2, HN2⟩ : ∃ y, Hid (jj + n2 = y) := ⟨_, Lib.hid rfl⟩; have hfl : (fR_ W0).length = nl * 10 := by rw [frRow_len, Hnl.out]
         have HL1 : Hid (((fR_ W0).take (jj * 10)).length = jj * 10) := Lib.hid (by rw [List.length_take, hfl]; omega); have HL2 : Hid (((fR_ W0).drop ((jj + 1) * 10)).length = n2 * 10) := Lib.hid (by rw [List.length_drop, hfl, ← Hn2.out, Nat.sub_mul]); have HR1 : Hid (∀ W, (Instr.slice 30 (.slice (some ⟨bw, ow, none⟩) nl cV) none (some (.int .i64 (jj : Int))) none).run Try.prog W = .ok (.slice (some ⟨bw, ow, none⟩) jj cV) W) := Lib.hid (fun W => run_toF W _ nl cV jj (by omega)); have HR2 : Hid (∀ W, (Instr.slice 30 (.slice (some ⟨bw, ow, none⟩) nl cV) (some (.int .i64 (jk : Int))) none none).run Try.prog W = .ok (.slice SB n2 c2) W) := Lib.hid (fun W => by
          have hq := run_fromF W (some ⟨bw, ow, none⟩) nl cV (jj + 1) hjn2; rw [HSB2.out, Hn2.out, Hc2.out, Hjk.out] at hq; exact hq)
         have HH2 : Hid (∀ W, OwnO W 51 10 (.slice (some ⟨bw, ow, none⟩) nl cV) nl (fR_ W0) → Has W W.heap.size SB ((fR_ W0).drop ((jj + 1) * 10))) := Lib.hid (fun W ho => by
          obtain ⟨A', c', e', _, _, hh⟩ := ownO_form (ownO_from ho hjn2).1; rw [HSB2.out] at e'; simp only [Value.slice.injEq] at e'; rw [e'.1]; exact hh)
         have ejk : IntKind.i64.wrap ((jj : Int) + 1) = (jk : Int) := by rw [IntKind.wrap_i64, ← Hjk.out]; omega
         have hn2 : n2 ≤ 1000000 := by rw [← Hn2.out]; omega
         have hjb : jj ≤ 1000000 := by omega
         have HKW : ∀ (dn : Nat → Bool) (xv : Nat → Value) (W : World), (if dn 25 = true then ∃ v, Sep w0 W (Rw 51 10 v nn2 (((fR_ W0).take (jj * 10)) ++ ((fR_ W0).drop ((jj + 1) * 10))) :: Ce g 34 #[.pointer (some ⟨a0, 0, none⟩), .pointer (some ⟨a1, 0, none⟩), .int .u64 (((T.l false).si : Nat) : Int), .int .u64 (((T.l true).si : Nat) : Int), .int .u64 ((T.now false : Nat) : Int), .int .u64 ((T.now true : Nat) : Int), v, v1, .map (some bs), .map (some bt), .int .i64 ((T.n : Nat) : Int), .bool false] :: Ce a0 72 ((T.l false).cells b0) :: BoxT b0 (T.l false).box :: Ce a1 72 ((T.l true).cells b1) :: BoxT b1 (T.l true).box :: RwO 51 10 (.slice (some ⟨bw, ow, none⟩) nl cV) nl (fR_ W0) :: RwO 51 10 v1 W1.length (fR_ W1) :: Bods BB :: MapT bs T.sent :: MapT bt T.told :: By (.slice AZ body.length cZ) body :: Ce (w3.heap.size) 51 #[.int .i64 kind, .int .i64 ffr, .int .i64 fto, .int .u64 (finc : Int), .int .u64 (fconn : Int), .int .u64 (pinc : Int), .int .u64 (pconn : Int), .int .u64 (fack : Int), .int .u64 (fseq : Int), .slice AZ body.length cZ] :: Ce w.heap.size 37 #[.int .i64 d, .int .i64 at_, .int .i64 nn] :: Qs) else if dn 21 = true then Sep w0 W (Rw 51 10 (xv 21) nn2 (((fR_ W0).take (jj * 10)) ++ ((fR_ W0).drop ((jj + 1) * 10))) :: Ce g 34 #[.pointer (some ⟨a0, 0, none⟩), .pointer (some ⟨a1, 0, none⟩), .int .u64 (((T.l false).si : Nat) : Int), .int .u64 (((T.l true).si : Nat) : Int), .int .u64 ((T.now false : Nat) : Int), .int .u64 ((T.now true : Nat) : Int), .slice (some ⟨bw, ow, none⟩) nl cV, v1, .map (some bs), .map (some bt), .int .i64 ((T.n : Nat) : Int), .bool false] :: Ce a0 72 ((T.l false).cells b0) :: BoxT b0 (T.l false).box :: Ce a1 72 ((T.l true).cells b1) :: BoxT b1 (T.l true).box :: RwO 51 10 (.slice (some ⟨bw, ow, none⟩) nl cV) nl (fR_ W0) :: RwO 51 10 v1 W1.length (fR_ W1) :: Bods BB :: MapT bs T.sent :: MapT bt T.told :: By (.slice AZ body.length cZ) body :: Ce (w3.heap.size) 51 #[.int .i64 kind, .int .i64 ffr, .int .i64 fto, .int .u64 (finc : Int), .int .u64 (fconn : Int), .int .u64 (pinc : Int), .int .u64 (pconn : Int), .int .u64 (fack : Int), .int .u64 (fseq : Int), .slice AZ body.length cZ] :: Ce w.heap.size 37 #[.int .i64 d, .int .i64 at_, .int .i64 nn] :: Qs) else if dn 11 = true then Sep w0 W (Rw 51 10 (xv 11) jj ((fR_ W0).take (jj * 10)) :: Ce g 34 #[.pointer (some ⟨a0, 0, none⟩), .pointer (some ⟨a1, 0, none⟩), .int .u64 (((T.l false).si : Nat) : Int), .int .u64 (((T.l true).si : Nat) : Int), .int .u64 ((T.now false : Nat) : Int), .int .u64 ((T.now true : Nat) : Int), .slice (some ⟨bw, ow, none⟩) nl cV, v1, .map (some bs), .map (some bt), .int .i64 ((T.n : Nat) : Int), .bool false] :: Ce a0 72 ((T.l false).cells b0) :: BoxT b0 (T.l false).box :: Ce a1 72 ((T.l true).cells b1) :: BoxT b1 (T.l true).box :: RwO 51 10 (.slice (some ⟨bw, ow, none⟩) nl cV) nl (fR_ W0) :: RwO 51 10 v1 W1.length (fR_ W1) :: Bods BB :: MapT bs T.sent :: MapT bt T.told :: By (.slice AZ body.length cZ) body :: Ce (w3.heap.size) 51 #[.int .i64 kind, .int .i64 ffr, .int .i64 fto, .int .u64 (finc : Int), .int .u64 (fconn : Int), .int .u64 (pinc : Int), .int .u64 (pconn : Int), .int .u64 (fack : Int), .int .u64 (fseq : Int), .slice AZ body.length cZ] :: Ce w.heap.size 37 #[.int .i64 d, .int .i64 at_, .int .i64 nn] :: Qs) else if dn 2 = true then Sep w0 W (Rw 51 10 (xv 2) 0 [] :: Ce g 34 #[.pointer (some ⟨a0, 0, none⟩), .pointer (some ⟨a1, 0, none⟩), .int .u64 (((T.l false).si : Nat) : Int), .int .u64 (((T.l true).si : Nat) : Int), .int .u64 ((T.now false : Nat) : Int), .int .u64 ((T.now true : Nat) : Int), .slice (some ⟨bw, ow, none⟩) nl cV, v1, .map (some bs), .map (some bt), .int .i64 ((T.n : Nat) : Int), .bool false] :: Ce a0 72 ((T.l false).cells b0) :: BoxT b0 (T.l false).box :: Ce a1 72 ((T.l true).cells b1) :: BoxT b1 (T.l true).box :: RwO 51 10 (.slice (some ⟨bw, ow, none⟩) nl cV) nl (fR_ W0) :: RwO 51 10 v1 W1.length (fR_ W1) :: Bods BB :: MapT bs T.sent :: MapT bt T.told :: By (.slice AZ body.length cZ) body :: Ce (w3.heap.size) 51 #[.int .i64 kind, .int .i64 ffr, .int .i64 fto, .int .u64 (finc : Int), .int .u64 (fconn : Int), .int .u64 (pinc : Int), .int .u64 (pconn : Int), .int .u64 (fack : Int), .int .u64 (fseq : Int), .slice AZ body.length cZ] :: Ce w.heap.size 37 #[.int .i64 d, .int .i64 at_, .int .i64 nn] :: Qs) else Sep w0 W (Ce g 34 #[.pointer (some ⟨a0, 0, none⟩), .pointer (some ⟨a1, 0, none⟩), .int .u64 (((T.l false).si : Nat) : Int), .int .u64 (((T.l true).si : Nat) : Int), .int .u64 ((T.now false : Nat) : Int), .int .u64 ((T.now true : Nat) : Int), .slice (some ⟨bw, ow, none⟩) nl cV, v1, .map (some bs), .map (some bt), .int .i64 ((T.n : Nat) : Int), .bool false] :: Ce a0 72 ((T.l false).cells b0) :: BoxT b0 (T.l false).box :: Ce a1 72 ((T.l true).cells b1) :: BoxT b1 (T.l true).box :: RwO 51 10 (.slice (some ⟨bw, ow, none⟩) nl cV) nl (fR_ W0) :: RwO 51 10 v1 W1.length (fR_ W1) :: Bods BB :: MapT bs T.sent :: MapT bt T.told :: By (.slice AZ body.length cZ) body :: Ce (w3.heap.size) 51 #[.int .i64 kind, .int .i64 ffr, .int .i64 fto, .int .u64 (finc : Int), .int .u64 (fconn : Int), .int .u64 (pinc : Int), .int .u64 (pconn : Int), .int .u64 (fack : Int), .int .u64 (fseq : Int), .slice AZ body.length cZ] :: Ce w.heap.size 37 #[.int .i64 d, .int .i64 at_, .int .i64 nn] :: Qs)) → dn 25 = false → W.cell? ⟨g, 6, none⟩ = some (.slice (some ⟨bw, ow, none⟩) nl cV) := fun dn xv W h h0 => by
          rw [if_neg (by simp [h0])] at h; split at h
          ·exact cA (i := 1) h rfl 6 rfl
          split at h
          ·exact cA (i := 1) h rfl 6 rfl
          split at h
          ·exact cA (i := 1) h rfl 6 rfl
          ·exact cA (i := 0) h rfl 6 rfl
         clear hone hfl h3 hjn2 hjn hcV hnb HA5 kd h0 h1 h234 hO hbN hoN
         go_wp2_with fail
         refine wRF (fun dn xv W => if dn 25 = true then ∃ v, Sep w0 W (Rw 51 10 v nn2 (((fR_ W0).take (jj * 10)) ++ ((fR_ W0).drop ((jj + 1) * 10))) :: Ce g 34 #[.pointer (some ⟨a0, 0, none⟩), .pointer (some ⟨a1, 0, none⟩), .int .u64 (((T.l false).si : Nat) : Int), .int .u64 (((T.l true).si : Nat) : Int), .int .u64 ((T.now false : Nat) : Int), .int .u64 ((T.now true : Nat) : Int), v, v1, .map (some bs), .map (some bt), .int .i64 ((T.n : Nat) : Int), .bool false] :: Ce a0 72 ((T.l false).cells b0) :: BoxT b0 (T.l false).box :: Ce a1 72 ((T.l true).cells b1) :: BoxT b1 (T.l true).box :: RwO 51 10 (.slice (some ⟨bw, ow, none⟩) nl cV) nl (fR_ W0) :: RwO 51 10 v1 W1.length (fR_ W1) :: Bods BB :: MapT bs T.sent :: MapT bt T.told :: By (.slice AZ body.length cZ) body :: Ce (w3.heap.size) 51 #[.int .i64 kind, .int .i64 ffr, .int .i64 fto, .int .u64 (finc : Int), .int .u64 (fconn : Int), .int .u64 (pinc : Int), .int .u64 (pconn : Int), .int .u64 (fack : Int), .int .u64 (fseq : Int), .slice AZ body.length cZ] :: Ce w.heap.size 37 #[.int .i64 d, .int .i64 at_, .int .i64 nn] :: Qs) else if dn 21 = true then Sep w0 W (Rw 51 10 (xv 21) nn2 (((fR_ W0).take (jj * 10)) ++ ((fR_ W0).drop ((jj + 1) * 10))) :: Ce g 34 #[.pointer (some ⟨a0, 0, none⟩), .pointer (some ⟨a1, 0, none⟩), .int .u64 (((T.l false).si : Nat) : Int), .int .u64 (((T.l true).si : Nat) : Int), .int .u64 ((T.now false : Nat) : Int), .int .u64 ((T.now true : Nat) : Int), .slice (some ⟨bw, ow, none⟩) nl cV, v1, .map (some bs), .map (some bt), .int .i64 ((T.n : Nat) : Int), .bool false] :: Ce a0 72 ((T.l false).cells b0) :: BoxT b0 (T.l false).box :: Ce a1 72 ((T.l true).cells b1) :: BoxT b1 (T.l true).box :: RwO 51 10 (.slice (some ⟨bw, ow, none⟩) nl cV) nl (fR_ W0) :: RwO 51 10 v1 W1.length (fR_ W1) :: Bods BB :: MapT bs T.sent :: MapT bt T.told :: By (.slice AZ body.length cZ) body :: Ce (w3.heap.size) 51 #[.int .i64 kind, .int .i64 ffr, .int .i64 fto, .int .u64 (finc : Int), .int .u64 (fconn : Int), .int .u64 (pinc : Int), .int .u64 (pconn : Int), .int .u64 (fack : Int), .int .u64 (fseq : Int), .slice AZ body.length cZ] :: Ce w.heap.size 37 #[.int .i64 d, .int .i64 at_, .int .i64 nn] :: Qs) else if dn 11 = true then Sep w0 W (Rw 51 10 (xv 11) jj ((fR_ W0).take (jj * 10)) :: Ce g 34 #[.pointer (some ⟨a0, 0, none⟩), .pointer (some ⟨a1, 0, none⟩), .int .u64 (((T.l false).si : Nat) : Int), .int .u64 (((T.l true).si : Nat) : Int), .int .u64 ((T.now false : Nat) : Int), .int .u64 ((T.now true : Nat) : Int), .slice (some ⟨bw, ow, none⟩) nl cV, v1, .map (some bs), .map (some bt), .int .i64 ((T.n : Nat) : Int), .bool false] :: Ce a0 72 ((T.l false).cells b0) :: BoxT b0 (T.l false).box :: Ce a1 72 ((T.l true).cells b1) :: BoxT b1 (T.l true).box :: RwO 51 10 (.slice (some ⟨bw, ow, none⟩) nl cV) nl (fR_ W0) :: RwO 51 10 v1 W1.length (fR_ W1) :: Bods BB :: MapT bs T.sent :: MapT bt T.told :: By (.slice AZ body.length cZ) body :: Ce (w3.heap.size) 51 #[.int .i64 kind, .int .i64 ffr, .int .i64 fto, .int .u64 (finc : Int), .int .u64 (fconn : Int), .int .u64 (pinc : Int), .int .u64 (pconn : Int), .int .u64 (fack : Int), .int .u64 (fseq : Int), .slice AZ body.length cZ] :: Ce w.heap.size 37 #[.int .i64 d, .int .i64 at_, .int .i64 nn] :: Qs) else if dn 2 = true then Sep w0 W (Rw 51 10 (xv 2) 0 [] :: Ce g 34 #[.pointer (some ⟨a0, 0, none⟩), .pointer (some ⟨a1, 0, none⟩), .int .u64 (((T.l false).si : Nat) : Int), .int .u64 (((T.l true).si : Nat) : Int), .int .u64 ((T.now false : Nat) : Int), .int .u64 ((T.now true : Nat) : Int), .slice (some ⟨bw, ow, none⟩) nl cV, v1, .map (some bs), .map (some bt), .int .i64 ((T.n : Nat) : Int), .bool false] :: Ce a0 72 ((T.l false).cells b0) :: BoxT b0 (T.l false).box :: Ce a1 72 ((T.l true).cells b1) :: BoxT b1 (T.l true).box :: RwO 51 10 (.slice (some ⟨bw, ow, none⟩) nl cV) nl (fR_ W0) :: RwO 51 10 v1 W1.length (fR_ W1) :: Bods BB :: MapT bs T.sent :: MapT bt T.told :: By (.slice AZ body.length cZ) body :: Ce (w3.heap.size) 51 #[.int .i64 kind, .int .i64 ffr, .int .i64 fto, .int .u64 (finc : Int), .int .u64 (fconn : Int), .int .u64 (pinc : Int), .int .u64 (pconn : Int), .int .u64 (fack : Int), .int .u64 (fseq : Int), .slice AZ body.length cZ] :: Ce w.heap.size 37 #[.int .i64 d, .int .i64 at_, .int .i64 nn] :: Qs) else Sep w0 W (Ce g 34 #[.pointer (some ⟨a0, 0, none⟩), .pointer (some ⟨a1, 0, none⟩), .int .u64 (((T.l false).si : Nat) : Int), .int .u64 (((T.l true).si : Nat) : Int), .int .u64 ((T.now false : Nat) : Int), .int .u64 ((T.now true : Nat) : Int), .slice (some ⟨bw, ow, none⟩) nl cV, v1, .map (some bs), .map (some bt), .int .i64 ((T.n : Nat) : Int), .bool false] :: Ce a0 72 ((T.l false).cells b0) :: BoxT b0 (T.l false).box :: Ce a1 72 ((T.l true).cells b1) :: BoxT b1 (T.l true).box :: RwO 51 10 (.slice (some ⟨bw, ow, none⟩) nl cV) nl (fR_ W0) :: RwO 51 10 v1 W1.length (fR_ W1) :: Bods BB :: MapT bs T.sent :: MapT bt T.told :: By (.slice AZ body.length cZ) body :: Ce (w3.heap.size) 51 #[.int .i64 kind, .int .i64 ffr, .int .i64 fto, .int .u64 (finc : Int), .int .u64 (fconn : Int), .int .u64 (pinc : Int), .int .u64 (pconn : Int), .int .u64 (fack : Int), .int .u64 (fseq : Int), .slice AZ body.length cZ] :: Ce w.heap.size 37 #[.int .i64 d, .int .i64 at_, .int .i64 nn] :: Qs)) (fun _ _ => True) [fun v _ => v = .pointer (some ⟨g, 0, none⟩), fun v _ => v = .int .i64 0, fun v _ => True, fun v _ => v = .pointer (some ⟨g, 0, none⟩), fun v _ => v = .int .i64 0, fun v _ => v = .pointer (some ⟨g, 0, none⟩), fun v _ => v = .pointer (some ⟨g, 6, none⟩), fun v _ => v = .pointer (some ⟨g, 6, none⟩), fun v _ => v = .slice (some ⟨bw, ow, none⟩) nl cV, fun v _ => v = .int .i64 (jj : Int), fun v _ => v = .slice (some ⟨bw, ow, none⟩) jj cV, fun v _ => True, fun v _ => v = .pointer (some ⟨g, 0, none⟩), fun v _ => v = .int .i64 0, fun v _ => v = .pointer (some ⟨g, 0, none⟩), fun v _ => v = .pointer (some ⟨g, 6, none⟩), fun v _ => v = .pointer (some ⟨g, 6, none⟩), fun v _ => v = .slice (some ⟨bw, ow, none⟩) nl cV, fun v _ => v = .int .i64 (jj : Int), fun v _ => v = .int .i64 (jk : Int), fun v _ => v = .slice SB n2 c2, fun v _ => True, fun v _ => v = .pointer (some ⟨g, 0, none⟩), fun v _ => v = .pointer (some ⟨g, 6, none⟩), fun v _ => v = .pointer (some ⟨g, 6, none⟩), fun v _ => True] (by kernel_rfl) (by kernel_rfl) (by kernel_rfl) (by kernel_rfl) (fun xv => by simpa using HS5.out.drew)
          (by repeat (first | exact trivial | refine ⟨fun _ _ _ _ h => h, ?_⟩)) ?_ ?_
         ·refine EC 1 rfl (fun h i W F a b c d e H K f => ?_) ?_
          ·have f0 : F.tmps.getD 0 undef = .pointer (some ⟨g, 0, none⟩) := (a 0).trans (by kernel_rfl); clear H c b d a; refine oP rfl ?_; go_simp; exact f.out _ _ rfl trivial e
          refine EC 2 rfl (fun g h W F a b c d e H K f => ?_) ?_
          ·have f4 : F.tmps.getD 4 undef = .int .i64 0 := (a 4).trans (by kernel_rfl); clear H c b d a; refine oP rfl ?_; go_simp; exact f.out _ _ rfl trivial e
          refine EC 3 rfl (fun i k W F a b c e f H K h => ?_) ?_
          ·have q11 : i 11 = false := c 11 (.edge (by kernel_rfl)); have q21 : i 21 = false := c 21 (.more (j := 11) (by kernel_rfl) (.edge (by kernel_rfl))); have q25 : i 25 = false := c 25 (.more (j := 21) (by kernel_rfl) (.more (j := 11) (by kernel_rfl) (.edge (by kernel_rfl)))); rw [if_neg (by simp [q25]), if_neg (by simp [q21]), if_neg (by simp [q11]), if_neg (by simp [b])] at f; have hS := f; clear f c b e a H; refine oP rfl ?_; go_simp; have hs : Sep w0 (W.alloc (.cells #[] 51)) (Rw 51 10 (.slice (some ⟨W.heap.size, 0, none⟩) 0 0) 0 [] :: Ce g 34 #[.pointer (some ⟨a0, 0, none⟩), .pointer (some ⟨a1, 0, none⟩), .int .u64 (((T.l false).si : Nat) : Int), .int .u64 (((T.l true).si : Nat) : Int), .int .u64 ((T.now false : Nat) : Int), .int .u64 ((T.now true : Nat) : Int), .slice (some ⟨bw, ow, none⟩) nl cV, v1, .map (some bs), .map (some bt), .int .i64 ((T.n : Nat) : Int), .bool false] :: Ce a0 72 ((T.l false).cells b0) :: BoxT b0 (T.l false).box :: Ce a1 72 ((T.l true).cells b1) :: BoxT b1 (T.l true).box :: RwO 51 10 (.slice (some ⟨bw, ow, none⟩) nl cV) nl (fR_ W0) :: RwO 51 10 v1 W1.length (fR_ W1) :: Bods BB :: MapT bs T.sent :: MapT bt T.told :: By (.slice AZ body.length cZ) body :: Ce (w3.heap.size) 51 #[.int .i64 kind, .int .i64 ffr, .int .i64 fto, .int .u64 (finc : Int), .int .u64 (fconn : Int), .int .u64 (pinc : Int), .int .u64 (pconn : Int), .int .u64 (fack : Int), .int .u64 (fseq : Int), .slice AZ body.length cZ] :: Ce w.heap.size 37 #[.int .i64 d, .int .i64 at_, .int .i64 nn] :: Qs) := sep_rwEmpty hS; exact h.out _ _ trivial trivial (by simpa [upB, upd, q11, q21, q25] using hs)
          refine EC 4 rfl (fun h i W F a b c d e H K f => ?_) ?_
          ·have f0 : F.tmps.getD 0 undef = .pointer (some ⟨g, 0, none⟩) := (a 0).trans (by kernel_rfl); clear H c b d a; refine oP rfl ?_; go_simp; exact f.out _ _ rfl trivial e
          refine EC 5 rfl (fun g h W F a b c d e H K f => ?_) ?_
          ·have f4 : F.tmps.getD 4 undef = .int .i64 0 := (a 4).trans (by kernel_rfl); clear H c b d a; refine oP rfl ?_; go_simp; exact f.out _ _ rfl trivial e
          refine EC 6 rfl (fun g h W F a b c d e H K f => ?_) ?_
          ·have f91 := gE (a 91) (by kernel_rfl) (H 3) (by kernel_rfl); clear H c b d a; refine oP rfl ?_; go_simp; exact f.out _ _ rfl trivial e
          refine EC 7 rfl (fun g h W F a b c d e H K f => ?_) ?_
          ·have f93 := gE (a 93) (by kernel_rfl) (H 5) (by kernel_rfl); clear H c b d a; refine oP rfl ?_; go_simp; exact f.out _ _ rfl trivial e
          refine EC 8 rfl (fun g h W F a b c d e H K f => ?_) ?_
          ·have f92 := gE (a 92) (by kernel_rfl) (H 4) (by kernel_rfl); have f94 := gE (a 94) (by kernel_rfl) (H 6) (by kernel_rfl); clear H c b d a; refine oP rfl ?_; go_simp; exact f.out _ _ rfl trivial e
          refine EC 9 rfl (fun g h W F a b c d e H K f => ?_) ?_
          ·have f95 := gE (a 95) (by kernel_rfl) (H 7) (by kernel_rfl); have kk := HKW g h W e (c 25 (.more (j := 21) (by kernel_rfl) (.more (j := 11) (by kernel_rfl) (.more (j := 10) (by kernel_rfl) (.edge (by kernel_rfl)))))); clear H c b d a; refine oP rfl ?_; go_simp; exact f.out _ _ rfl trivial e
          refine EC 10 rfl (fun g h W F a b c d e H K f => ?_) ?_
          ·have f6 : F.tmps.getD 6 undef = .int .i64 (jj : Int) := (a 6).trans (by kernel_rfl); clear H c b d a; refine oP rfl ?_; go_simp; exact f.out _ _ rfl trivial e
          refine EC 11 rfl (fun g h W F a b c d e H K f => ?_) ?_
          ·have f96 := gE (a 96) (by kernel_rfl) (H 8) (by kernel_rfl); have f97 := gE (a 97) (by kernel_rfl) (H 9) (by kernel_rfl); have rs := HR1.out W; clear H c b d a; refine oP rfl ?_; go_simp; exact f.out _ _ rfl trivial e
          refine EC 12 rfl (fun k o W F a b c e f H K h => ?_) ?_
          ·have f90 : F.tmps.getD 90 undef = o 2 := (a 90).trans (by kernel_rfl); have f98 := gE (a 98) (by kernel_rfl) (H 10) (by kernel_rfl); have q2 : k 2 = true := (H 2 (.edge (by kernel_rfl))).1; have q21 : k 21 = false := c 21 (.edge (by kernel_rfl)); have q25 : k 25 = false := c 25 (.more (j := 21) (by kernel_rfl) (.edge (by kernel_rfl))); rw [if_neg (by simp [q25]), if_neg (by simp [q21]), if_neg (by simp [b]), if_pos q2] at f; have hS := f; clear f c b e a H; refine oP rfl ?_; refine sep_opAppW rowFrames (i := 0) (s := .tmp 90) (x := .tmp 98) (m := jj) (news := ((fR_ W0).take (jj * 10))) (by rfl) f90 f98 hS rfl HL1.out ((sep_rwoHas (i := 6) hS rfl).take _) HX1.out (by unfold maxLen; omega) (by omega) ?_; intro v W' hs0; have hs : Sep w0 W' (Rw 51 10 v jj ((fR_ W0).take (jj * 10)) :: Ce g 34 #[.pointer (some ⟨a0, 0, none⟩), .pointer (some ⟨a1, 0, none⟩), .int .u64 (((T.l false).si : Nat) : Int), .int .u64 (((T.l true).si : Nat) : Int), .int .u64 ((T.now false : Nat) : Int), .int .u64 ((T.now true : Nat) : Int), .slice (some ⟨bw, ow, none⟩) nl cV, v1, .map (some bs), .map (some bt), .int .i64 ((T.n : Nat) : Int), .bool false] :: Ce a0 72 ((T.l false).cells b0) :: BoxT b0 (T.l false).box :: Ce a1 72 ((T.l true).cells b1) :: BoxT b1 (T.l true).box :: RwO 51 10 (.slice (some ⟨bw, ow, none⟩) nl cV) nl (fR_ W0) :: RwO 51 10 v1 W1.length (fR_ W1) :: Bods BB :: MapT bs T.sent :: MapT bt T.told :: By (.slice AZ body.length cZ) body :: Ce (w3.heap.size) 51 #[.int .i64 kind, .int .i64 ffr, .int .i64 fto, .int .u64 (finc : Int), .int .u64 (fconn : Int), .int .u64 (pinc : Int), .int .u64 (pconn : Int), .int .u64 (fack : Int), .int .u64 (fseq : Int), .slice AZ body.length cZ] :: Ce w.heap.size 37 #[.int .i64 d, .int .i64 at_, .int .i64 nn] :: Qs) := by simpa using hs0
           exact h.out v W' trivial trivial (by simpa [upB, upd, q21, q25] using hs)
          refine EC 13 rfl (fun h i W F a b c d e H K f => ?_) ?_
          ·have f0 : F.tmps.getD 0 undef = .pointer (some ⟨g, 0, none⟩) := (a 0).trans (by kernel_rfl); clear H c b d a; refine oP rfl ?_; go_simp; exact f.out _ _ rfl trivial e
          refine EC 14 rfl (fun g h W F a b c d e H K f => ?_) ?_
          ·have f4 : F.tmps.getD 4 undef = .int .i64 0 := (a 4).trans (by kernel_rfl); clear H c b d a; refine oP rfl ?_; go_simp; exact f.out _ _ rfl trivial e
          refine EC 15 rfl (fun g h W F a b c d e H K f => ?_) ?_
          ·have f100 := gE (a 100) (by kernel_rfl) (H 12) (by kernel_rfl); clear H c b d a; refine oP rfl ?_; go_simp; exact f.out _ _ rfl trivial e
          refine EC 16 rfl (fun g h W F a b c d e H K f => ?_) ?_
          ·have f102 := gE (a 102) (by kernel_rfl) (H 14) (by kernel_rfl); clear H c b d a; refine oP rfl ?_; go_simp; exact f.out _ _ rfl trivial e
          refine EC 17 rfl (fun g h W F a b c d e H K f => ?_) ?_
          ·have f101 := gE (a 101) (by kernel_rfl) (H 13) (by kernel_rfl); have f103 := gE (a 103) (by kernel_rfl) (H 15) (by kernel_rfl); clear H c b d a; refine oP rfl ?_; go_simp; exact f.out _ _ rfl trivial e
          refine EC 18 rfl (fun g h W F a b c d e H K f => ?_) ?_
          ·have f104 := gE (a 104) (by kernel_rfl) (H 16) (by kernel_rfl); have kk := HKW g h W e (c 25 (.more (j := 21) (by kernel_rfl) (.more (j := 20) (by kernel_rfl) (.edge (by kernel_rfl))))); clear H c b d a; refine oP rfl ?_; go_simp; exact f.out _ _ rfl trivial e
          refine EC 19 rfl (fun g h W F a b c d e H K f => ?_) ?_
          ·have f6 : F.tmps.getD 6 undef = .int .i64 (jj : Int) := (a 6).trans (by kernel_rfl); clear H c b d a; refine oP rfl ?_; go_simp; exact f.out _ _ rfl trivial e
          refine EC 20 rfl (fun g h W F a b c d e H K f => ?_) ?_
          ·have f106 := gE (a 106) (by kernel_rfl) (H 18) (by kernel_rfl); clear H c b d a; refine oP rfl ?_; go_simp; exact f.out _ _ rfl trivial e
          refine EC 21 rfl (fun g h W F a b c d e H K f => ?_) ?_
          ·have f105 := gE (a 105) (by kernel_rfl) (H 17) (by kernel_rfl); have f107 := gE (a 107) (by kernel_rfl) (H 19) (by kernel_rfl); have rs := HR2.out W; clear H c b d a; refine oP rfl ?_; go_simp; exact f.out _ _ rfl trivial e
          refine EC 22 rfl (fun j k W F a b c e f H K h => ?_) ?_
          ·have f99 : F.tmps.getD 99 undef = k 11 := (a 99).trans (by kernel_rfl); have f108 := gE (a 108) (by kernel_rfl) (H 20) (by kernel_rfl); have q11 : j 11 = true := (H 11 (.edge (by kernel_rfl))).1; have q25 : j 25 = false := c 25 (.edge (by kernel_rfl)); rw [if_neg (by simp [q25]), if_neg (by simp [b]), if_pos q11] at f; have hS := f; clear f c b e a H; refine oP rfl ?_; refine sep_opAppW rowFrames (i := 0) (s := .tmp 99) (x := .tmp 108) (m := n2) (news := ((fR_ W0).drop ((jj + 1) * 10))) (by rfl) f99 f108 hS rfl HL2.out (HH2.out W (sep_rwoOwn (i := 6) hS rfl)) HX2.out (by unfold maxLen; omega) (by omega) ?_; intro v W' hs0; rw [HN2.out] at hs0; have hs : Sep w0 W' (Rw 51 10 v nn2 (((fR_ W0).take (jj * 10)) ++ ((fR_ W0).drop ((jj + 1) * 10))) :: Ce g 34 #[.pointer (some ⟨a0, 0, none⟩), .pointer (some ⟨a1, 0, none⟩), .int .u64 (((T.l false).si : Nat) : Int), .int .u64 (((T.l true).si : Nat) : Int), .int .u64 ((T.now false : Nat) : Int), .int .u64 ((T.now true : Nat) : Int), .slice (some ⟨bw, ow, none⟩) nl cV, v1, .map (some bs), .map (some bt), .int .i64 ((T.n : Nat) : Int), .bool false] :: Ce a0 72 ((T.l false).cells b0) :: BoxT b0 (T.l false).box :: Ce a1 72 ((T.l true).cells b1) :: BoxT b1 (T.l true).box :: RwO 51 10 (.slice (some ⟨bw, ow, none⟩) nl cV) nl (fR_ W0) :: RwO 51 10 v1 W1.length (fR_ W1) :: Bods BB :: MapT bs T.sent :: MapT bt T.told :: By (.slice AZ body.length cZ) body :: Ce (w3.heap.size) 51 #[.int .i64 kind, .int .i64 ffr, .int .i64 fto, .int .u64 (finc : Int), .int .u64 (fconn : Int), .int .u64 (pinc : Int), .int .u64 (pconn : Int), .int .u64 (fack : Int), .int .u64 (fseq : Int), .slice AZ body.length cZ] :: Ce w.heap.size 37 #[.int .i64 d, .int .i64 at_, .int .i64 nn] :: Qs) := hs0; exact h.out v W' trivial trivial (by simpa [upB, upd, q25] using hs)
          refine EC 23 rfl (fun g h W F a b c d e H K f => ?_) ?_
          ·have f88 := gE (a 88) (by kernel_rfl) (H 0) (by kernel_rfl); clear H c b d a; refine oP rfl ?_; go_simp; exact f.out _ _ rfl trivial e
          refine EC 24 rfl (fun g h W F a b c d e H K f => ?_) ?_
          ·have f110 := gE (a 110) (by kernel_rfl) (H 22) (by kernel_rfl); clear H c b d a; refine oP rfl ?_; go_simp; exact f.out _ _ rfl trivial e
          refine EC 25 rfl (fun g h W F a b c d e H K f => ?_) ?_
          ·have f89 := gE (a 89) (by kernel_rfl) (H 1) (by kernel_rfl); have f111 := gE (a 111) (by kernel_rfl) (H 23) (by kernel_rfl); clear H c b d a; refine oP rfl ?_; go_simp; exact f.out _ _ rfl trivial e
          refine EC 26 rfl (fun j k W F a b c e f H K h => ?_) ?_
          ·have f109 : F.tmps.getD 109 undef = k 21 := (a 109).trans (by kernel_rfl); have f112 := gE (a 112) (by kernel_rfl) (H 24) (by kernel_rfl); have q21 : j 21 = true := (H 21 (.edge (by kernel_rfl))).1; rw [if_neg (by simp [b]), if_pos q21] at f; have hS := f; clear f c b e a H; refine oP rfl ?_; obtain ⟨A2, c3, e2, _⟩ := sep_rwForm (i := 0) hS rfl; have hc3 := cA (i := 1) hS rfl 6 rfl; have hf3 := cFz (i := 1) hS rfl 6; rw [e2] at hS; have hs0 := cS (i := 1) hS rfl 6 (.slice A2 nn2 c3); have hs : ∃ v, Sep w0 (W.setCell ⟨g, 6, none⟩ (.slice A2 nn2 c3)) (Rw 51 10 v nn2 (((fR_ W0).take (jj * 10)) ++ ((fR_ W0).drop ((jj + 1) * 10))) :: Ce g 34 #[.pointer (some ⟨a0, 0, none⟩), .pointer (some ⟨a1, 0, none⟩), .int .u64 (((T.l false).si : Nat) : Int), .int .u64 (((T.l true).si : Nat) : Int), .int .u64 ((T.now false : Nat) : Int), .int .u64 ((T.now true : Nat) : Int), v, v1, .map (some bs), .map (some bt), .int .i64 ((T.n : Nat) : Int), .bool false] :: Ce a0 72 ((T.l false).cells b0) :: BoxT b0 (T.l false).box :: Ce a1 72 ((T.l true).cells b1) :: BoxT b1 (T.l true).box :: RwO 51 10 (.slice (some ⟨bw, ow, none⟩) nl cV) nl (fR_ W0) :: RwO 51 10 v1 W1.length (fR_ W1) :: Bods BB :: MapT bs T.sent :: MapT bt T.told :: By (.slice AZ body.length cZ) body :: Ce (w3.heap.size) 51 #[.int .i64 kind, .int .i64 ffr, .int .i64 fto, .int .u64 (finc : Int), .int .u64 (fconn : Int), .int .u64 (pinc : Int), .int .u64 (pconn : Int), .int .u64 (fack : Int), .int .u64 (fseq : Int), .slice AZ body.length cZ] :: Ce w.heap.size 37 #[.int .i64 d, .int .i64 at_, .int .i64 nn] :: Qs) := ⟨_, hs0⟩; clear hs0; go_simp; exact h.out undef _ trivial trivial (by simpa [upB, upd] using hs)
          exact EN
         ·intro dn xv W hI H; have qe : dn 25 = true := (H 25 (of_decide_eq_true (by kernel_rfl))).1; rw [if_pos qe] at hI; have hS := hI; clear H hI qe; simp only [putAll, Act.put, List.setIfInBounds_toArray, List.set_cons_zero, List.set_cons_succ, Nat.reduceAdd]; obtain ⟨v, hS⟩ := hS; have hS2 := sep_rwoOf (i := 0) hS rfl; have HS6 := Lib.hid (show Sep w0 W (Ce g 34 #[.pointer (some ⟨a0, 0, none⟩), .pointer (some ⟨a1, 0, none⟩), .int .u64 (((T.l false).si : Nat) : Int), .int .u64 (((T.l true).si : Nat) : Int), .int .u64 ((T.now false : Nat) : Int), .int .u64 ((T.now true : Nat) : Int), v, v1, .map (some bs), .map (some bt), .int .i64 ((T.n : Nat) : Int), .bool false] :: Ce a0 72 ((T.l false).cells b0) :: BoxT b0 (T.l false).box :: Ce a1 72 ((T.l true).cells b1) :: BoxT b1 (T.l true).box :: RwO 51 10 v nn2 (((fR_ W0).take (jj * 10)) ++ ((fR_ W0).drop ((jj + 1) * 10))) :: RwO 51 10 v1 W1.length (fR_ W1) :: Bods BB :: MapT bs T.sent :: MapT bt T.told :: By (.slice AZ body.length cZ) body :: Ce (w3.heap.size) 51 #[.int .i64 kind, .int .i64 ffr, .int .i64 fto, .int .u64 (finc : Int), .int .u64 (fconn : Int), .int .u64 (pinc : Int), .int .u64 (pconn : Int), .int .u64 (fack : Int), .int .u64 (fseq : Int), .slice AZ body.length cZ] :: Ce w.heap.size 37 #[.int .i64 d, .int .i64 at_, .int .i64 nn] :: Qs) from (((((((hS2.drop 6)).tF 0 rfl).tF 5 rfl).tF 5 rfl).tF 5 rfl).tF 5 rfl).tF 5 rfl); clear hS hS2 HKW ejk
          go_wp2_with fail
          go_meet
          case rel =>
           rw [← HT0.out, if_neg H3.out]; refine ⟨b0, b1, v, v1, W0.eraseIdx jj, W1, BB, bs, bt, ?_, ?_, ?_, ?_, ?_⟩
           ·rw [map_erase, HQW.out.1]; rfl
           ·exact HQW.out.2.1
           ·exact fun y hy => HQW.out.2.2.1 y (frBods_erase hy)
           ·exact HQW.out.2.2.2
           ·have h9 := HS6.out; have hl9 : nn2 = (W0.eraseIdx jj).length := by
             have e1 := Hnl.out; have e2 := Hn2.out; have e3 := HN2.out; have e4 := (List.getElem?_eq_some_iff.1 HHP.out).1; rw [List.length_eraseIdx, if_pos e4]; omega
            rw [hl9, ← frRow_erase] at h9; exact h9
       case rest =>
        have HA6 := Lib.hid hcut; have kd := HA6.out.q2 0 (v := .int .i64 d) rfl
        by_cases h4 : d = 4
        ·subst h4; have HR4 : Hid (T.act 4 false k = T0.trim) := Lib.hid (by
          have h := act_mid (T := T) (d := 4) (.inr (.inr rfl)) HJW.out HFW.out; dsimp only at h; rw [HT0.out, if_pos rfl] at h; exact h)
         go_wp2_with fail
         go_meet
         case rel => exact ⟨a0, a1, T0, HA6.out.pop.pop.pop, Lib.hid ⟨HR4.out, HO0.out.mono (by omega)⟩⟩
        ·have e4 : (d != 4) = true := by simpa using h4
         have H4 := Lib.hid h4; have HF : Hid (∀ W, TwA a0 a1 w0 W g T0 (By (.slice AZ body.length cZ) body :: Ce (w3.heap.size) 51 #[.int .i64 kind, .int .i64 ffr, .int .i64 fto, .int .u64 (finc : Int), .int .u64 (fconn : Int), .int .u64 (pinc : Int), .int .u64 (pconn : Int), .int .u64 (fack : Int), .int .u64 (fseq : Int), .slice AZ body.length cZ] :: Ce w.heap.size 37 #[.int .i64 d, .int .i64 at_, .int .i64 nn] :: Qs) → W.cell? ⟨w3.heap.size, 0, none⟩ = some (.int .i64 kind) ∧ W.cell? ⟨w3.heap.size, 1, none⟩ = some (.int .i64 ffr) ∧ W.cell? ⟨w3.heap.size, 2, none⟩ = some (.int .i64 fto) ∧ W.cell? ⟨w3.heap.size, 3, none⟩ = some (.int .u64 (finc : Int)) ∧ W.cell? ⟨w3.heap.size, 4, none⟩ = some (.int .u64 (fconn : Int)) ∧ W.cell? ⟨w3.heap.size, 5, none⟩ = some (.int .u64 (pinc : Int)) ∧ W.cell? ⟨w3.heap.size, 6, none⟩ = some (.int .u64 (pconn : Int)) ∧ W.cell? ⟨w3.heap.size, 7, none⟩ = some (.int .u64 (fack : Int)) ∧ W.cell? ⟨w3.heap.size, 8, none⟩ = some (.int .u64 (fseq : Int)) ∧ W.cell? ⟨w3.heap.size, 9, none⟩ = some (.slice AZ body.length cZ)) := Lib.hid (fun W hq => ⟨hq.q1 0 rfl, hq.q1 1 rfl, hq.q1 2 rfl, hq.q1 3 rfl, hq.q1 4 rfl, hq.q1 5 rfl, hq.q1 6 rfl, hq.q1 7 rfl, hq.q1 8 rfl, hq.q1 9 rfl⟩); have HC1 := Lib.hid (fun (W : World) (hS : TwA a0 a1 w0 W g T0 (By (.slice AZ body.length cZ) body :: Ce (w3.heap.size) 51 #[.int .i64 kind, .int .i64 ffr, .int .i64 fto, .int .u64 (finc : Int), .int .u64 (fconn : Int), .int .u64 (pinc : Int), .int .u64 (pconn : Int), .int .u64 (fack : Int), .int .u64 (fseq : Int), .slice AZ body.length cZ] :: Ce w.heap.size 37 #[.int .i64 d, .int .i64 at_, .int .i64 nn] :: Qs)) => show Calls Try.prog 15 #[.pointer (some ⟨a0, 0, none⟩), .int .u64 ((T0.now false : Nat) : Int), .agg #[.int .i64 kind, .int .i64 ffr, .int .i64 fto, .int .u64 (finc : Int), .int .u64 (fconn : Int), .int .u64 (pinc : Int), .int .u64 (pconn : Int), .int .u64 (fack : Int), .int .u64 (fseq : Int), .slice AZ body.length cZ]] W (fun e w' => ∃ v, e = .returned v ∧ MidA a0 a1 v w0 w' g (T0.withL false ((T0.l false).take (T0.now false) fF)) ((T0.l false).takeF (T0.now false) fF) ((T0.l false).takeE (T0.now false) fF) (By (.slice AZ body.length cZ) body :: Ce (w3.heap.size) 51 #[.int .i64 kind, .int .i64 ffr, .int .i64 fto, .int .u64 (finc : Int), .int .u64 (fconn : Int), .int .u64 (pinc : Int), .int .u64 (pconn : Int), .int .u64 (fack : Int), .int .u64 (fseq : Int), .slice AZ body.length cZ] :: Ce w.heap.size 37 #[.int .i64 d, .int .i64 at_, .int .i64 nn] :: Qs)) from by
          have hb := HFO.out; rw [← HfF.out] at hb ⊢; exact takeA0 (f := ⟨kind, ffr, fto, finc, fconn, pinc, pconn, fack, fseq, body⟩) (A := AZ) (c := cZ) hS (reads_by rfl) HO0.out (by omega) (by have := hb.2.2.2.2; unfold maxLen; simp only at this ⊢; omega) (by have := hb.2.2.1; simp only at this ⊢; omega) (by have := hb.2.2.2.1; simp only at this ⊢; omega))
         have HC2 := Lib.hid (fun (W : World) (v : Value) (hS : MidA a0 a1 v w0 W g (T0.withL false ((T0.l false).take (T0.now false) fF)) ((T0.l false).takeF (T0.now false) fF) ((T0.l false).takeE (T0.now false) fF) (By (.slice AZ body.length cZ) body :: Ce (w3.heap.size) 51 #[.int .i64 kind, .int .i64 ffr, .int .i64 fto, .int .u64 (finc : Int), .int .u64 (fconn : Int), .int .u64 (pinc : Int), .int .u64 (pconn : Int), .int .u64 (fack : Int), .int .u64 (fseq : Int), .slice AZ body.length cZ] :: Ce w.heap.size 37 #[.int .i64 d, .int .i64 at_, .int .i64 nn] :: Qs)) => show Calls Try.prog 31 #[.pointer (some ⟨g, 0, none⟩), .int .i64 0, v] W (fun e w' => e = .returned (.tuple #[]) ∧ TwA a0 a1 w0 w' g (T0.take false fF) (By (.slice AZ body.length cZ) body :: Ce (w3.heap.size) 51 #[.int .i64 kind, .int .i64 ffr, .int .i64 fto, .int .u64 (finc : Int), .int .u64 (fconn : Int), .int .u64 (pinc : Int), .int .u64 (pconn : Int), .int .u64 (fack : Int), .int .u64 (fseq : Int), .slice AZ body.length cZ] :: Ce w.heap.size 37 #[.int .i64 d, .int .i64 at_, .int .i64 nn] :: Qs)) from by
          have hn := HO0.out.now false; have hk := takeF_ok (HO0.out.num false) (HO0.out.ids false) (now := T0.now false) (by omega) (f := fF) ⟨HFO.out.1, HFO.out.2.1⟩; exact ansA0 hS (HO0.out.withL false ((HO0.out.num false).take (now := T0.now false) (by omega) fF) (ids_take (HO0.out.ids false) (T0.now false) ⟨HFO.out.1, HFO.out.2.1⟩)) (by omega) (by omega) (by omega))
         clear h4 hcut
         go_wp2_with fail
         refine wRF (fun dn xv W => if dn 16 = true then TwA a0 a1 w0 W g (T0.take false fF) (By (.slice AZ body.length cZ) body :: Ce (w3.heap.size) 51 #[.int .i64 kind, .int .i64 ffr, .int .i64 fto, .int .u64 (finc : Int), .int .u64 (fconn : Int), .int .u64 (pinc : Int), .int .u64 (pconn : Int), .int .u64 (fack : Int), .int .u64 (fseq : Int), .slice AZ body.length cZ] :: Ce w.heap.size 37 #[.int .i64 d, .int .i64 at_, .int .i64 nn] :: Qs) else if dn 15 = true then MidA a0 a1 (xv 15) w0 W g (T0.withL false ((T0.l false).take (T0.now false) fF)) ((T0.l false).takeF (T0.now false) fF) ((T0.l false).takeE (T0.now false) fF) (By (.slice AZ body.length cZ) body :: Ce (w3.heap.size) 51 #[.int .i64 kind, .int .i64 ffr, .int .i64 fto, .int .u64 (finc : Int), .int .u64 (fconn : Int), .int .u64 (pinc : Int), .int .u64 (pconn : Int), .int .u64 (fack : Int), .int .u64 (fseq : Int), .slice AZ body.length cZ] :: Ce w.heap.size 37 #[.int .i64 d, .int .i64 at_, .int .i64 nn] :: Qs) else TwA a0 a1 w0 W g T0 (By (.slice AZ body.length cZ) body :: Ce (w3.heap.size) 51 #[.int .i64 kind, .int .i64 ffr, .int .i64 fto, .int .u64 (finc : Int), .int .u64 (fconn : Int), .int .u64 (pinc : Int), .int .u64 (pconn : Int), .int .u64 (fack : Int), .int .u64 (fseq : Int), .slice AZ body.length cZ] :: Ce w.heap.size 37 #[.int .i64 d, .int .i64 at_, .int .i64 nn] :: Qs)) (fun _ _ => True) [fun v _ => v = .pointer (some ⟨g, 0, none⟩), fun v _ => v = .int .i64 0, fun v _ => v = .pointer (some ⟨g, 0, none⟩), fun v _ => v = .int .i64 0, fun v _ => v = .pointer (some ⟨g, 0, none⟩), fun v _ => v = .pointer (some ⟨g, 0, none⟩), fun v _ => v = .pointer (some ⟨g, 0, none⟩), fun v _ => v = .pointer (some ⟨a0, 0, none⟩), fun v _ => v = .pointer (some ⟨g, 0, none⟩), fun v _ => v = .int .i64 0, fun v _ => v = .pointer (some ⟨g, 0, none⟩), fun v _ => v = .pointer (some ⟨g, 4, none⟩), fun v _ => v = .pointer (some ⟨g, 4, none⟩), fun v _ => v = .int .u64 ((T0.now false : Nat) : Int), fun v _ => v = .agg #[.int .i64 kind, .int .i64 ffr, .int .i64 fto, .int .u64 (finc : Int), .int .u64 (fconn : Int), .int .u64 (pinc : Int), .int .u64 (pconn : Int), .int .u64 (fack : Int), .int .u64 (fseq : Int), .slice AZ body.length cZ], fun v _ => True, fun v _ => True] (by kernel_rfl) (by kernel_rfl) (by kernel_rfl) (by kernel_rfl) (fun xv => by simpa using HA6.out.drew)
          (by repeat (first | exact trivial | refine ⟨fun _ _ _ _ h => h, ?_⟩)) ?_ ?_
         ·refine EC 1 rfl (fun h i W F a b c d e H K f => ?_) ?_
          ·have f0 : F.tmps.getD 0 undef = .pointer (some ⟨g, 0, none⟩) := (a 0).trans (by kernel_rfl); clear H c b d a; refine oP rfl ?_; go_simp; exact f.out _ _ rfl trivial e
          refine EC 2 rfl (fun g h W F a b c d e H K f => ?_) ?_
          ·have f4 : F.tmps.getD 4 undef = .int .i64 0 := (a 4).trans (by kernel_rfl); clear H c b d a; refine oP rfl ?_; go_simp; exact f.out _ _ rfl trivial e
          refine EC 3 rfl (fun h i W F a b c d e H K f => ?_) ?_
          ·have f0 : F.tmps.getD 0 undef = .pointer (some ⟨g, 0, none⟩) := (a 0).trans (by kernel_rfl); clear H c b d a; refine oP rfl ?_; go_simp; exact f.out _ _ rfl trivial e
          refine EC 4 rfl (fun g h W F a b c d e H K f => ?_) ?_
          ·have f4 : F.tmps.getD 4 undef = .int .i64 0 := (a 4).trans (by kernel_rfl); clear H c b d a; refine oP rfl ?_; go_simp; exact f.out _ _ rfl trivial e
          refine EC 5 rfl (fun g h W F a b c d e H K f => ?_) ?_
          ·have f118 := gE (a 118) (by kernel_rfl) (H 2) (by kernel_rfl); clear H c b d a; refine oP rfl ?_; go_simp; exact f.out _ _ rfl trivial e
          refine EC 6 rfl (fun g h W F a b c d e H K f => ?_) ?_
          ·have f120 := gE (a 120) (by kernel_rfl) (H 4) (by kernel_rfl); clear H c b d a; refine oP rfl ?_; go_simp; exact f.out _ _ rfl trivial e
          refine EC 7 rfl (fun g h W F a b c d e H K f => ?_) ?_
          ·have f119 := gE (a 119) (by kernel_rfl) (H 3) (by kernel_rfl); have f121 := gE (a 121) (by kernel_rfl) (H 5) (by kernel_rfl); clear H c b d a; refine oP rfl ?_; go_simp; exact f.out _ _ rfl trivial e
          refine EC 8 rfl (fun g h W F a b c d e H K f => ?_) ?_
          ·have f122 := gE (a 122) (by kernel_rfl) (H 6) (by kernel_rfl); have q1 : g 15 = false := c 15 (.edge (by kernel_rfl)); have q2 : g 16 = false := c 16 (.more (j := 15) (by kernel_rfl) (.edge (by kernel_rfl))); have hq := e; rw [if_neg (by simp [q2]), if_neg (by simp [q1])] at hq; have kk := hq.l0; clear H c b d a; refine oP rfl ?_; go_simp; exact f.out _ _ rfl trivial e
          refine EC 9 rfl (fun h i W F a b c d e H K f => ?_) ?_
          ·have f0 : F.tmps.getD 0 undef = .pointer (some ⟨g, 0, none⟩) := (a 0).trans (by kernel_rfl); clear H c b d a; refine oP rfl ?_; go_simp; exact f.out _ _ rfl trivial e
          refine EC 10 rfl (fun g h W F a b c d e H K f => ?_) ?_
          ·have f4 : F.tmps.getD 4 undef = .int .i64 0 := (a 4).trans (by kernel_rfl); clear H c b d a; refine oP rfl ?_; go_simp; exact f.out _ _ rfl trivial e
          refine EC 11 rfl (fun g h W F a b c d e H K f => ?_) ?_
          ·have f124 := gE (a 124) (by kernel_rfl) (H 8) (by kernel_rfl); clear H c b d a; refine oP rfl ?_; go_simp; exact f.out _ _ rfl trivial e
          refine EC 12 rfl (fun g h W F a b c d e H K f => ?_) ?_
          ·have f126 := gE (a 126) (by kernel_rfl) (H 10) (by kernel_rfl); clear H c b d a; refine oP rfl ?_; go_simp; exact f.out _ _ rfl trivial e
          refine EC 13 rfl (fun g h W F a b c d e H K f => ?_) ?_
          ·have f125 := gE (a 125) (by kernel_rfl) (H 9) (by kernel_rfl); have f127 := gE (a 127) (by kernel_rfl) (H 11) (by kernel_rfl); clear H c b d a; refine oP rfl ?_; go_simp; exact f.out _ _ rfl trivial e
          refine EC 14 rfl (fun g h W F a b c d e H K f => ?_) ?_
          ·have f128 := gE (a 128) (by kernel_rfl) (H 12) (by kernel_rfl); have q1 : g 15 = false := c 15 (.edge (by kernel_rfl)); have q2 : g 16 = false := c 16 (.more (j := 15) (by kernel_rfl) (.edge (by kernel_rfl))); have hq := e; rw [if_neg (by simp [q2]), if_neg (by simp [q1])] at hq; have kk := hq.t0; clear H c b d a; refine oP rfl ?_; go_simp; exact f.out _ _ rfl trivial e
          refine EC 15 rfl (fun g h W F a b c d e H K f => ?_) ?_
          ·have f7 : F.tmps.getD 7 undef = .pointer (some ⟨w3.heap.size, 0, none⟩) := (a 7).trans (by kernel_rfl); have q1 : g 15 = false := c 15 (.edge (by kernel_rfl)); have q2 : g 16 = false := c 16 (.more (j := 15) (by kernel_rfl) (.edge (by kernel_rfl))); have hq := e; rw [if_neg (by simp [q2]), if_neg (by simp [q1])] at hq; obtain ⟨kf0, kf1, kf2, kf3, kf4, kf5, kf6, kf7, kf8, kf9⟩ := HF.out W hq; clear H c b d a; refine oP rfl ?_; go_simp; exact f.out _ _ rfl trivial e
          refine EC 16 rfl (fun h i W F a b c d f H K g => ?_) ?_
          ·have f123 := gE (a 123) (by kernel_rfl) (H 7) (by kernel_rfl); have f129 := gE (a 129) (by kernel_rfl) (H 13) (by kernel_rfl); have f130 := gE (a 130) (by kernel_rfl) (H 14) (by kernel_rfl); have q16 : h 16 = false := c 16 (.edge (by kernel_rfl)); rw [if_neg (by simp [q16]), if_neg (by simp [b])] at f; have hS := f; clear f c b d a H; refine oP rfl ?_; go_simp; refine (HC1.out W hS).mono ?_; rintro e W' ⟨v, rfl, hs⟩; exact g.out v W' trivial trivial (by simpa [upB, upd, q16] using hs)
          refine EC 17 rfl (fun h i W F a b c d f H K g => ?_) ?_
          ·have f116 := gE (a 116) (by kernel_rfl) (H 0) (by kernel_rfl); have f117 := gE (a 117) (by kernel_rfl) (H 1) (by kernel_rfl); have f131 : F.tmps.getD 131 undef = i 15 := (a 131).trans (by kernel_rfl); have q15 : h 15 = true := (H 15 (.edge (by kernel_rfl))).1; rw [if_neg (by simp [b]), if_pos q15] at f; have hS := f; clear f c b d a H; refine oP rfl ?_; go_simp; refine (HC2.out W _ hS).mono ?_; rintro e W' ⟨rfl, hs⟩; exact g.out _ W' trivial trivial (by simpa [upB, upd] using hs)
          exact EN
         ·intro dn xv W hI H; have qe : dn 16 = true := (H 16 (of_decide_eq_true (by kernel_rfl))).1; rw [if_pos qe] at hI; have hS := hI; clear H hI qe; simp only [putAll, Act.put, List.setIfInBounds_toArray, List.set_cons_zero, List.set_cons_succ, Nat.reduceAdd]
          go_wp2_with fail
          go_meet
          case rel => exact ⟨a0, a1, _, hS.pop.pop.pop, Lib.hid ⟨by rw [act_mid H234.out HJW.out HFW.out, HT0.out]; simp only; rw [if_neg H4.out], (HO0.out.take (by omega) false HFO.out).mono (by omega)⟩⟩
    ·have e2 : (d == 2) = false := by simp; omega
     have e3 : (d == 3) = false := by simp; omega
     have e4 : (d == 4) = false := by simp; omega
     by_cases h5 : d = 5
     ·subst h5
      go_wp2_with fail
      refine (lifeA0 HA.out hO (by omega)).mono ?_; rintro e w2 ⟨rfl, a, h2⟩; have HA2 := Lib.hid h2; clear h2
      go_wp2_with fail
      go_meet
      case rel => exact ⟨_, _, _, HA2.out, Lib.hid ⟨by rw [TW.act, if_neg (by decide), if_neg (by decide), if_neg (by decide), if_pos rfl], (hO.life false).mono (by omega)⟩⟩
     ·have e5 : (d == 5) = false := by simpa using h5
      go_wp2_with fail
      go_meet
      case rel => exact ⟨a0, a1, T, HA.out, Lib.hid ⟨by rw [TW.act, if_neg h0, if_neg h1, if_neg h234, if_neg h5], hO.mono (by omega)⟩⟩
 case rest =>
  obtain ⟨c0, c1, T1, hA, HR⟩ := hcut; have HA1 := Lib.hid (show TwA c0 c1 w0 wc g (T1.trimTo 0) Qs by rw [trimTo_0]; exact hA); clear hA HA HAB HSB k0 k1 k2 hO
  go_wp2_with fail
  go_loopw [8] (fun iv wr => ∃ m : Nat, m ≤ 2 ∧ iv = .int .i64 (m : Int) ∧ Hid (TwA c0 c1 w0 wr g (T1.trimTo m) Qs)) (fun iv _ => 2 - (intOf iv).toNat)
  case atStart => exact ⟨0, by omega, rfl, HA1⟩
  case round =>
   obtain ⟨m, hm, rfl, HM⟩ := hrel
   rcases (show m = 0 ∨ m = 1 ∨ m = 2 by omega) with e | e | e
   ·subst e; obtain ⟨b0, b1, v0, v1, W0, W1, BB, bs, bt, q1, q2, q3, q4, h⟩ := HM.out; obtain ⟨AV, cV, hv, hcV, hcV2, _⟩ := sep_rwoForm (i := 5) h rfl; subst hv; obtain ⟨nl, Hnl⟩ : ∃ y, Hid (W0.length = y) := ⟨_, Lib.hid rfl⟩; rw [Hnl.out] at hcV; have HS2 := Lib.hid (show Sep w0 wr (Ce g 34 #[.pointer (some ⟨c0, 0, none⟩), .pointer (some ⟨c1, 0, none⟩), .int .u64 ((((T1.trimTo 0).l false).si : Nat) : Int), .int .u64 ((((T1.trimTo 0).l true).si : Nat) : Int), .int .u64 (((T1.trimTo 0).now false : Nat) : Int), .int .u64 (((T1.trimTo 0).now true : Nat) : Int), .slice AV nl cV, v1, .map (some bs), .map (some bt), .int .i64 (((T1.trimTo 0).n : Nat) : Int), .bool false] :: (Ce c0 72 (((T1.trimTo 0).l false).cells b0) :: BoxT b0 ((T1.trimTo 0).l false).box :: Ce c1 72 (((T1.trimTo 0).l true).cells b1) :: BoxT b1 ((T1.trimTo 0).l true).box :: RwO 51 10 (.slice AV nl cV) nl (fR_ W0) :: RwO 51 10 v1 W1.length (fR_ W1) :: Bods BB :: MapT bs (T1.trimTo 0).sent :: MapT bt (T1.trimTo 0).told :: Qs)) by rw [← Hnl.out]; exact h); have HQ := Lib.hid (And.intro q1 (And.intro q2 (And.intro q3 q4))); have hnl : nl = ((T1.trimTo 0).way false).length := by rw [← Hnl.out, ← q1, List.length_map]
    have hnb : nl ≤ B + 20 := by rw [hnl]; exact HR.out.2.way false
    have HNL := Lib.hid hnl; clear h q1 q2 q3 q4 hnl; have kk := cA (i := 0) HS2.out rfl 6 rfl
    by_cases h3 : 300 < nl
    ·have e3 : decide (300 < (nl : Int)) = true := by simp; omega
     obtain ⟨nd, Hnd⟩ : ∃ y, Hid (nl - 300 = y) := ⟨_, Lib.hid rfl⟩; have hnd : nd ≤ nl := by rw [← Hnd.out]; omega
     have esub : IntKind.i64.wrap ((nl : Int) - 300) = (nd : Int) := by rw [IntKind.wrap_i64]; have := Hnd.out; omega
     obtain ⟨SA, HSA⟩ : ∃ y, Hid ((if cV = nd then AV else AV.map (·.add (nd * 10))) = y) := ⟨_, Lib.hid rfl⟩; obtain ⟨sn, Hsn⟩ : ∃ y, Hid (nl - nd = y) := ⟨_, Lib.hid rfl⟩; obtain ⟨sc, Hsc⟩ : ∃ y, Hid (cV - nd = y) := ⟨_, Lib.hid rfl⟩; have HRS : Hid (∀ W, (Instr.slice 30 (.slice AV nl cV) (some (.int .i64 (nd : Int))) none none).run Try.prog W = .ok (.slice SA sn sc) W) := Lib.hid (fun W => by rw [run_fromF W AV nl cV nd hnd, HSA.out, Hsn.out, Hsc.out]); have HPUT : Hid (∀ W, Sep w0 W (Ce g 34 #[.pointer (some ⟨c0, 0, none⟩), .pointer (some ⟨c1, 0, none⟩), .int .u64 ((((T1.trimTo 0).l false).si : Nat) : Int), .int .u64 ((((T1.trimTo 0).l true).si : Nat) : Int), .int .u64 (((T1.trimTo 0).now false : Nat) : Int), .int .u64 (((T1.trimTo 0).now true : Nat) : Int), .slice AV nl cV, v1, .map (some bs), .map (some bt), .int .i64 (((T1.trimTo 0).n : Nat) : Int), .bool false] :: (Ce c0 72 (((T1.trimTo 0).l false).cells b0) :: BoxT b0 ((T1.trimTo 0).l false).box :: Ce c1 72 (((T1.trimTo 0).l true).cells b1) :: BoxT b1 ((T1.trimTo 0).l true).box :: RwO 51 10 (.slice AV nl cV) nl (fR_ W0) :: RwO 51 10 v1 W1.length (fR_ W1) :: Bods BB :: MapT bs (T1.trimTo 0).sent :: MapT bt (T1.trimTo 0).told :: Qs)) → Sep w0 (W.setCell ⟨g, 6, none⟩ (.slice SA sn sc)) (Ce g 34 #[.pointer (some ⟨c0, 0, none⟩), .pointer (some ⟨c1, 0, none⟩), .int .u64 ((((T1.trimTo 0).l false).si : Nat) : Int), .int .u64 ((((T1.trimTo 0).l true).si : Nat) : Int), .int .u64 (((T1.trimTo 0).now false : Nat) : Int), .int .u64 (((T1.trimTo 0).now true : Nat) : Int), .slice SA sn sc, v1, .map (some bs), .map (some bt), .int .i64 (((T1.trimTo 0).n : Nat) : Int), .bool false] :: (Ce c0 72 (((T1.trimTo 0).l false).cells b0) :: BoxT b0 ((T1.trimTo 0).l false).box :: Ce c1 72 (((T1.trimTo 0).l true).cells b1) :: BoxT b1 ((T1.trimTo 0).l true).box :: RwO 51 10 (.slice SA sn sc) sn ((fR_ W0).drop (nd * 10)) :: RwO 51 10 v1 W1.length (fR_ W1) :: Bods BB :: MapT bs (T1.trimTo 0).sent :: MapT bt (T1.trimTo 0).told :: Qs))) := Lib.hid (fun W hS => by
      have h1 := sep_rwoFrom (i := 5) (cS (i := 0) hS rfl 6 (.slice SA sn sc)) rfl hnd; rw [HSA.out, Hsn.out, Hsc.out] at h1; exact h1)
     clear hnd
     go_wp2_with fail
     refine wRF (fun dn xv W => if dn 14 = true then Sep w0 W (Ce g 34 #[.pointer (some ⟨c0, 0, none⟩), .pointer (some ⟨c1, 0, none⟩), .int .u64 ((((T1.trimTo 0).l false).si : Nat) : Int), .int .u64 ((((T1.trimTo 0).l true).si : Nat) : Int), .int .u64 (((T1.trimTo 0).now false : Nat) : Int), .int .u64 (((T1.trimTo 0).now true : Nat) : Int), .slice SA sn sc, v1, .map (some bs), .map (some bt), .int .i64 (((T1.trimTo 0).n : Nat) : Int), .bool false] :: (Ce c0 72 (((T1.trimTo 0).l false).cells b0) :: BoxT b0 ((T1.trimTo 0).l false).box :: Ce c1 72 (((T1.trimTo 0).l true).cells b1) :: BoxT b1 ((T1.trimTo 0).l true).box :: RwO 51 10 (.slice SA sn sc) sn ((fR_ W0).drop (nd * 10)) :: RwO 51 10 v1 W1.length (fR_ W1) :: Bods BB :: MapT bs (T1.trimTo 0).sent :: MapT bt (T1.trimTo 0).told :: Qs)) else Sep w0 W (Ce g 34 #[.pointer (some ⟨c0, 0, none⟩), .pointer (some ⟨c1, 0, none⟩), .int .u64 ((((T1.trimTo 0).l false).si : Nat) : Int), .int .u64 ((((T1.trimTo 0).l true).si : Nat) : Int), .int .u64 (((T1.trimTo 0).now false : Nat) : Int), .int .u64 (((T1.trimTo 0).now true : Nat) : Int), .slice AV nl cV, v1, .map (some bs), .map (some bt), .int .i64 (((T1.trimTo 0).n : Nat) : Int), .bool false] :: (Ce c0 72 (((T1.trimTo 0).l false).cells b0) :: BoxT b0 ((T1.trimTo 0).l false).box :: Ce c1 72 (((T1.trimTo 0).l true).cells b1) :: BoxT b1 ((T1.trimTo 0).l true).box :: RwO 51 10 (.slice AV nl cV) nl (fR_ W0) :: RwO 51 10 v1 W1.length (fR_ W1) :: Bods BB :: MapT bs (T1.trimTo 0).sent :: MapT bt (T1.trimTo 0).told :: Qs))) (fun _ _ => True) [fun v _ => v = .pointer (some ⟨g, 0, none⟩), fun v _ => v = .int .i64 0, fun v _ => v = .pointer (some ⟨g, 0, none⟩), fun v _ => v = .int .i64 0, fun v _ => v = .pointer (some ⟨g, 0, none⟩), fun v _ => v = .pointer (some ⟨g, 6, none⟩), fun v _ => v = .pointer (some ⟨g, 6, none⟩), fun v _ => v = .slice AV nl cV, fun v _ => v = .int .i64 (nl : Int), fun v _ => v = .int .i64 (nd : Int), fun v _ => v = .slice SA sn sc, fun v _ => v = .pointer (some ⟨g, 0, none⟩), fun v _ => v = .pointer (some ⟨g, 6, none⟩), fun v _ => v = .pointer (some ⟨g, 6, none⟩), fun v _ => True] (by kernel_rfl) (by kernel_rfl) (by kernel_rfl) (by kernel_rfl) (fun xv => by simpa using HS2.out.drew)
      (by repeat (first | exact trivial | refine ⟨fun _ _ _ _ h => h, ?_⟩)) ?_ ?_
     ·refine EC 1 rfl (fun h i W F a b c d e H K f => ?_) ?_
      ·have f0 : F.tmps.getD 0 undef = .pointer (some ⟨g, 0, none⟩) := (a 0).trans (by kernel_rfl); clear H c b d a; refine oP rfl ?_; go_simp; exact f.out _ _ rfl trivial e
      refine EC 2 rfl (fun g h W F a b c d e H K f => ?_) ?_
      ·have f8 : F.tmps.getD 8 undef = .int .i64 0 := (a 8).trans (by kernel_rfl); clear H c b d a; refine oP rfl ?_; go_simp; exact f.out _ _ rfl trivial e
      refine EC 3 rfl (fun h i W F a b c d e H K f => ?_) ?_
      ·have f0 : F.tmps.getD 0 undef = .pointer (some ⟨g, 0, none⟩) := (a 0).trans (by kernel_rfl); clear H c b d a; refine oP rfl ?_; go_simp; exact f.out _ _ rfl trivial e
      refine EC 4 rfl (fun g h W F a b c d e H K f => ?_) ?_
      ·have f8 : F.tmps.getD 8 undef = .int .i64 0 := (a 8).trans (by kernel_rfl); clear H c b d a; refine oP rfl ?_; go_simp; exact f.out _ _ rfl trivial e
      refine EC 5 rfl (fun g h W F a b c d e H K f => ?_) ?_
      ·have f153 := gE (a 153) (by kernel_rfl) (H 2) (by kernel_rfl); clear H c b d a; refine oP rfl ?_; go_simp; exact f.out _ _ rfl trivial e
      refine EC 6 rfl (fun g h W F a b c d e H K f => ?_) ?_
      ·have f155 := gE (a 155) (by kernel_rfl) (H 4) (by kernel_rfl); clear H c b d a; refine oP rfl ?_; go_simp; exact f.out _ _ rfl trivial e
      refine EC 7 rfl (fun g h W F a b c d e H K f => ?_) ?_
      ·have f154 := gE (a 154) (by kernel_rfl) (H 3) (by kernel_rfl); have f156 := gE (a 156) (by kernel_rfl) (H 5) (by kernel_rfl); clear H c b d a; refine oP rfl ?_; go_simp; exact f.out _ _ rfl trivial e
      refine EC 8 rfl (fun g h W F a b c d e H K f => ?_) ?_
      ·have f157 := gE (a 157) (by kernel_rfl) (H 6) (by kernel_rfl); have q14 : g 14 = false := c 14 (.more (j := 10) (by kernel_rfl) (.edge (by kernel_rfl))); have hq := e; rw [if_neg (by simp [q14])] at hq; have kk := cA (i := 0) hq rfl 6 rfl; clear H c b d a; refine oP rfl ?_; go_simp; exact f.out _ _ rfl trivial e
      refine EC 9 rfl (fun g h W F a b c d e H K f => ?_) ?_
      ·have f9 : F.tmps.getD 9 undef = .int .i64 (nl : Int) := (a 9).trans (by kernel_rfl); clear H c b d a; refine oP rfl ?_; go_simp; exact f.out _ _ rfl trivial e
      refine EC 10 rfl (fun g h W F a b c d e H K f => ?_) ?_
      ·have f159 := gE (a 159) (by kernel_rfl) (H 8) (by kernel_rfl); clear H c b d a; refine oP rfl ?_; go_simp; exact f.out _ _ rfl trivial e
      refine EC 11 rfl (fun g h W F a b c d e H K f => ?_) ?_
      ·have f158 := gE (a 158) (by kernel_rfl) (H 7) (by kernel_rfl); have f160 := gE (a 160) (by kernel_rfl) (H 9) (by kernel_rfl); have rs := HRS.out W; clear H c b d a; refine oP rfl ?_; go_simp; exact f.out _ _ rfl trivial e
      refine EC 12 rfl (fun g h W F a b c d e H K f => ?_) ?_
      ·have f151 := gE (a 151) (by kernel_rfl) (H 0) (by kernel_rfl); clear H c b d a; refine oP rfl ?_; go_simp; exact f.out _ _ rfl trivial e
      refine EC 13 rfl (fun g h W F a b c d e H K f => ?_) ?_
      ·have f162 := gE (a 162) (by kernel_rfl) (H 11) (by kernel_rfl); clear H c b d a; refine oP rfl ?_; go_simp; exact f.out _ _ rfl trivial e
      refine EC 14 rfl (fun g h W F a b c d e H K f => ?_) ?_
      ·have f152 := gE (a 152) (by kernel_rfl) (H 1) (by kernel_rfl); have f163 := gE (a 163) (by kernel_rfl) (H 12) (by kernel_rfl); clear H c b d a; refine oP rfl ?_; go_simp; exact f.out _ _ rfl trivial e
      refine EC 15 rfl (fun h j W F a b c d e H K f => ?_) ?_
      ·have f161 := gE (a 161) (by kernel_rfl) (H 10) (by kernel_rfl); have f164 := gE (a 164) (by kernel_rfl) (H 13) (by kernel_rfl); rw [if_neg (by simp [b])] at e; have hS := e; clear e c b d a H; refine oP rfl ?_; have yy := cFz (i := 0) hS rfl 6; have kk := cA (i := 0) hS rfl 6 rfl; have hs : Sep w0 (W.setCell ⟨g, 6, none⟩ (.slice SA sn sc)) (Ce g 34 #[.pointer (some ⟨c0, 0, none⟩), .pointer (some ⟨c1, 0, none⟩), .int .u64 ((((T1.trimTo 0).l false).si : Nat) : Int), .int .u64 ((((T1.trimTo 0).l true).si : Nat) : Int), .int .u64 (((T1.trimTo 0).now false : Nat) : Int), .int .u64 (((T1.trimTo 0).now true : Nat) : Int), .slice SA sn sc, v1, .map (some bs), .map (some bt), .int .i64 (((T1.trimTo 0).n : Nat) : Int), .bool false] :: (Ce c0 72 (((T1.trimTo 0).l false).cells b0) :: BoxT b0 ((T1.trimTo 0).l false).box :: Ce c1 72 (((T1.trimTo 0).l true).cells b1) :: BoxT b1 ((T1.trimTo 0).l true).box :: RwO 51 10 (.slice SA sn sc) sn ((fR_ W0).drop (nd * 10)) :: RwO 51 10 v1 W1.length (fR_ W1) :: Bods BB :: MapT bs (T1.trimTo 0).sent :: MapT bt (T1.trimTo 0).told :: Qs)) := HPUT.out W hS; go_simp; exact f.out undef _ trivial trivial (by simpa [upB, upd] using hs)
      exact EN
     ·intro dn xv W hI H; have qe : dn 14 = true := (H 14 (of_decide_eq_true (by kernel_rfl))).1; rw [if_pos qe] at hI; have hS := hI; clear H hI qe; simp only [putAll, Act.put, List.setIfInBounds_toArray, List.set_cons_zero, List.set_cons_succ, Nat.reduceAdd]; have HS3 := Lib.hid hS; clear hS
      go_wp2_with fail
      go_roundw
      case rel =>
       refine ⟨1, by omega, rfl, Lib.hid ⟨b0, b1, .slice SA sn sc, v1, W0.drop nd, W1, BB, bs, bt, ?_, ?_, ?_, ?_, ?_⟩⟩
       ·rw [List.map_drop, HQ.out.1]; exact trim_nd T1 false HNL.out Hnd.out
       ·exact HQ.out.2.1
       ·exact fun y hy => HQ.out.2.2.1 y (frBods_drop hy)
       ·exact HQ.out.2.2.2
       ·have h1 := HS3.out; rw [← frRow_drop, show sn = (W0.drop nd).length by rw [List.length_drop, Hnl.out, Hsn.out]] at h1; rw [show sn = (W0.drop nd).length by rw [List.length_drop, Hnl.out, Hsn.out]]; exact h1
      case measure => simp [intOf]
    ·have e3 : decide (300 < (nl : Int)) = false := by simp; omega
     have HM2 : Hid (TwA c0 c1 w0 wr g (T1.trimTo 1) Qs) := Lib.hid (by
      rw [trimTo_step0 T1 (by have h4 := HNL.out; rw [show (T1.trimTo 0).way false = T1.way false by simp [TW.trimTo]] at h4; omega)]; exact HM.out)
     go_wp2_with fail
     go_roundw
     case rel => exact ⟨1, by omega, rfl, HM2⟩
     case measure => simp [intOf]
   ·subst e; obtain ⟨b0, b1, v0, v1, W0, W1, BB, bs, bt, q1, q2, q3, q4, h⟩ := HM.out; obtain ⟨AV, cV, hv, hcV, hcV2, _⟩ := sep_rwoForm (i := 6) h rfl; subst hv; obtain ⟨nl, Hnl⟩ : ∃ y, Hid (W1.length = y) := ⟨_, Lib.hid rfl⟩; rw [Hnl.out] at hcV; have HS2 := Lib.hid (show Sep w0 wr (Ce g 34 #[.pointer (some ⟨c0, 0, none⟩), .pointer (some ⟨c1, 0, none⟩), .int .u64 ((((T1.trimTo 1).l false).si : Nat) : Int), .int .u64 ((((T1.trimTo 1).l true).si : Nat) : Int), .int .u64 (((T1.trimTo 1).now false : Nat) : Int), .int .u64 (((T1.trimTo 1).now true : Nat) : Int), v0, .slice AV nl cV, .map (some bs), .map (some bt), .int .i64 (((T1.trimTo 1).n : Nat) : Int), .bool false] :: (Ce c0 72 (((T1.trimTo 1).l false).cells b0) :: BoxT b0 ((T1.trimTo 1).l false).box :: Ce c1 72 (((T1.trimTo 1).l true).cells b1) :: BoxT b1 ((T1.trimTo 1).l true).box :: RwO 51 10 v0 W0.length (fR_ W0) :: RwO 51 10 (.slice AV nl cV) nl (fR_ W1) :: Bods BB :: MapT bs (T1.trimTo 1).sent :: MapT bt (T1.trimTo 1).told :: Qs)) by rw [← Hnl.out]; exact h); have HQ := Lib.hid (And.intro q1 (And.intro q2 (And.intro q3 q4))); have hnl : nl = ((T1.trimTo 1).way true).length := by rw [← Hnl.out, ← q2, List.length_map]
    have hnb : nl ≤ B + 20 := by rw [hnl]; exact HR.out.2.way true
    have HNL := Lib.hid hnl; clear h q1 q2 q3 q4 hnl; have kk := cA (i := 0) HS2.out rfl 7 rfl
    by_cases h3 : 300 < nl
    ·have e3 : decide (300 < (nl : Int)) = true := by simp; omega
     obtain ⟨nd, Hnd⟩ : ∃ y, Hid (nl - 300 = y) := ⟨_, Lib.hid rfl⟩; have hnd : nd ≤ nl := by rw [← Hnd.out]; omega
     have esub : IntKind.i64.wrap ((nl : Int) - 300) = (nd : Int) := by rw [IntKind.wrap_i64]; have := Hnd.out; omega
     obtain ⟨SA, HSA⟩ : ∃ y, Hid ((if cV = nd then AV else AV.map (·.add (nd * 10))) = y) := ⟨_, Lib.hid rfl⟩; obtain ⟨sn, Hsn⟩ : ∃ y, Hid (nl - nd = y) := ⟨_, Lib.hid rfl⟩; obtain ⟨sc, Hsc⟩ : ∃ y, Hid (cV - nd = y) := ⟨_, Lib.hid rfl⟩; have HRS : Hid (∀ W, (Instr.slice 30 (.slice AV nl cV) (some (.int .i64 (nd : Int))) none none).run Try.prog W = .ok (.slice SA sn sc) W) := Lib.hid (fun W => by rw [run_fromF W AV nl cV nd hnd, HSA.out, Hsn.out, Hsc.out]); have HPUT : Hid (∀ W, Sep w0 W (Ce g 34 #[.pointer (some ⟨c0, 0, none⟩), .pointer (some ⟨c1, 0, none⟩), .int .u64 ((((T1.trimTo 1).l false).si : Nat) : Int), .int .u64 ((((T1.trimTo 1).l true).si : Nat) : Int), .int .u64 (((T1.trimTo 1).now false : Nat) : Int), .int .u64 (((T1.trimTo 1).now true : Nat) : Int), v0, .slice AV nl cV, .map (some bs), .map (some bt), .int .i64 (((T1.trimTo 1).n : Nat) : Int), .bool false] :: (Ce c0 72 (((T1.trimTo 1).l false).cells b0) :: BoxT b0 ((T1.trimTo 1).l false).box :: Ce c1 72 (((T1.trimTo 1).l true).cells b1) :: BoxT b1 ((T1.trimTo 1).l true).box :: RwO 51 10 v0 W0.length (fR_ W0) :: RwO 51 10 (.slice AV nl cV) nl (fR_ W1) :: Bods BB :: MapT bs (T1.trimTo 1).sent :: MapT bt (T1.trimTo 1).told :: Qs)) → Sep w0 (W.setCell ⟨g, 7, none⟩ (.slice SA sn sc)) (Ce g 34 #[.pointer (some ⟨c0, 0, none⟩), .pointer (some ⟨c1, 0, none⟩), .int .u64 ((((T1.trimTo 1).l false).si : Nat) : Int), .int .u64 ((((T1.trimTo 1).l true).si : Nat) : Int), .int .u64 (((T1.trimTo 1).now false : Nat) : Int), .int .u64 (((T1.trimTo 1).now true : Nat) : Int), v0, .slice SA sn sc, .map (some bs), .map (some bt), .int .i64 (((T1.trimTo 1).n : Nat) : Int), .bool false] :: (Ce c0 72 (((T1.trimTo 1).l false).cells b0) :: BoxT b0 ((T1.trimTo 1).l false).box :: Ce c1 72 (((T1.trimTo 1).l true).cells b1) :: BoxT b1 ((T1.trimTo 1).l true).box :: RwO 51 10 v0 W0.length (fR_ W0) :: RwO 51 10 (.slice SA sn sc) sn ((fR_ W1).drop (nd * 10)) :: Bods BB :: MapT bs (T1.trimTo 1).sent :: MapT bt (T1.trimTo 1).told :: Qs))) := Lib.hid (fun W hS => by
      have h1 := sep_rwoFrom (i := 6) (cS (i := 0) hS rfl 7 (.slice SA sn sc)) rfl hnd; rw [HSA.out, Hsn.out, Hsc.out] at h1; exact h1)
     clear hnd
     go_wp2_with fail
     refine wRF (fun dn xv W => if dn 14 = true then Sep w0 W (Ce g 34 #[.pointer (some ⟨c0, 0, none⟩), .pointer (some ⟨c1, 0, none⟩), .int .u64 ((((T1.trimTo 1).l false).si : Nat) : Int), .int .u64 ((((T1.trimTo 1).l true).si : Nat) : Int), .int .u64 (((T1.trimTo 1).now false : Nat) : Int), .int .u64 (((T1.trimTo 1).now true : Nat) : Int), v0, .slice SA sn sc, .map (some bs), .map (some bt), .int .i64 (((T1.trimTo 1).n : Nat) : Int), .bool false] :: (Ce c0 72 (((T1.trimTo 1).l false).cells b0) :: BoxT b0 ((T1.trimTo 1).l false).box :: Ce c1 72 (((T1.trimTo 1).l true).cells b1) :: BoxT b1 ((T1.trimTo 1).l true).box :: RwO 51 10 v0 W0.length (fR_ W0) :: RwO 51 10 (.slice SA sn sc) sn ((fR_ W1).drop (nd * 10)) :: Bods BB :: MapT bs (T1.trimTo 1).sent :: MapT bt (T1.trimTo 1).told :: Qs)) else Sep w0 W (Ce g 34 #[.pointer (some ⟨c0, 0, none⟩), .pointer (some ⟨c1, 0, none⟩), .int .u64 ((((T1.trimTo 1).l false).si : Nat) : Int), .int .u64 ((((T1.trimTo 1).l true).si : Nat) : Int), .int .u64 (((T1.trimTo 1).now false : Nat) : Int), .int .u64 (((T1.trimTo 1).now true : Nat) : Int), v0, .slice AV nl cV, .map (some bs), .map (some bt), .int .i64 (((T1.trimTo 1).n : Nat) : Int), .bool false] :: (Ce c0 72 (((T1.trimTo 1).l false).cells b0) :: BoxT b0 ((T1.trimTo 1).l false).box :: Ce c1 72 (((T1.trimTo 1).l true).cells b1) :: BoxT b1 ((T1.trimTo 1).l true).box :: RwO 51 10 v0 W0.length (fR_ W0) :: RwO 51 10 (.slice AV nl cV) nl (fR_ W1) :: Bods BB :: MapT bs (T1.trimTo 1).sent :: MapT bt (T1.trimTo 1).told :: Qs))) (fun _ _ => True) [fun v _ => v = .pointer (some ⟨g, 0, none⟩), fun v _ => v = .int .i64 1, fun v _ => v = .pointer (some ⟨g, 0, none⟩), fun v _ => v = .int .i64 1, fun v _ => v = .pointer (some ⟨g, 0, none⟩), fun v _ => v = .pointer (some ⟨g, 6, none⟩), fun v _ => v = .pointer (some ⟨g, 7, none⟩), fun v _ => v = .slice AV nl cV, fun v _ => v = .int .i64 (nl : Int), fun v _ => v = .int .i64 (nd : Int), fun v _ => v = .slice SA sn sc, fun v _ => v = .pointer (some ⟨g, 0, none⟩), fun v _ => v = .pointer (some ⟨g, 6, none⟩), fun v _ => v = .pointer (some ⟨g, 7, none⟩), fun v _ => True] (by kernel_rfl) (by kernel_rfl) (by kernel_rfl) (by kernel_rfl) (fun xv => by simpa using HS2.out.drew)
      (by repeat (first | exact trivial | refine ⟨fun _ _ _ _ h => h, ?_⟩)) ?_ ?_
     ·refine EC 1 rfl (fun h i W F a b c d e H K f => ?_) ?_
      ·have f0 : F.tmps.getD 0 undef = .pointer (some ⟨g, 0, none⟩) := (a 0).trans (by kernel_rfl); clear H c b d a; refine oP rfl ?_; go_simp; exact f.out _ _ rfl trivial e
      refine EC 2 rfl (fun g h W F a b c d e H K f => ?_) ?_
      ·have f8 : F.tmps.getD 8 undef = .int .i64 1 := (a 8).trans (by kernel_rfl); clear H c b d a; refine oP rfl ?_; go_simp; exact f.out _ _ rfl trivial e
      refine EC 3 rfl (fun h i W F a b c d e H K f => ?_) ?_
      ·have f0 : F.tmps.getD 0 undef = .pointer (some ⟨g, 0, none⟩) := (a 0).trans (by kernel_rfl); clear H c b d a; refine oP rfl ?_; go_simp; exact f.out _ _ rfl trivial e
      refine EC 4 rfl (fun g h W F a b c d e H K f => ?_) ?_
      ·have f8 : F.tmps.getD 8 undef = .int .i64 1 := (a 8).trans (by kernel_rfl); clear H c b d a; refine oP rfl ?_; go_simp; exact f.out _ _ rfl trivial e
      refine EC 5 rfl (fun g h W F a b c d e H K f => ?_) ?_
      ·have f153 := gE (a 153) (by kernel_rfl) (H 2) (by kernel_rfl); clear H c b d a; refine oP rfl ?_; go_simp; exact f.out _ _ rfl trivial e
      refine EC 6 rfl (fun g h W F a b c d e H K f => ?_) ?_
      ·have f155 := gE (a 155) (by kernel_rfl) (H 4) (by kernel_rfl); clear H c b d a; refine oP rfl ?_; go_simp; exact f.out _ _ rfl trivial e
      refine EC 7 rfl (fun g h W F a b c d e H K f => ?_) ?_
      ·have f154 := gE (a 154) (by kernel_rfl) (H 3) (by kernel_rfl); have f156 := gE (a 156) (by kernel_rfl) (H 5) (by kernel_rfl); clear H c b d a; refine oP rfl ?_; go_simp; exact f.out _ _ rfl trivial e
      refine EC 8 rfl (fun g h W F a b c d e H K f => ?_) ?_
      ·have f157 := gE (a 157) (by kernel_rfl) (H 6) (by kernel_rfl); have q14 : g 14 = false := c 14 (.more (j := 10) (by kernel_rfl) (.edge (by kernel_rfl))); have hq := e; rw [if_neg (by simp [q14])] at hq; have kk := cA (i := 0) hq rfl 7 rfl; clear H c b d a; refine oP rfl ?_; go_simp; exact f.out _ _ rfl trivial e
      refine EC 9 rfl (fun g h W F a b c d e H K f => ?_) ?_
      ·have f9 : F.tmps.getD 9 undef = .int .i64 (nl : Int) := (a 9).trans (by kernel_rfl); clear H c b d a; refine oP rfl ?_; go_simp; exact f.out _ _ rfl trivial e
      refine EC 10 rfl (fun g h W F a b c d e H K f => ?_) ?_
      ·have f159 := gE (a 159) (by kernel_rfl) (H 8) (by kernel_rfl); clear H c b d a; refine oP rfl ?_; go_simp; exact f.out _ _ rfl trivial e
      refine EC 11 rfl (fun g h W F a b c d e H K f => ?_) ?_
      ·have f158 := gE (a 158) (by kernel_rfl) (H 7) (by kernel_rfl); have f160 := gE (a 160) (by kernel_rfl) (H 9) (by kernel_rfl); have rs := HRS.out W; clear H c b d a; refine oP rfl ?_; go_simp; exact f.out _ _ rfl trivial e
      refine EC 12 rfl (fun g h W F a b c d e H K f => ?_) ?_
      ·have f151 := gE (a 151) (by kernel_rfl) (H 0) (by kernel_rfl); clear H c b d a; refine oP rfl ?_; go_simp; exact f.out _ _ rfl trivial e
      refine EC 13 rfl (fun g h W F a b c d e H K f => ?_) ?_
      ·have f162 := gE (a 162) (by kernel_rfl) (H 11) (by kernel_rfl); clear H c b d a; refine oP rfl ?_; go_simp; exact f.out _ _ rfl trivial e
      refine EC 14 rfl (fun g h W F a b c d e H K f => ?_) ?_
      ·have f152 := gE (a 152) (by kernel_rfl) (H 1) (by kernel_rfl); have f163 := gE (a 163) (by kernel_rfl) (H 12) (by kernel_rfl); clear H c b d a; refine oP rfl ?_; go_simp; exact f.out _ _ rfl trivial e
      refine EC 15 rfl (fun h j W F a b c d e H K f => ?_) ?_
      ·have f161 := gE (a 161) (by kernel_rfl) (H 10) (by kernel_rfl); have f164 := gE (a 164) (by kernel_rfl) (H 13) (by kernel_rfl); rw [if_neg (by simp [b])] at e; have hS := e; clear e c b d a H; refine oP rfl ?_; have yy := cFz (i := 0) hS rfl 7; have kk := cA (i := 0) hS rfl 7 rfl; have hs : Sep w0 (W.setCell ⟨g, 7, none⟩ (.slice SA sn sc)) (Ce g 34 #[.pointer (some ⟨c0, 0, none⟩), .pointer (some ⟨c1, 0, none⟩), .int .u64 ((((T1.trimTo 1).l false).si : Nat) : Int), .int .u64 ((((T1.trimTo 1).l true).si : Nat) : Int), .int .u64 (((T1.trimTo 1).now false : Nat) : Int), .int .u64 (((T1.trimTo 1).now true : Nat) : Int), v0, .slice SA sn sc, .map (some bs), .map (some bt), .int .i64 (((T1.trimTo 1).n : Nat) : Int), .bool false] :: (Ce c0 72 (((T1.trimTo 1).l false).cells b0) :: BoxT b0 ((T1.trimTo 1).l false).box :: Ce c1 72 (((T1.trimTo 1).l true).cells b1) :: BoxT b1 ((T1.trimTo 1).l true).box :: RwO 51 10 v0 W0.length (fR_ W0) :: RwO 51 10 (.slice SA sn sc) sn ((fR_ W1).drop (nd * 10)) :: Bods BB :: MapT bs (T1.trimTo 1).sent :: MapT bt (T1.trimTo 1).told :: Qs)) := HPUT.out W hS; go_simp; exact f.out undef _ trivial trivial (by simpa [upB, upd] using hs)
      exact EN
     ·intro dn xv W hI H; have qe : dn 14 = true := (H 14 (of_decide_eq_true (by kernel_rfl))).1; rw [if_pos qe] at hI; have hS := hI; clear H hI qe; simp only [putAll, Act.put, List.setIfInBounds_toArray, List.set_cons_zero, List.set_cons_succ, Nat.reduceAdd]; have HS3 := Lib.hid hS; clear hS
      go_wp2_with fail
      go_roundw
      case rel =>
       refine ⟨2, by omega, rfl, Lib.hid ⟨b0, b1, v0, .slice SA sn sc, W0, W1.drop nd, BB, bs, bt, ?_, ?_, ?_, ?_, ?_⟩⟩
       ·exact HQ.out.1
       ·rw [List.map_drop, HQ.out.2.1]; exact trim_nd T1 true HNL.out Hnd.out
       ·exact HQ.out.2.2.1
       ·exact fun y hy => HQ.out.2.2.2 y (frBods_drop hy)
       ·have h1 := HS3.out; rw [← frRow_drop, show sn = (W1.drop nd).length by rw [List.length_drop, Hnl.out, Hsn.out]] at h1; rw [show sn = (W1.drop nd).length by rw [List.length_drop, Hnl.out, Hsn.out]]; exact h1
      case measure => simp [intOf]
    ·have e3 : decide (300 < (nl : Int)) = false := by simp; omega
     have HM2 : Hid (TwA c0 c1 w0 wr g (T1.trimTo 2) Qs) := Lib.hid (by
      rw [trimTo_step1 T1 (by have h4 := HNL.out; rw [show (T1.trimTo 1).way true = T1.way true by simp [TW.trimTo]] at h4; omega)]; exact HM.out)
     go_wp2_with fail
     go_roundw
     case rel => exact ⟨2, by omega, rfl, HM2⟩
     case measure => simp [intOf]
   ·subst e
    go_wp2_with fail
    go_end0
    refine ⟨rfl, false, k, c0, c1, ?_, ?_⟩
    ·rw [HR.out.1, ← trimTo_2]; exact HM.out
    ·rw [HR.out.1]; exact HR.out.2.trim
set_option maxHeartbeats 6400000 in
theorem act1 {w0 w : World} {Qs : List SP} {g a0 a1 B : Nat} {T : TW} (h : TwA a0 a1 w0 w g T Qs) (hO : T.Ok B) (hB : B ≤ 1000000) (d at_ nn : Int) (heb : bits .and .i64 at_ 1 = 1) :
  Calls Try.prog 10 #[.pointer (some ⟨g, 0, none⟩), .agg #[.int .i64 d, .int .i64 at_, .int .i64 nn]] w fun e w' => e = .returned (.tuple #[]) ∧ ActP w0 w' g T d Qs B := by
 obtain ⟨k, hk, hk2⟩ := and_low nn 65535 (by omega); have ek : bits .and .i64 nn 65535 = (k : Int) := hk2; have HSB := Lib.hid (sep_ce (Sep.nil w) #[.int .i64 d, .int .i64 at_, .int .i64 nn] 37); have HA := Lib.hid (h.grow ((Below.refl _ _).alloc (Nat.le_refl _) (.cells #[.int .i64 d, .int .i64 at_, .int .i64 nn] 37))); have HAB := Lib.hid (h.ce #[.int .i64 d, .int .i64 at_, .int .i64 nn] 37); have k0 := cA (i := 0) HSB.out rfl 0 rfl; have k1 := cA (i := 0) HSB.out rfl 1 rfl; have k2 := cA (i := 0) HSB.out rfl 2 rfl; clear h hk2; have ei : bits .and .i64 at_ 1 = 1 := heb; go_enter Try.func10, Try.ntmps10
 go_upto_block 0 with fail
 go_cut [6, 7] from 18 to 137 (fun u6 u7 wx => ∃ b0 b1 T1, TwA b0 b1 w0 wx g T1 Qs ∧ Hid (T.act d true k = T1.trim ∧ T1.Ok (B + 20)))
 case first =>
  clear k1 k2
  by_cases h0 : d = 0
  ·subst h0; have HB0 := Lib.hid k0; obtain ⟨kq, Hkq⟩ : ∃ x, Hid (k % 4 = x) := ⟨_, Lib.hid rfl⟩; have hkq : kq ≤ 3 := by rw [← Hkq.out]; omega
   have e3 : bits .and .i64 (k : Int) 3 = (kq : Int) := by rw [and_3 k (by omega), Hkq.out]
   have hnow := hO.now true; have ew1 : IntKind.u64.wrap (kq : Int) = (kq : Int) := u64_wrapG (by omega) (by omega); have ew2 : IntKind.u64.wrap (((T.now true : Nat) : Int) + (kq : Int)) = ((T.now true : Nat) : Int) + (kq : Int) := u64_wrapG (by omega) (by omega); clear hnow
   go_wp2_with fail
   refine wRF (fun dn xv W => if dn 13 = true then TwA a0 a1 w0 W g (T.later true kq) Qs else TwA a0 a1 w0 W g T Qs) (fun _ _ => True) [fun v _ => v = .pointer (some ⟨g, 0, none⟩), fun v _ => v = .int .i64 1, fun v _ => v = .pointer (some ⟨g, 0, none⟩), fun v _ => v = .pointer (some ⟨g, 4, none⟩), fun v _ => v = .pointer (some ⟨g, 5, none⟩), fun v _ => v = .int .u64 ((T.now true : Nat) : Int), fun v _ => v = .int .i64 (k : Int), fun v _ => v = .int .i64 (kq : Int), fun v _ => v = .int .u64 (kq : Int), fun v _ => v = .int .u64 ((T.now true : Nat) + (kq : Nat) : Int), fun v _ => v = .pointer (some ⟨g, 0, none⟩), fun v _ => v = .pointer (some ⟨g, 4, none⟩), fun v _ => v = .pointer (some ⟨g, 5, none⟩), fun v _ => True] (by kernel_rfl) (by kernel_rfl) (by kernel_rfl) (by kernel_rfl) (fun xv => by simpa using HA.out.drew)
    (by repeat (first | exact trivial | refine ⟨fun _ _ _ _ h => h, ?_⟩)) ?_ ?_
   ·refine EC 1 rfl (fun h i W F a b c d e H K f => ?_) ?_
    ·have f0 : F.tmps.getD 0 undef = .pointer (some ⟨g, 0, none⟩) := (a 0).trans (by kernel_rfl); clear H c b d a; refine oP rfl ?_; go_simp; exact f.out _ _ rfl trivial e
    refine EC 2 rfl (fun g h W F a b c d e H K f => ?_) ?_
    ·have f4 : F.tmps.getD 4 undef = .int .i64 1 := (a 4).trans (by kernel_rfl); clear H c b d a; refine oP rfl ?_; go_simp; exact f.out _ _ rfl trivial e
    refine EC 3 rfl (fun g h W F a b c d e H K f => ?_) ?_
    ·have f20 := gE (a 20) (by kernel_rfl) (H 0) (by kernel_rfl); clear H c b d a; refine oP rfl ?_; go_simp; exact f.out _ _ rfl trivial e
    refine EC 4 rfl (fun g h W F a b c d e H K f => ?_) ?_
    ·have f22 := gE (a 22) (by kernel_rfl) (H 2) (by kernel_rfl); clear H c b d a; refine oP rfl ?_; go_simp; exact f.out _ _ rfl trivial e
    refine EC 5 rfl (fun g h W F a b c d e H K f => ?_) ?_
    ·have f21 := gE (a 21) (by kernel_rfl) (H 1) (by kernel_rfl); have f23 := gE (a 23) (by kernel_rfl) (H 3) (by kernel_rfl); clear H c b d a; refine oP rfl ?_; go_simp; exact f.out _ _ rfl trivial e
    refine EC 6 rfl (fun g h W F a b c d e H K f => ?_) ?_
    ·have f24 := gE (a 24) (by kernel_rfl) (H 4) (by kernel_rfl); have q13 : g 13 = false := c 13 (.more (j := 9) (by kernel_rfl) (.edge (by kernel_rfl))); have hq := e; rw [if_neg (by simp [q13])] at hq; have kk := hq.t1; clear H c b d a; refine oP rfl ?_; go_simp; exact f.out _ _ rfl trivial e
    refine EC 7 rfl (fun g h W F a b c d e H K f => ?_) ?_
    ·have f5 : F.tmps.getD 5 undef = .int .i64 (k : Int) := (a 5).trans (by kernel_rfl); clear H c b d a; refine oP rfl ?_; go_simp; exact f.out _ _ rfl trivial e
    refine EC 8 rfl (fun g h W F a b c d e H K f => ?_) ?_
    ·have f26 := gE (a 26) (by kernel_rfl) (H 6) (by kernel_rfl); clear H c b d a; refine oP rfl ?_; go_simp; exact f.out _ _ rfl trivial e
    refine EC 9 rfl (fun g h W F a b c d e H K f => ?_) ?_
    ·have f27 := gE (a 27) (by kernel_rfl) (H 7) (by kernel_rfl); clear H c b d a; refine oP rfl ?_; go_simp; exact f.out _ _ rfl trivial e
    refine EC 10 rfl (fun g h W F a b c d e H K f => ?_) ?_
    ·have f25 := gE (a 25) (by kernel_rfl) (H 5) (by kernel_rfl); have f28 := gE (a 28) (by kernel_rfl) (H 8) (by kernel_rfl); clear H c b d a; refine oP rfl ?_; go_simp; exact f.out _ _ rfl trivial e
    refine EC 11 rfl (fun g h W F a b c d e H K f => ?_) ?_
    ·have f20 := gE (a 20) (by kernel_rfl) (H 0) (by kernel_rfl); clear H c b d a; refine oP rfl ?_; go_simp; exact f.out _ _ rfl trivial e
    refine EC 12 rfl (fun g h W F a b c d e H K f => ?_) ?_
    ·have f30 := gE (a 30) (by kernel_rfl) (H 10) (by kernel_rfl); clear H c b d a; refine oP rfl ?_; go_simp; exact f.out _ _ rfl trivial e
    refine EC 13 rfl (fun g h W F a b c d e H K f => ?_) ?_
    ·have f21 := gE (a 21) (by kernel_rfl) (H 1) (by kernel_rfl); have f31 := gE (a 31) (by kernel_rfl) (H 11) (by kernel_rfl); clear H c b d a; refine oP rfl ?_; go_simp; exact f.out _ _ rfl trivial e
    refine EC 14 rfl (fun g h W F a b c d e H K f => ?_) ?_
    ·have f29 := gE (a 29) (by kernel_rfl) (H 9) (by kernel_rfl); have f32 := gE (a 32) (by kernel_rfl) (H 12) (by kernel_rfl); rw [if_neg (by simp [b])] at e; have hS := e; clear e c b d a H; refine oP rfl ?_; obtain ⟨yy, hs⟩ := hS.later1 kq; have kk := hS.t1; go_simp; exact f.out undef _ trivial trivial (by simpa [upB, upd] using hs)
    exact EN
   ·intro dn xv W hI H; have qe : dn 13 = true := (H 13 (of_decide_eq_true (by kernel_rfl))).1; rw [if_pos qe] at hI; have hS := hI; clear H hI qe; simp only [putAll, Act.put, List.setIfInBounds_toArray, List.set_cons_zero, List.set_cons_succ, Nat.reduceAdd]; obtain ⟨T0, HT0⟩ : ∃ x, Hid (T.later true kq = x) := ⟨_, Lib.hid rfl⟩; rw [HT0.out] at hS; have HA1 := Lib.hid hS; have HO0 : Hid (T0.Ok (B + 3)) := Lib.hid (by rw [← HT0.out]; exact hO.later true hkq); have HC1 := Lib.hid (fun (W : World) (hS : TwA a0 a1 w0 W g T0 Qs) => tickA1 hS HO0.out (by omega)); have HC2 := Lib.hid (fun (W : World) (v : Value) (hS : MidA a0 a1 v w0 W g (T0.withL true ((T0.l true).tick (T0.now true))) ((T0.l true).tickF (T0.now true)) ((T0.l true).tickE (T0.now true)) Qs) => show Calls Try.prog 31 #[.pointer (some ⟨g, 0, none⟩), .int .i64 1, v] W (fun e w' => e = .returned (.tuple #[]) ∧ TwA a0 a1 w0 w' g (T0.tick true) Qs) from
     ansA1 hS ((HO0.out.mono (Nat.le_add_right _ 1)).withL true ((HO0.out.num true).tick (now := T0.now true) (by have := HO0.out.now true; omega)) (ids_tick (HO0.out.ids true) (T0.now true))) (by omega) (by have := (tickF_ok (HO0.out.num true) (HO0.out.ids true) (T0.now true)).2.1; omega) (by have := (tickF_ok (HO0.out.num true) (HO0.out.ids true) (T0.now true)).2.2; omega))
    clear hS e3 ew1 ew2 hkq
    go_wp2_with fail
    refine wRF (fun dn xv W => if dn 15 = true then TwA a0 a1 w0 W g (T0.tick true) Qs else if dn 14 = true then MidA a0 a1 (xv 14) w0 W g (T0.withL true ((T0.l true).tick (T0.now true))) ((T0.l true).tickF (T0.now true)) ((T0.l true).tickE (T0.now true)) Qs else TwA a0 a1 w0 W g T0 Qs) (fun _ _ => True) [fun v _ => v = .pointer (some ⟨g, 0, none⟩), fun v _ => v = .int .i64 1, fun v _ => v = .pointer (some ⟨g, 0, none⟩), fun v _ => v = .int .i64 1, fun v _ => v = .pointer (some ⟨g, 0, none⟩), fun v _ => v = .pointer (some ⟨g, 0, none⟩), fun v _ => v = .pointer (some ⟨g, 1, none⟩), fun v _ => v = .pointer (some ⟨a1, 0, none⟩), fun v _ => v = .pointer (some ⟨g, 0, none⟩), fun v _ => v = .int .i64 1, fun v _ => v = .pointer (some ⟨g, 0, none⟩), fun v _ => v = .pointer (some ⟨g, 4, none⟩), fun v _ => v = .pointer (some ⟨g, 5, none⟩), fun v _ => v = .int .u64 ((T0.now true : Nat) : Int), fun v _ => True, fun v _ => True] (by kernel_rfl) (by kernel_rfl) (by kernel_rfl) (by kernel_rfl) (fun xv => by simpa using HA1.out.drew)
     (by repeat (first | exact trivial | refine ⟨fun _ _ _ _ h => h, ?_⟩)) ?_ ?_
    ·refine EC 1 rfl (fun h i W F a b c d e H K f => ?_) ?_
     ·have f0 : F.tmps.getD 0 undef = .pointer (some ⟨g, 0, none⟩) := (a 0).trans (by kernel_rfl); clear H c b d a; refine oP rfl ?_; go_simp; exact f.out _ _ rfl trivial e
     refine EC 2 rfl (fun g h W F a b c d e H K f => ?_) ?_
     ·have f4 : F.tmps.getD 4 undef = .int .i64 1 := (a 4).trans (by kernel_rfl); clear H c b d a; refine oP rfl ?_; go_simp; exact f.out _ _ rfl trivial e
     refine EC 3 rfl (fun h i W F a b c d e H K f => ?_) ?_
     ·have f0 : F.tmps.getD 0 undef = .pointer (some ⟨g, 0, none⟩) := (a 0).trans (by kernel_rfl); clear H c b d a; refine oP rfl ?_; go_simp; exact f.out _ _ rfl trivial e
     refine EC 4 rfl (fun g h W F a b c d e H K f => ?_) ?_
     ·have f4 : F.tmps.getD 4 undef = .int .i64 1 := (a 4).trans (by kernel_rfl); clear H c b d a; refine oP rfl ?_; go_simp; exact f.out _ _ rfl trivial e
     refine EC 5 rfl (fun g h W F a b c d e H K f => ?_) ?_
     ·have f35 := gE (a 35) (by kernel_rfl) (H 2) (by kernel_rfl); clear H c b d a; refine oP rfl ?_; go_simp; exact f.out _ _ rfl trivial e
     refine EC 6 rfl (fun g h W F a b c d e H K f => ?_) ?_
     ·have f37 := gE (a 37) (by kernel_rfl) (H 4) (by kernel_rfl); clear H c b d a; refine oP rfl ?_; go_simp; exact f.out _ _ rfl trivial e
     refine EC 7 rfl (fun g h W F a b c d e H K f => ?_) ?_
     ·have f36 := gE (a 36) (by kernel_rfl) (H 3) (by kernel_rfl); have f38 := gE (a 38) (by kernel_rfl) (H 5) (by kernel_rfl); clear H c b d a; refine oP rfl ?_; go_simp; exact f.out _ _ rfl trivial e
     refine EC 8 rfl (fun g h W F a b c d e H K f => ?_) ?_
     ·have f39 := gE (a 39) (by kernel_rfl) (H 6) (by kernel_rfl); have q1 : g 14 = false := c 14 (.edge (by kernel_rfl)); have q2 : g 15 = false := c 15 (.more (j := 14) (by kernel_rfl) (.edge (by kernel_rfl))); have hq := e; rw [if_neg (by simp [q2]), if_neg (by simp [q1])] at hq; have kk := hq.l1; clear H c b d a; refine oP rfl ?_; go_simp; exact f.out _ _ rfl trivial e
     refine EC 9 rfl (fun h i W F a b c d e H K f => ?_) ?_
     ·have f0 : F.tmps.getD 0 undef = .pointer (some ⟨g, 0, none⟩) := (a 0).trans (by kernel_rfl); clear H c b d a; refine oP rfl ?_; go_simp; exact f.out _ _ rfl trivial e
     refine EC 10 rfl (fun g h W F a b c d e H K f => ?_) ?_
     ·have f4 : F.tmps.getD 4 undef = .int .i64 1 := (a 4).trans (by kernel_rfl); clear H c b d a; refine oP rfl ?_; go_simp; exact f.out _ _ rfl trivial e
     refine EC 11 rfl (fun g h W F a b c d e H K f => ?_) ?_
     ·have f41 := gE (a 41) (by kernel_rfl) (H 8) (by kernel_rfl); clear H c b d a; refine oP rfl ?_; go_simp; exact f.out _ _ rfl trivial e
     refine EC 12 rfl (fun g h W F a b c d e H K f => ?_) ?_
     ·have f43 := gE (a 43) (by kernel_rfl) (H 10) (by kernel_rfl); clear H c b d a; refine oP rfl ?_; go_simp; exact f.out _ _ rfl trivial e
     refine EC 13 rfl (fun g h W F a b c d e H K f => ?_) ?_
     ·have f42 := gE (a 42) (by kernel_rfl) (H 9) (by kernel_rfl); have f44 := gE (a 44) (by kernel_rfl) (H 11) (by kernel_rfl); clear H c b d a; refine oP rfl ?_; go_simp; exact f.out _ _ rfl trivial e
     refine EC 14 rfl (fun g h W F a b c d e H K f => ?_) ?_
     ·have f45 := gE (a 45) (by kernel_rfl) (H 12) (by kernel_rfl); have q1 : g 14 = false := c 14 (.edge (by kernel_rfl)); have q2 : g 15 = false := c 15 (.more (j := 14) (by kernel_rfl) (.edge (by kernel_rfl))); have hq := e; rw [if_neg (by simp [q2]), if_neg (by simp [q1])] at hq; have kk := hq.t1; clear H c b d a; refine oP rfl ?_; go_simp; exact f.out _ _ rfl trivial e
     refine EC 15 rfl (fun h i W F a b c d f H K g => ?_) ?_
     ·have f40 := gE (a 40) (by kernel_rfl) (H 7) (by kernel_rfl); have f46 := gE (a 46) (by kernel_rfl) (H 13) (by kernel_rfl); have q15 : h 15 = false := c 15 (.edge (by kernel_rfl)); rw [if_neg (by simp [q15]), if_neg (by simp [b])] at f; have hS := f; clear f c b d a H; refine oP rfl ?_; go_simp; refine (HC1.out W hS).mono ?_; rintro e W' ⟨v, rfl, hs⟩; exact g.out v W' trivial trivial (by simpa [upB, upd, q15] using hs)
     refine EC 16 rfl (fun h i W F a b c d f H K g => ?_) ?_
     ·have f33 := gE (a 33) (by kernel_rfl) (H 0) (by kernel_rfl); have f34 := gE (a 34) (by kernel_rfl) (H 1) (by kernel_rfl); have f47 : F.tmps.getD 47 undef = i 14 := (a 47).trans (by kernel_rfl); have q14 : h 14 = true := (H 14 (.edge (by kernel_rfl))).1; rw [if_neg (by simp [b]), if_pos q14] at f; have hS := f; clear f c b d a H; refine oP rfl ?_; go_simp; refine (HC2.out W _ hS).mono ?_; rintro e W' ⟨rfl, hs⟩; exact g.out _ W' trivial trivial (by simpa [upB, upd] using hs)
     exact EN
    ·intro dn xv W hI H; have qe : dn 15 = true := (H 15 (of_decide_eq_true (by kernel_rfl))).1; rw [if_pos qe] at hI; have hS := hI; clear H hI qe; simp only [putAll, Act.put, List.setIfInBounds_toArray, List.set_cons_zero, List.set_cons_succ, Nat.reduceAdd]
     go_wp2_with fail
     go_meet
     case rel => exact ⟨a0, a1, _, hS, Lib.hid ⟨by rw [TW.act, if_pos rfl, ← HT0.out, ← Hkq.out]; rfl, (HO0.out.tick (by omega) true).mono (by omega)⟩⟩
  ·have e0 : (d == 0) = false := by simpa using h0
   by_cases h1 : d = 1
   ·subst h1
    go_wp2_with fail
    refine (sendA1 HA.out hO (by omega)).mono ?_; rintro e w2 ⟨rfl, h2⟩; have HA2 := Lib.hid h2; clear h2
    go_wp2_with fail
    go_meet
    case rel => exact ⟨a0, a1, _, HA2.out, Lib.hid ⟨by rw [TW.act, if_neg (by decide), if_pos rfl], (hO.send (by omega) true).mono (by omega)⟩⟩
   ·have e1 : (d == 1) = false := by simpa using h1
    by_cases h234 : d = 2 ∨ d = 3 ∨ d = 4
    ·skip
     have H234 := Lib.hid h234; have HA3 := Lib.hid (HAB.out)
     go_upto_if 54 with fail
     go_cut [54] from 55 to 57 (fun t54 wx => t54 = .bool true ∧ wx = (w.alloc (.cells #[.int .i64 d, .int .i64 at_, .int .i64 nn] 37)))
     case first =>
      by_cases h2 : d = 2
      ·subst h2
       go_wp2_with fail
       go_meet
       case rel => exact ⟨rfl, rfl⟩
      ·have e2 : (d == 2) = false := by simpa using h2
       by_cases h3 : d = 3
       ·subst h3
        go_wp2_with fail
        go_meet
        case rel => exact ⟨rfl, rfl⟩
       ·have h4 : d = 4 := by have := H234.out; omega
        subst h4
        go_wp2_with fail
        go_meet
        case rel => exact ⟨rfl, rfl⟩
     case rest =>
      obtain ⟨rfl, rfl⟩ := hcut; obtain ⟨b0, b1, v0, v1, W0, W1, BB, bs, bt, q1, q2, q3, q4, h⟩ := HA3.out; obtain ⟨AV, cV, hv, hcV, hcV2, hasV⟩ := sep_rwoForm (i := 6) h rfl; subst hv; have HQW := Lib.hid (And.intro q1 (And.intro q2 (And.intro q3 q4))); have hlw : W1.length = (T.way true).length := by rw [← q2, List.length_map]
      have kk := cA (v := .slice AV W1.length cV) (i := 0) h rfl 7 rfl; clear q1 q2 q3 q4
      by_cases hw : T.way true = []
      ·have e0 : ((W1.length : Int) == 0) = true := by rw [hlw, hw]; rfl
       have e00 : (W1.length == 0) = true := by rw [hlw, hw]; rfl
       have HW := Lib.hid hw; clear hw hasV h
       go_wp2_with fail
       refine bodyPost_ret (results_none rfl _ _ _) rfl ?_; exact ⟨rfl, true, k, a0, a1, by rw [act_none H234.out HW.out]; exact HA3.out.pop, by rw [act_none H234.out HW.out]; exact hO.mono (by omega)⟩
      ·have hpos : 0 < W1.length := by rw [hlw]; exact List.length_pos_iff.2 hw
       obtain ⟨nl, Hnl⟩ : ∃ y, Hid (W1.length = y) := ⟨_, Lib.hid rfl⟩; obtain ⟨bw, ow, rfl, _, _⟩ := hasV.at_ (k := 0) (by rw [frRow_len]; omega); rw [Hnl.out] at h hcV kk hlw hpos; have e0 : (nl == 0) = false := by simp; omega
       have e00 : ((nl : Int) == 0) = false := by simp; omega
       obtain ⟨jj, Hjj⟩ : ∃ y, Hid (k % nl = y) := ⟨_, Lib.hid rfl⟩; have hjn : jj < nl := by rw [← Hjj.out]; exact Nat.mod_lt _ hpos
       have er : Int.tmod (k : Int) (nl : Int) = (jj : Int) := by rw [← Hjj.out]; rfl
       have er2 : (k : Int) % (nl : Int) = (jj : Int) := by rw [← Hjj.out]; rfl
       obtain ⟨p, hp⟩ : ∃ p, W1[jj]? = some p := ⟨_, List.getElem?_eq_getElem (by rw [Hnl.out]; exact hjn)⟩; have hpB : (p.2, p.1.body) ∈ BB := by
        have hm : (p.2, p.1.body) ∈ fB_ W1 := List.mem_map.2 ⟨_, List.mem_of_getElem? hp, rfl⟩; exact HQW.out.2.2.2 _ hm
       obtain ⟨AU, cU, hu, _, _, hasU⟩ := sep_bodsAt (i := 7) h rfl hpB; have hfw : (T.way true)[jj]? = some p.1 := by rw [← HQW.out.2.1, List.getElem?_map, hp]; rfl
       have hfo := hO.frs true p.1 (List.mem_of_getElem? hfw); have HJW : Hid (k % (T.way true).length = jj) := Lib.hid (by rw [← hlw]; exact Hjj.out); obtain ⟨⟨kind, ffr, fto, finc, fconn, pinc, pconn, fack, fseq, body⟩, u⟩ := p; simp only at hu; subst hu; obtain ⟨fF, HfF⟩ : ∃ y, Hid ((⟨kind, ffr, fto, finc, fconn, pinc, pconn, fack, fseq, body⟩ : Fr) = y) := ⟨_, Lib.hid rfl⟩; have HFW : Hid ((T.way true)[jj]? = some fF) := Lib.hid (by rw [← HfF.out]; exact hfw); have HFO : Hid (FrOk B fF) := Lib.hid (by rw [← HfF.out]; exact hfo); have hbl : body.length ≤ 448 := hfo.2.2.2.2; have HS4 := Lib.hid (show Sep w0 (w.alloc (.cells #[.int .i64 d, .int .i64 at_, .int .i64 nn] 37)) (Ce g 34 #[.pointer (some ⟨a0, 0, none⟩), .pointer (some ⟨a1, 0, none⟩), .int .u64 (((T.l false).si : Nat) : Int), .int .u64 (((T.l true).si : Nat) : Int), .int .u64 ((T.now false : Nat) : Int), .int .u64 ((T.now true : Nat) : Int), v0, .slice (some ⟨bw, ow, none⟩) nl cV, .map (some bs), .map (some bt), .int .i64 ((T.n : Nat) : Int), .bool false] :: Ce a0 72 ((T.l false).cells b0) :: BoxT b0 (T.l false).box :: Ce a1 72 ((T.l true).cells b1) :: BoxT b1 (T.l true).box :: RwO 51 10 v0 W0.length (fR_ W0) :: RwO 51 10 (.slice (some ⟨bw, ow, none⟩) nl cV) nl (fR_ W1) :: Bods BB :: MapT bs T.sent :: MapT bt T.told :: Ce w.heap.size 37 #[.int .i64 d, .int .i64 at_, .int .i64 nn] :: Qs) by unfold TWL at h; rw [Hnl.out] at h; exact h); have hr := sep_rwoHas (i := 6) HS4.out rfl; have kf0 := hK4 hr (frRow_at (r := 0) (v := .int .i64 kind) hp (by omega)); rw [Nat.add_zero] at kf0; have kf1 := hK4 hr (frRow_at (r := 1) (v := .int .i64 ffr) hp (by omega)); rw [← Nat.add_assoc] at kf1; have kf2 := hK4 hr (frRow_at (r := 2) (v := .int .i64 fto) hp (by omega)); rw [← Nat.add_assoc] at kf2; have kf3 := hK4 hr (frRow_at (r := 3) (v := .int .u64 (finc : Int)) hp (by omega)); rw [← Nat.add_assoc] at kf3; have kf4 := hK4 hr (frRow_at (r := 4) (v := .int .u64 (fconn : Int)) hp (by omega)); rw [← Nat.add_assoc] at kf4; have kf5 := hK4 hr (frRow_at (r := 5) (v := .int .u64 (pinc : Int)) hp (by omega)); rw [← Nat.add_assoc] at kf5; have kf6 := hK4 hr (frRow_at (r := 6) (v := .int .u64 (pconn : Int)) hp (by omega)); rw [← Nat.add_assoc] at kf6; have kf7 := hK4 hr (frRow_at (r := 7) (v := .int .u64 (fack : Int)) hp (by omega)); rw [← Nat.add_assoc] at kf7; have kf8 := hK4 hr (frRow_at (r := 8) (v := .int .u64 (fseq : Int)) hp (by omega)); rw [← Nat.add_assoc] at kf8; have kf9 := hK4 hr (frRow_at (r := 9) (v := .slice AU body.length cU) hp (by omega)); rw [← Nat.add_assoc] at kf9; have HU := Lib.hid hasU; have HHP := Lib.hid hp; have HLW := Lib.hid hlw; have hnb : nl ≤ B := by rw [hlw]; exact hO.way true
       clear hr hasV hw h hp hpB hfo hfw hasU hlw
       go_wp2_with fail
       refine (own5_any _ _ ⟨kind, ffr, fto, finc, fconn, pinc, pconn, fack, fseq, body⟩ AU cU HU.out (Nat.le_refl _) (by simp only; omega)).mono ?_; rintro e w3 ⟨AZ, cZ, rfl, hoN, hbN⟩; simp only [Fr.cells]; clear kk kf0 kf1 kf2 kf3 kf4 kf5 kf6 kf7 kf8 kf9 er er2 e0 e00; have HA4 := Lib.hid (HA3.out.grow hbN); have HA5 := Lib.hid (((HA3.out.by_ hbN hoN).ce #[.int .i64 kind, .int .i64 ffr, .int .i64 fto, .int .u64 (finc : Int), .int .u64 (fconn : Int), .int .u64 (pinc : Int), .int .u64 (pconn : Int), .int .u64 (fack : Int), .int .u64 (fseq : Int), .slice AZ body.length cZ] 51).swap); have HS5 := Lib.hid (show Sep w0 (w3.alloc (.cells #[.int .i64 kind, .int .i64 ffr, .int .i64 fto, .int .u64 (finc : Int), .int .u64 (fconn : Int), .int .u64 (pinc : Int), .int .u64 (pconn : Int), .int .u64 (fack : Int), .int .u64 (fseq : Int), .slice AZ body.length cZ] 51)) (Ce g 34 #[.pointer (some ⟨a0, 0, none⟩), .pointer (some ⟨a1, 0, none⟩), .int .u64 (((T.l false).si : Nat) : Int), .int .u64 (((T.l true).si : Nat) : Int), .int .u64 ((T.now false : Nat) : Int), .int .u64 ((T.now true : Nat) : Int), v0, .slice (some ⟨bw, ow, none⟩) nl cV, .map (some bs), .map (some bt), .int .i64 ((T.n : Nat) : Int), .bool false] :: Ce a0 72 ((T.l false).cells b0) :: BoxT b0 (T.l false).box :: Ce a1 72 ((T.l true).cells b1) :: BoxT b1 (T.l true).box :: RwO 51 10 v0 W0.length (fR_ W0) :: RwO 51 10 (.slice (some ⟨bw, ow, none⟩) nl cV) nl (fR_ W1) :: Bods BB :: MapT bs T.sent :: MapT bt T.told :: By (.slice AZ body.length cZ) body :: Ce (w3.heap.size) 51 #[.int .i64 kind, .int .i64 ffr, .int .i64 fto, .int .u64 (finc : Int), .int .u64 (fconn : Int), .int .u64 (pinc : Int), .int .u64 (pconn : Int), .int .u64 (fack : Int), .int .u64 (fseq : Int), .slice AZ body.length cZ] :: Ce w.heap.size 37 #[.int .i64 d, .int .i64 at_, .int .i64 nn] :: Qs) from (show Sep w0 (w3.alloc (.cells #[.int .i64 kind, .int .i64 ffr, .int .i64 fto, .int .u64 (finc : Int), .int .u64 (fconn : Int), .int .u64 (pinc : Int), .int .u64 (pconn : Int), .int .u64 (fack : Int), .int .u64 (fseq : Int), .slice AZ body.length cZ] 51)) (Ce w3.heap.size 51 #[.int .i64 kind, .int .i64 ffr, .int .i64 fto, .int .u64 (finc : Int), .int .u64 (fconn : Int), .int .u64 (pinc : Int), .int .u64 (pconn : Int), .int .u64 (fack : Int), .int .u64 (fseq : Int), .slice AZ body.length cZ] :: By (.slice AZ body.length cZ) body :: Ce g 34 #[.pointer (some ⟨a0, 0, none⟩), .pointer (some ⟨a1, 0, none⟩), .int .u64 (((T.l false).si : Nat) : Int), .int .u64 (((T.l true).si : Nat) : Int), .int .u64 ((T.now false : Nat) : Int), .int .u64 ((T.now true : Nat) : Int), v0, .slice (some ⟨bw, ow, none⟩) nl cV, .map (some bs), .map (some bt), .int .i64 ((T.n : Nat) : Int), .bool false] :: Ce a0 72 ((T.l false).cells b0) :: BoxT b0 (T.l false).box :: Ce a1 72 ((T.l true).cells b1) :: BoxT b1 (T.l true).box :: RwO 51 10 v0 W0.length (fR_ W0) :: RwO 51 10 (.slice (some ⟨bw, ow, none⟩) nl cV) nl (fR_ W1) :: Bods BB :: MapT bs T.sent :: MapT bt T.told :: Ce w.heap.size 37 #[.int .i64 d, .int .i64 at_, .int .i64 nn] :: Qs) from sep_ceF (HS4.out.add (F := fun k => (Value.slice AZ body.length cZ).ownBlock = some k) hbN ⟨own_mono hoN (Nat.zero_le _), fun k => Iff.rfl⟩ (By.loc _ _) fun k hk => (hoN.lt k hk).1).lastFront _ _) |> fun h => ((((((((((((h).tF 0 rfl).tF 1 rfl).tF 11 rfl).tF 11 rfl).tF 11 rfl).tF 11 rfl).tF 11 rfl).tF 11 rfl).tF 11 rfl).tF 11 rfl).tF 11 rfl).tF 11 rfl)
       have HZ := Lib.hid (sep_ce (Sep.nil w3) #[.int .i64 0, .int .i64 0, .int .i64 0, .int .u64 0, .int .u64 0, .int .u64 0, .int .u64 0, .int .u64 0, .int .u64 0, .slice none 0 0] 51); have zf0 := cA (i := 0) HZ.out rfl 0 rfl; have yf0 := cFz (i := 0) HZ.out rfl 0; have zf1 := cA (i := 0) HZ.out rfl 1 rfl; have yf1 := cFz (i := 0) HZ.out rfl 1; have zf2 := cA (i := 0) HZ.out rfl 2 rfl; have yf2 := cFz (i := 0) HZ.out rfl 2; have zf3 := cA (i := 0) HZ.out rfl 3 rfl; have yf3 := cFz (i := 0) HZ.out rfl 3; have zf4 := cA (i := 0) HZ.out rfl 4 rfl; have yf4 := cFz (i := 0) HZ.out rfl 4; have zf5 := cA (i := 0) HZ.out rfl 5 rfl; have yf5 := cFz (i := 0) HZ.out rfl 5; have zf6 := cA (i := 0) HZ.out rfl 6 rfl; have yf6 := cFz (i := 0) HZ.out rfl 6; have zf7 := cA (i := 0) HZ.out rfl 7 rfl; have yf7 := cFz (i := 0) HZ.out rfl 7; have zf8 := cA (i := 0) HZ.out rfl 8 rfl; have yf8 := cFz (i := 0) HZ.out rfl 8; have zf9 := cA (i := 0) HZ.out rfl 9 rfl; have yf9 := cFz (i := 0) HZ.out rfl 9; have kd := HA5.out.q2 0 (v := .int .i64 d) rfl; obtain ⟨T0, HT0⟩ : ∃ x, Hid ((if d = 3 then T else ({ T with way := atB T.way true ((T.way true).eraseIdx jj) } : TW)) = x) := ⟨_, Lib.hid rfl⟩; have HO0 : Hid (T0.Ok B) := Lib.hid (by
        rw [← HT0.out]; split
        ·exact hO
        ·exact hO.lose true jj)
       go_upto_if 87 with fail
       go_cut [] from 88 to 112 (fun wx => TwA a0 a1 w0 wx g T0 (By (.slice AZ body.length cZ) body :: Ce (w3.heap.size) 51 #[.int .i64 kind, .int .i64 ffr, .int .i64 fto, .int .u64 (finc : Int), .int .u64 (fconn : Int), .int .u64 (pinc : Int), .int .u64 (pconn : Int), .int .u64 (fack : Int), .int .u64 (fseq : Int), .slice AZ body.length cZ] :: Ce w.heap.size 37 #[.int .i64 d, .int .i64 at_, .int .i64 nn] :: Qs))
       case first =>
        by_cases h3 : d = 3
        ·subst h3; have HT3 : Hid (T = T0) := Lib.hid (by rw [← HT0.out, if_pos rfl])
         go_wp2_with fail
         go_meet
         case rel =>
          rw [← HT3.out]; exact HA5.out
        ·have e3 : (d != 3) = true := by simpa using h3
         have H3 := Lib.hid h3; have hjn2 : jj + 1 ≤ nl := hjn; have hone := frRow_oneB (LP := W1) (i := 7) HS5.out rfl (fun x hx => HQW.out.2.2.2 _ hx); have HX1 : Hid (∀ u ∈ (fR_ W1).take (jj * 10), u.oneCell' = true) := Lib.hid (fun u hu => hone u (List.mem_of_mem_take hu)); have HX2 : Hid (∀ u ∈ (fR_ W1).drop ((jj + 1) * 10), u.oneCell' = true) := Lib.hid (fun u hu => hone u (List.mem_of_mem_drop hu)); obtain ⟨jk, Hjk⟩ : ∃ y, Hid (jj + 1 = y) := ⟨_, Lib.hid rfl⟩; obtain ⟨SB, HSB2⟩ : ∃ y, Hid ((if cV = jj + 1 then (some ⟨bw, ow, none⟩ : Option Addr) else (some (⟨bw, ow, none⟩ : Addr)).map (·.add ((jj + 1) * 10))) = y) := ⟨_, Lib.hid rfl⟩; obtain ⟨n2, Hn2⟩ : ∃ y, Hid (nl - (jj + 1) = y) := ⟨_, Lib.hid rfl⟩; obtain ⟨c2, Hc2⟩ : ∃ y, Hid (cV - (jj + 1) = y) := ⟨_, Lib.hid rfl⟩; obtain ⟨nn2, HN2⟩ : ∃ y, Hid (jj + n2 = y) := ⟨_, Lib.hid rfl⟩; have hfl : (fR_ W1).length = nl * 10 := by rw [frRow_len, Hnl.out]
         have HL1 : Hid (((fR_ W1).take (jj * 10)).length = jj * 10) := Lib.hid (by rw [List.length_take, hfl]; omega); have HL2 : Hid (((fR_ W1).drop ((jj + 1) * 10)).length = n2 * 10) := Lib.hid (by rw [List.length_drop, hfl, ← Hn2.out, Nat.sub_mul]); have HR1 : Hid (∀ W, (Instr.slice 30 (.slice (some ⟨bw, ow, none⟩) nl cV) none (some (.int .i64 (jj : Int))) none).run Try.prog W = .ok (.slice (some ⟨bw, ow, none⟩) jj cV) W) := Lib.hid (fun W => run_toF W _ nl cV jj (by omega)); have HR2 : Hid (∀ W, (Instr.slice 30 (.slice (some ⟨bw, ow, none⟩) nl cV) (some (.int .i64 (jk : Int))) none none).run Try.prog W = .ok (.slice SB n2 c2) W) := Lib.hid (fun W => by
          have hq := run_fromF W (some ⟨bw, ow, none⟩) nl cV (jj + 1) hjn2; rw [HSB2.out, Hn2.out, Hc2.out, Hjk.out] at hq; exact hq)
         have HH2 : Hid (∀ W, OwnO W 51 10 (.slice (some ⟨bw, ow, none⟩) nl cV) nl (fR_ W1) → Has W W.heap.size SB ((fR_ W1).drop ((jj + 1) * 10))) := Lib.hid (fun W ho => by
          obtain ⟨A', c', e', _, _, hh⟩ := ownO_form (ownO_from ho hjn2).1; rw [HSB2.out] at e'; simp only [Value.slice.injEq] at e'; rw [e'.1]; exact hh)
         have ejk : IntKind.i64.wrap ((jj : Int) + 1) = (jk : Int) := by rw [IntKind.wrap_i64, ← Hjk.out]; omega
         have hn2 : n2 ≤ 1000000 := by rw [← Hn2.out]; omega
         have hjb : jj ≤ 1000000 := by omega
         have HKW : ∀ (dn : Nat → Bool) (xv : Nat → Value) (W : World), (if dn 25 = true then ∃ v, Sep w0 W (Rw 51 10 v nn2 (((fR_ W1).take (jj * 10)) ++ ((fR_ W1).drop ((jj + 1) * 10))) :: Ce g 34 #[.pointer (some ⟨a0, 0, none⟩), .pointer (some ⟨a1, 0, none⟩), .int .u64 (((T.l false).si : Nat) : Int), .int .u64 (((T.l true).si : Nat) : Int), .int .u64 ((T.now false : Nat) : Int), .int .u64 ((T.now true : Nat) : Int), v0, v, .map (some bs), .map (some bt), .int .i64 ((T.n : Nat) : Int), .bool false] :: Ce a0 72 ((T.l false).cells b0) :: BoxT b0 (T.l false).box :: Ce a1 72 ((T.l true).cells b1) :: BoxT b1 (T.l true).box :: RwO 51 10 v0 W0.length (fR_ W0) :: RwO 51 10 (.slice (some ⟨bw, ow, none⟩) nl cV) nl (fR_ W1) :: Bods BB :: MapT bs T.sent :: MapT bt T.told :: By (.slice AZ body.length cZ) body :: Ce (w3.heap.size) 51 #[.int .i64 kind, .int .i64 ffr, .int .i64 fto, .int .u64 (finc : Int), .int .u64 (fconn : Int), .int .u64 (pinc : Int), .int .u64 (pconn : Int), .int .u64 (fack : Int), .int .u64 (fseq : Int), .slice AZ body.length cZ] :: Ce w.heap.size 37 #[.int .i64 d, .int .i64 at_, .int .i64 nn] :: Qs) else if dn 21 = true then Sep w0 W (Rw 51 10 (xv 21) nn2 (((fR_ W1).take (jj * 10)) ++ ((fR_ W1).drop ((jj + 1) * 10))) :: Ce g 34 #[.pointer (some ⟨a0, 0, none⟩), .pointer (some ⟨a1, 0, none⟩), .int .u64 (((T.l false).si : Nat) : Int), .int .u64 (((T.l true).si : Nat) : Int), .int .u64 ((T.now false : Nat) : Int), .int .u64 ((T.now true : Nat) : Int), v0, .slice (some ⟨bw, ow, none⟩) nl cV, .map (some bs), .map (some bt), .int .i64 ((T.n : Nat) : Int), .bool false] :: Ce a0 72 ((T.l false).cells b0) :: BoxT b0 (T.l false).box :: Ce a1 72 ((T.l true).cells b1) :: BoxT b1 (T.l true).box :: RwO 51 10 v0 W0.length (fR_ W0) :: RwO 51 10 (.slice (some ⟨bw, ow, none⟩) nl cV) nl (fR_ W1) :: Bods BB :: MapT bs T.sent :: MapT bt T.told :: By (.slice AZ body.length cZ) body :: Ce (w3.heap.size) 51 #[.int .i64 kind, .int .i64 ffr, .int .i64 fto, .int .u64 (finc : Int), .int .u64 (fconn : Int), .int .u64 (pinc : Int), .int .u64 (pconn : Int), .int .u64 (fack : Int), .int .u64 (fseq : Int), .slice AZ body.length cZ] :: Ce w.heap.size 37 #[.int .i64 d, .int .i64 at_, .int .i64 nn] :: Qs) else if dn 11 = true then Sep w0 W (Rw 51 10 (xv 11) jj ((fR_ W1).take (jj * 10)) :: Ce g 34 #[.pointer (some ⟨a0, 0, none⟩), .pointer (some ⟨a1, 0, none⟩), .int .u64 (((T.l false).si : Nat) : Int), .int .u64 (((T.l true).si : Nat) : Int), .int .u64 ((T.now false : Nat) : Int), .int .u64 ((T.now true : Nat) : Int), v0, .slice (some ⟨bw, ow, none⟩) nl cV, .map (some bs), .map (some bt), .int .i64 ((T.n : Nat) : Int), .bool false] :: Ce a0 72 ((T.l false).cells b0) :: BoxT b0 (T.l false).box :: Ce a1 72 ((T.l true).cells b1) :: BoxT b1 (T.l true).box :: RwO 51 10 v0 W0.length (fR_ W0) :: RwO 51 10 (.slice (some ⟨bw, ow, none⟩) nl cV) nl (fR_ W1) :: Bods BB :: MapT bs T.sent :: MapT bt T.told :: By (.slice AZ body.length cZ) body :: Ce (w3.heap.size) 51 #[.int .i64 kind, .int .i64 ffr, .int .i64 fto, .int .u64 (finc : Int), .int .u64 (fconn : Int), .int .u64 (pinc : Int), .int .u64 (pconn : Int), .int .u64 (fack : Int), .int .u64 (fseq : Int), .slice AZ body.length cZ] :: Ce w.heap.size 37 #[.int .i64 d, .int .i64 at_, .int .i64 nn] :: Qs) else if dn 2 = true then Sep w0 W (Rw 51 10 (xv 2) 0 [] :: Ce g 34 #[.pointer (some ⟨a0, 0, none⟩), .pointer (some ⟨a1, 0, none⟩), .int .u64 (((T.l false).si : Nat) : Int), .int .u64 (((T.l true).si : Nat) : Int), .int .u64 ((T.now false : Nat) : Int), .int .u64 ((T.now true : Nat) : Int), v0, .slice (some ⟨bw, ow, none⟩) nl cV, .map (some bs), .map (some bt), .int .i64 ((T.n : Nat) : Int), .bool false] :: Ce a0 72 ((T.l false).cells b0) :: BoxT b0 (T.l false).box :: Ce a1 72 ((T.l true).cells b1) :: BoxT b1 (T.l true).box :: RwO 51 10 v0 W0.length (fR_ W0) :: RwO 51 10 (.slice (some ⟨bw, ow, none⟩) nl cV) nl (fR_ W1) :: Bods BB :: MapT bs T.sent :: MapT bt T.told :: By (.slice AZ body.length cZ) body :: Ce (w3.heap.size) 51 #[.int .i64 kind, .int .i64 ffr, .int .i64 fto, .int .u64 (finc : Int), .int .u64 (fconn : Int), .int .u64 (pinc : Int), .int .u64 (pconn : Int), .int .u64 (fack : Int), .int .u64 (fseq : Int), .slice AZ body.length cZ] :: Ce w.heap.size 37 #[.int .i64 d, .int .i64 at_, .int .i64 nn] :: Qs) else Sep w0 W (Ce g 34 #[.pointer (some ⟨a0, 0, none⟩), .pointer (some ⟨a1, 0, none⟩), .int .u64 (((T.l false).si : Nat) : Int), .int .u64 (((T.l true).si : Nat) : Int), .int .u64 ((T.now false : Nat) : Int), .int .u64 ((T.now true : Nat) : Int), v0, .slice (some ⟨bw, ow, none⟩) nl cV, .map (some bs), .map (some bt), .int .i64 ((T.n : Nat) : Int), .bool false] :: Ce a0 72 ((T.l false).cells b0) :: BoxT b0 (T.l false).box :: Ce a1 72 ((T.l true).cells b1) :: BoxT b1 (T.l true).box :: RwO 51 10 v0 W0.length (fR_ W0) :: RwO 51 10 (.slice (some ⟨bw, ow, none⟩) nl cV) nl (fR_ W1) :: Bods BB :: MapT bs T.sent :: MapT bt T.told :: By (.slice AZ body.length cZ) body :: Ce (w3.heap.size) 51 #[.int .i64 kind, .int .i64 ffr, .int .i64 fto, .int .u64 (finc : Int), .int .u64 (fconn : Int), .int .u64 (pinc : Int), .int .u64 (pconn : Int), .int .u64 (fack : Int), .int .u64 (fseq : Int), .slice AZ body.length cZ] :: Ce w.heap.size 37 #[.int .i64 d, .int .i64 at_, .int .i64 nn] :: Qs)) → dn 25 = false → W.cell? ⟨g, 7, none⟩ = some (.slice (some ⟨bw, ow, none⟩) nl cV) := fun dn xv W h h0 => by
          rw [if_neg (by simp [h0])] at h; split at h
          ·exact cA (i := 1) h rfl 7 rfl
          split at h
          ·exact cA (i := 1) h rfl 7 rfl
          split at h
          ·exact cA (i := 1) h rfl 7 rfl
          ·exact cA (i := 0) h rfl 7 rfl
         clear hone hfl h3 hjn2 hjn hcV hnb HA5 kd h0 h1 h234 hO hbN hoN
         go_wp2_with fail
         refine wRF (fun dn xv W => if dn 25 = true then ∃ v, Sep w0 W (Rw 51 10 v nn2 (((fR_ W1).take (jj * 10)) ++ ((fR_ W1).drop ((jj + 1) * 10))) :: Ce g 34 #[.pointer (some ⟨a0, 0, none⟩), .pointer (some ⟨a1, 0, none⟩), .int .u64 (((T.l false).si : Nat) : Int), .int .u64 (((T.l true).si : Nat) : Int), .int .u64 ((T.now false : Nat) : Int), .int .u64 ((T.now true : Nat) : Int), v0, v, .map (some bs), .map (some bt), .int .i64 ((T.n : Nat) : Int), .bool false] :: Ce a0 72 ((T.l false).cells b0) :: BoxT b0 (T.l false).box :: Ce a1 72 ((T.l true).cells b1) :: BoxT b1 (T.l true).box :: RwO 51 10 v0 W0.length (fR_ W0) :: RwO 51 10 (.slice (some ⟨bw, ow, none⟩) nl cV) nl (fR_ W1) :: Bods BB :: MapT bs T.sent :: MapT bt T.told :: By (.slice AZ body.length cZ) body :: Ce (w3.heap.size) 51 #[.int .i64 kind, .int .i64 ffr, .int .i64 fto, .int .u64 (finc : Int), .int .u64 (fconn : Int), .int .u64 (pinc : Int), .int .u64 (pconn : Int), .int .u64 (fack : Int), .int .u64 (fseq : Int), .slice AZ body.length cZ] :: Ce w.heap.size 37 #[.int .i64 d, .int .i64 at_, .int .i64 nn] :: Qs) else if dn 21 = true then Sep w0 W (Rw 51 10 (xv 21) nn2 (((fR_ W1).take (jj * 10)) ++ ((fR_ W1).drop ((jj + 1) * 10))) :: Ce g 34 #[.pointer (some ⟨a0, 0, none⟩), .pointer (some ⟨a1, 0, none⟩), .int .u64 (((T.l false).si : Nat) : Int), .int .u64 (((T.l true).si : Nat) : Int), .int .u64 ((T.now false : Nat) : Int), .int .u64 ((T.now true : Nat) : Int), v0, .slice (some ⟨bw, ow, none⟩) nl cV, .map (some bs), .map (some bt), .int .i64 ((T.n : Nat) : Int), .bool false] :: Ce a0 72 ((T.l false).cells b0) :: BoxT b0 (T.l false).box :: Ce a1 72 ((T.l true).cells b1) :: BoxT b1 (T.l true).box :: RwO 51 10 v0 W0.length (fR_ W0) :: RwO 51 10 (.slice (some ⟨bw, ow, none⟩) nl cV) nl (fR_ W1) :: Bods BB :: MapT bs T.sent :: MapT bt T.told :: By (.slice AZ body.length cZ) body :: Ce (w3.heap.size) 51 #[.int .i64 kind, .int .i64 ffr, .int .i64 fto, .int .u64 (finc : Int), .int .u64 (fconn : Int), .int .u64 (pinc : Int), .int .u64 (pconn : Int), .int .u64 (fack : Int), .int .u64 (fseq : Int), .slice AZ body.length cZ] :: Ce w.heap.size 37 #[.int .i64 d, .int .i64 at_, .int .i64 nn] :: Qs) else if dn 11 = true then Sep w0 W (Rw 51 10 (xv 11) jj ((fR_ W1).take (jj * 10)) :: Ce g 34 #[.pointer (some ⟨a0, 0, none⟩), .pointer (some ⟨a1, 0, none⟩), .int .u64 (((T.l false).si : Nat) : Int), .int .u64 (((T.l true).si : Nat) : Int), .int .u64 ((T.now false : Nat) : Int), .int .u64 ((T.now true : Nat) : Int), v0, .slice (some ⟨bw, ow, none⟩) nl cV, .map (some bs), .map (some bt), .int .i64 ((T.n : Nat) : Int), .bool false] :: Ce a0 72 ((T.l false).cells b0) :: BoxT b0 (T.l false).box :: Ce a1 72 ((T.l true).cells b1) :: BoxT b1 (T.l true).box :: RwO 51 10 v0 W0.length (fR_ W0) :: RwO 51 10 (.slice (some ⟨bw, ow, none⟩) nl cV) nl (fR_ W1) :: Bods BB :: MapT bs T.sent :: MapT bt T.told :: By (.slice AZ body.length cZ) body :: Ce (w3.heap.size) 51 #[.int .i64 kind, .int .i64 ffr, .int .i64 fto, .int .u64 (finc : Int), .int .u64 (fconn : Int), .int .u64 (pinc : Int), .int .u64 (pconn : Int), .int .u64 (fack : Int), .int .u64 (fseq : Int), .slice AZ body.length cZ] :: Ce w.heap.size 37 #[.int .i64 d, .int .i64 at_, .int .i64 nn] :: Qs) else if dn 2 = true then Sep w0 W (Rw 51 10 (xv 2) 0 [] :: Ce g 34 #[.pointer (some ⟨a0, 0, none⟩), .pointer (some ⟨a1, 0, none⟩), .int .u64 (((T.l false).si : Nat) : Int), .int .u64 (((T.l true).si : Nat) : Int), .int .u64 ((T.now false : Nat) : Int), .int .u64 ((T.now true : Nat) : Int), v0, .slice (some ⟨bw, ow, none⟩) nl cV, .map (some bs), .map (some bt), .int .i64 ((T.n : Nat) : Int), .bool false] :: Ce a0 72 ((T.l false).cells b0) :: BoxT b0 (T.l false).box :: Ce a1 72 ((T.l true).cells b1) :: BoxT b1 (T.l true).box :: RwO 51 10 v0 W0.length (fR_ W0) :: RwO 51 10 (.slice (some ⟨bw, ow, none⟩) nl cV) nl (fR_ W1) :: Bods BB :: MapT bs T.sent :: MapT bt T.told :: By (.slice AZ body.length cZ) body :: Ce (w3.heap.size) 51 #[.int .i64 kind, .int .i64 ffr, .int .i64 fto, .int .u64 (finc : Int), .int .u64 (fconn : Int), .int .u64 (pinc : Int), .int .u64 (pconn : Int), .int .u64 (fack : Int), .int .u64 (fseq : Int), .slice AZ body.length cZ] :: Ce w.heap.size 37 #[.int .i64 d, .int .i64 at_, .int .i64 nn] :: Qs) else Sep w0 W (Ce g 34 #[.pointer (some ⟨a0, 0, none⟩), .pointer (some ⟨a1, 0, none⟩), .int .u64 (((T.l false).si : Nat) : Int), .int .u64 (((T.l true).si : Nat) : Int), .int .u64 ((T.now false : Nat) : Int), .int .u64 ((T.now true : Nat) : Int), v0, .slice (some ⟨bw, ow, none⟩) nl cV, .map (some bs), .map (some bt), .int .i64 ((T.n : Nat) : Int), .bool false] :: Ce a0 72 ((T.l false).cells b0) :: BoxT b0 (T.l false).box :: Ce a1 72 ((T.l true).cells b1) :: BoxT b1 (T.l true).box :: RwO 51 10 v0 W0.length (fR_ W0) :: RwO 51 10 (.slice (some ⟨bw, ow, none⟩) nl cV) nl (fR_ W1) :: Bods BB :: MapT bs T.sent :: MapT bt T.told :: By (.slice AZ body.length cZ) body :: Ce (w3.heap.size) 51 #[.int .i64 kind, .int .i64 ffr, .int .i64 fto, .int .u64 (finc : Int), .int .u64 (fconn : Int), .int .u64 (pinc : Int), .int .u64 (pconn : Int), .int .u64 (fack : Int), .int .u64 (fseq : Int), .slice AZ body.length cZ] :: Ce w.heap.size 37 #[.int .i64 d, .int .i64 at_, .int .i64 nn] :: Qs)) (fun _ _ => True) [fun v _ => v = .pointer (some ⟨g, 0, none⟩), fun v _ => v = .int .i64 1, fun v _ => True, fun v _ => v = .pointer (some ⟨g, 0, none⟩), fun v _ => v = .int .i64 1, fun v _ => v = .pointer (some ⟨g, 0, none⟩), fun v _ => v = .pointer (some ⟨g, 6, none⟩), fun v _ => v = .pointer (some ⟨g, 7, none⟩), fun v _ => v = .slice (some ⟨bw, ow, none⟩) nl cV, fun v _ => v = .int .i64 (jj : Int), fun v _ => v = .slice (some ⟨bw, ow, none⟩) jj cV, fun v _ => True, fun v _ => v = .pointer (some ⟨g, 0, none⟩), fun v _ => v = .int .i64 1, fun v _ => v = .pointer (some ⟨g, 0, none⟩), fun v _ => v = .pointer (some ⟨g, 6, none⟩), fun v _ => v = .pointer (some ⟨g, 7, none⟩), fun v _ => v = .slice (some ⟨bw, ow, none⟩) nl cV, fun v _ => v = .int .i64 (jj : Int), fun v _ => v = .int .i64 (jk : Int), fun v _ => v = .slice SB n2 c2, fun v _ => True, fun v _ => v = .pointer (some ⟨g, 0, none⟩), fun v _ => v = .pointer (some ⟨g, 6, none⟩), fun v _ => v = .pointer (some ⟨g, 7, none⟩), fun v _ => True] (by kernel_rfl) (by kernel_rfl) (by kernel_rfl) (by kernel_rfl) (fun xv => by simpa using HS5.out.drew)
          (by repeat (first | exact trivial | refine ⟨fun _ _ _ _ h => h, ?_⟩)) ?_ ?_
         ·refine EC 1 rfl (fun h i W F a b c d e H K f => ?_) ?_
          ·have f0 : F.tmps.getD 0 undef = .pointer (some ⟨g, 0, none⟩) := (a 0).trans (by kernel_rfl); clear H c b d a; refine oP rfl ?_; go_simp; exact f.out _ _ rfl trivial e
          refine EC 2 rfl (fun g h W F a b c d e H K f => ?_) ?_
          ·have f4 : F.tmps.getD 4 undef = .int .i64 1 := (a 4).trans (by kernel_rfl); clear H c b d a; refine oP rfl ?_; go_simp; exact f.out _ _ rfl trivial e
          refine EC 3 rfl (fun i k W F a b c e f H K h => ?_) ?_
          ·have q11 : i 11 = false := c 11 (.edge (by kernel_rfl)); have q21 : i 21 = false := c 21 (.more (j := 11) (by kernel_rfl) (.edge (by kernel_rfl))); have q25 : i 25 = false := c 25 (.more (j := 21) (by kernel_rfl) (.more (j := 11) (by kernel_rfl) (.edge (by kernel_rfl)))); rw [if_neg (by simp [q25]), if_neg (by simp [q21]), if_neg (by simp [q11]), if_neg (by simp [b])] at f; have hS := f; clear f c b e a H; refine oP rfl ?_; go_simp; have hs : Sep w0 (W.alloc (.cells #[] 51)) (Rw 51 10 (.slice (some ⟨W.heap.size, 0, none⟩) 0 0) 0 [] :: Ce g 34 #[.pointer (some ⟨a0, 0, none⟩), .pointer (some ⟨a1, 0, none⟩), .int .u64 (((T.l false).si : Nat) : Int), .int .u64 (((T.l true).si : Nat) : Int), .int .u64 ((T.now false : Nat) : Int), .int .u64 ((T.now true : Nat) : Int), v0, .slice (some ⟨bw, ow, none⟩) nl cV, .map (some bs), .map (some bt), .int .i64 ((T.n : Nat) : Int), .bool false] :: Ce a0 72 ((T.l false).cells b0) :: BoxT b0 (T.l false).box :: Ce a1 72 ((T.l true).cells b1) :: BoxT b1 (T.l true).box :: RwO 51 10 v0 W0.length (fR_ W0) :: RwO 51 10 (.slice (some ⟨bw, ow, none⟩) nl cV) nl (fR_ W1) :: Bods BB :: MapT bs T.sent :: MapT bt T.told :: By (.slice AZ body.length cZ) body :: Ce (w3.heap.size) 51 #[.int .i64 kind, .int .i64 ffr, .int .i64 fto, .int .u64 (finc : Int), .int .u64 (fconn : Int), .int .u64 (pinc : Int), .int .u64 (pconn : Int), .int .u64 (fack : Int), .int .u64 (fseq : Int), .slice AZ body.length cZ] :: Ce w.heap.size 37 #[.int .i64 d, .int .i64 at_, .int .i64 nn] :: Qs) := sep_rwEmpty hS; exact h.out _ _ trivial trivial (by simpa [upB, upd, q11, q21, q25] using hs)
          refine EC 4 rfl (fun h i W F a b c d e H K f => ?_) ?_
          ·have f0 : F.tmps.getD 0 undef = .pointer (some ⟨g, 0, none⟩) := (a 0).trans (by kernel_rfl); clear H c b d a; refine oP rfl ?_; go_simp; exact f.out _ _ rfl trivial e
          refine EC 5 rfl (fun g h W F a b c d e H K f => ?_) ?_
          ·have f4 : F.tmps.getD 4 undef = .int .i64 1 := (a 4).trans (by kernel_rfl); clear H c b d a; refine oP rfl ?_; go_simp; exact f.out _ _ rfl trivial e
          refine EC 6 rfl (fun g h W F a b c d e H K f => ?_) ?_
          ·have f91 := gE (a 91) (by kernel_rfl) (H 3) (by kernel_rfl); clear H c b d a; refine oP rfl ?_; go_simp; exact f.out _ _ rfl trivial e
          refine EC 7 rfl (fun g h W F a b c d e H K f => ?_) ?_
          ·have f93 := gE (a 93) (by kernel_rfl) (H 5) (by kernel_rfl); clear H c b d a; refine oP rfl ?_; go_simp; exact f.out _ _ rfl trivial e
          refine EC 8 rfl (fun g h W F a b c d e H K f => ?_) ?_
          ·have f92 := gE (a 92) (by kernel_rfl) (H 4) (by kernel_rfl); have f94 := gE (a 94) (by kernel_rfl) (H 6) (by kernel_rfl); clear H c b d a; refine oP rfl ?_; go_simp; exact f.out _ _ rfl trivial e
          refine EC 9 rfl (fun g h W F a b c d e H K f => ?_) ?_
          ·have f95 := gE (a 95) (by kernel_rfl) (H 7) (by kernel_rfl); have kk := HKW g h W e (c 25 (.more (j := 21) (by kernel_rfl) (.more (j := 11) (by kernel_rfl) (.more (j := 10) (by kernel_rfl) (.edge (by kernel_rfl)))))); clear H c b d a; refine oP rfl ?_; go_simp; exact f.out _ _ rfl trivial e
          refine EC 10 rfl (fun g h W F a b c d e H K f => ?_) ?_
          ·have f6 : F.tmps.getD 6 undef = .int .i64 (jj : Int) := (a 6).trans (by kernel_rfl); clear H c b d a; refine oP rfl ?_; go_simp; exact f.out _ _ rfl trivial e
          refine EC 11 rfl (fun g h W F a b c d e H K f => ?_) ?_
          ·have f96 := gE (a 96) (by kernel_rfl) (H 8) (by kernel_rfl); have f97 := gE (a 97) (by kernel_rfl) (H 9) (by kernel_rfl); have rs := HR1.out W; clear H c b d a; refine oP rfl ?_; go_simp; exact f.out _ _ rfl trivial e
          refine EC 12 rfl (fun k o W F a b c e f H K h => ?_) ?_
          ·have f90 : F.tmps.getD 90 undef = o 2 := (a 90).trans (by kernel_rfl); have f98 := gE (a 98) (by kernel_rfl) (H 10) (by kernel_rfl); have q2 : k 2 = true := (H 2 (.edge (by kernel_rfl))).1; have q21 : k 21 = false := c 21 (.edge (by kernel_rfl)); have q25 : k 25 = false := c 25 (.more (j := 21) (by kernel_rfl) (.edge (by kernel_rfl))); rw [if_neg (by simp [q25]), if_neg (by simp [q21]), if_neg (by simp [b]), if_pos q2] at f; have hS := f; clear f c b e a H; refine oP rfl ?_; refine sep_opAppW rowFrames (i := 0) (s := .tmp 90) (x := .tmp 98) (m := jj) (news := ((fR_ W1).take (jj * 10))) (by rfl) f90 f98 hS rfl HL1.out ((sep_rwoHas (i := 7) hS rfl).take _) HX1.out (by unfold maxLen; omega) (by omega) ?_; intro v W' hs0; have hs : Sep w0 W' (Rw 51 10 v jj ((fR_ W1).take (jj * 10)) :: Ce g 34 #[.pointer (some ⟨a0, 0, none⟩), .pointer (some ⟨a1, 0, none⟩), .int .u64 (((T.l false).si : Nat) : Int), .int .u64 (((T.l true).si : Nat) : Int), .int .u64 ((T.now false : Nat) : Int), .int .u64 ((T.now true : Nat) : Int), v0, .slice (some ⟨bw, ow, none⟩) nl cV, .map (some bs), .map (some bt), .int .i64 ((T.n : Nat) : Int), .bool false] :: Ce a0 72 ((T.l false).cells b0) :: BoxT b0 (T.l false).box :: Ce a1 72 ((T.l true).cells b1) :: BoxT b1 (T.l true).box :: RwO 51 10 v0 W0.length (fR_ W0) :: RwO 51 10 (.slice (some ⟨bw, ow, none⟩) nl cV) nl (fR_ W1) :: Bods BB :: MapT bs T.sent :: MapT bt T.told :: By (.slice AZ body.length cZ) body :: Ce (w3.heap.size) 51 #[.int .i64 kind, .int .i64 ffr, .int .i64 fto, .int .u64 (finc : Int), .int .u64 (fconn : Int), .int .u64 (pinc : Int), .int .u64 (pconn : Int), .int .u64 (fack : Int), .int .u64 (fseq : Int), .slice AZ body.length cZ] :: Ce w.heap.size 37 #[.int .i64 d, .int .i64 at_, .int .i64 nn] :: Qs) := by simpa using hs0
           exact h.out v W' trivial trivial (by simpa [upB, upd, q21, q25] using hs)
          refine EC 13 rfl (fun h i W F a b c d e H K f => ?_) ?_
          ·have f0 : F.tmps.getD 0 undef = .pointer (some ⟨g, 0, none⟩) := (a 0).trans (by kernel_rfl); clear H c b d a; refine oP rfl ?_; go_simp; exact f.out _ _ rfl trivial e
          refine EC 14 rfl (fun g h W F a b c d e H K f => ?_) ?_
          ·have f4 : F.tmps.getD 4 undef = .int .i64 1 := (a 4).trans (by kernel_rfl); clear H c b d a; refine oP rfl ?_; go_simp; exact f.out _ _ rfl trivial e
          refine EC 15 rfl (fun g h W F a b c d e H K f => ?_) ?_
          ·have f100 := gE (a 100) (by kernel_rfl) (H 12) (by kernel_rfl); clear H c b d a; refine oP rfl ?_; go_simp; exact f.out _ _ rfl trivial e
          refine EC 16 rfl (fun g h W F a b c d e H K f => ?_) ?_
          ·have f102 := gE (a 102) (by kernel_rfl) (H 14) (by kernel_rfl); clear H c b d a; refine oP rfl ?_; go_simp; exact f.out _ _ rfl trivial e
          refine EC 17 rfl (fun g h W F a b c d e H K f => ?_) ?_
          ·have f101 := gE (a 101) (by kernel_rfl) (H 13) (by kernel_rfl); have f103 := gE (a 103) (by kernel_rfl) (H 15) (by kernel_rfl); clear H c b d a; refine oP rfl ?_; go_simp; exact f.out _ _ rfl trivial e
          refine EC 18 rfl (fun g h W F a b c d e H K f => ?_) ?_
          ·have f104 := gE (a 104) (by kernel_rfl) (H 16) (by kernel_rfl); have kk := HKW g h W e (c 25 (.more (j := 21) (by kernel_rfl) (.more (j := 20) (by kernel_rfl) (.edge (by kernel_rfl))))); clear H c b d a; refine oP rfl ?_; go_simp; exact f.out _ _ rfl trivial e
          refine EC 19 rfl (fun g h W F a b c d e H K f => ?_) ?_
          ·have f6 : F.tmps.getD 6 undef = .int .i64 (jj : Int) := (a 6).trans (by kernel_rfl); clear H c b d a; refine oP rfl ?_; go_simp; exact f.out _ _ rfl trivial e
          refine EC 20 rfl (fun g h W F a b c d e H K f => ?_) ?_
          ·have f106 := gE (a 106) (by kernel_rfl) (H 18) (by kernel_rfl); clear H c b d a; refine oP rfl ?_; go_simp; exact f.out _ _ rfl trivial e
          refine EC 21 rfl (fun g h W F a b c d e H K f => ?_) ?_
          ·have f105 := gE (a 105) (by kernel_rfl) (H 17) (by kernel_rfl); have f107 := gE (a 107) (by kernel_rfl) (H 19) (by kernel_rfl); have rs := HR2.out W; clear H c b d a; refine oP rfl ?_; go_simp; exact f.out _ _ rfl trivial e
          refine EC 22 rfl (fun j k W F a b c e f H K h => ?_) ?_
          ·have f99 : F.tmps.getD 99 undef = k 11 := (a 99).trans (by kernel_rfl); have f108 := gE (a 108) (by kernel_rfl) (H 20) (by kernel_rfl); have q11 : j 11 = true := (H 11 (.edge (by kernel_rfl))).1; have q25 : j 25 = false := c 25 (.edge (by kernel_rfl)); rw [if_neg (by simp [q25]), if_neg (by simp [b]), if_pos q11] at f; have hS := f; clear f c b e a H; refine oP rfl ?_; refine sep_opAppW rowFrames (i := 0) (s := .tmp 99) (x := .tmp 108) (m := n2) (news := ((fR_ W1).drop ((jj + 1) * 10))) (by rfl) f99 f108 hS rfl HL2.out (HH2.out W (sep_rwoOwn (i := 7) hS rfl)) HX2.out (by unfold maxLen; omega) (by omega) ?_; intro v W' hs0; rw [HN2.out] at hs0; have hs : Sep w0 W' (Rw 51 10 v nn2 (((fR_ W1).take (jj * 10)) ++ ((fR_ W1).drop ((jj + 1) * 10))) :: Ce g 34 #[.pointer (some ⟨a0, 0, none⟩), .pointer (some ⟨a1, 0, none⟩), .int .u64 (((T.l false).si : Nat) : Int), .int .u64 (((T.l true).si : Nat) : Int), .int .u64 ((T.now false : Nat) : Int), .int .u64 ((T.now true : Nat) : Int), v0, .slice (some ⟨bw, ow, none⟩) nl cV, .map (some bs), .map (some bt), .int .i64 ((T.n : Nat) : Int), .bool false] :: Ce a0 72 ((T.l false).cells b0) :: BoxT b0 (T.l false).box :: Ce a1 72 ((T.l true).cells b1) :: BoxT b1 (T.l true).box :: RwO 51 10 v0 W0.length (fR_ W0) :: RwO 51 10 (.slice (some ⟨bw, ow, none⟩) nl cV) nl (fR_ W1) :: Bods BB :: MapT bs T.sent :: MapT bt T.told :: By (.slice AZ body.length cZ) body :: Ce (w3.heap.size) 51 #[.int .i64 kind, .int .i64 ffr, .int .i64 fto, .int .u64 (finc : Int), .int .u64 (fconn : Int), .int .u64 (pinc : Int), .int .u64 (pconn : Int), .int .u64 (fack : Int), .int .u64 (fseq : Int), .slice AZ body.length cZ] :: Ce w.heap.size 37 #[.int .i64 d, .int .i64 at_, .int .i64 nn] :: Qs) := hs0; exact h.out v W' trivial trivial (by simpa [upB, upd, q25] using hs)
          refine EC 23 rfl (fun g h W F a b c d e H K f => ?_) ?_
          ·have f88 := gE (a 88) (by kernel_rfl) (H 0) (by kernel_rfl); clear H c b d a; refine oP rfl ?_; go_simp; exact f.out _ _ rfl trivial e
          refine EC 24 rfl (fun g h W F a b c d e H K f => ?_) ?_
          ·have f110 := gE (a 110) (by kernel_rfl) (H 22) (by kernel_rfl); clear H c b d a; refine oP rfl ?_; go_simp; exact f.out _ _ rfl trivial e
          refine EC 25 rfl (fun g h W F a b c d e H K f => ?_) ?_
          ·have f89 := gE (a 89) (by kernel_rfl) (H 1) (by kernel_rfl); have f111 := gE (a 111) (by kernel_rfl) (H 23) (by kernel_rfl); clear H c b d a; refine oP rfl ?_; go_simp; exact f.out _ _ rfl trivial e
          refine EC 26 rfl (fun j k W F a b c e f H K h => ?_) ?_
          ·have f109 : F.tmps.getD 109 undef = k 21 := (a 109).trans (by kernel_rfl); have f112 := gE (a 112) (by kernel_rfl) (H 24) (by kernel_rfl); have q21 : j 21 = true := (H 21 (.edge (by kernel_rfl))).1; rw [if_neg (by simp [b]), if_pos q21] at f; have hS := f; clear f c b e a H; refine oP rfl ?_; obtain ⟨A2, c3, e2, _⟩ := sep_rwForm (i := 0) hS rfl; have hc3 := cA (i := 1) hS rfl 7 rfl; have hf3 := cFz (i := 1) hS rfl 7; rw [e2] at hS; have hs0 := cS (i := 1) hS rfl 7 (.slice A2 nn2 c3); have hs : ∃ v, Sep w0 (W.setCell ⟨g, 7, none⟩ (.slice A2 nn2 c3)) (Rw 51 10 v nn2 (((fR_ W1).take (jj * 10)) ++ ((fR_ W1).drop ((jj + 1) * 10))) :: Ce g 34 #[.pointer (some ⟨a0, 0, none⟩), .pointer (some ⟨a1, 0, none⟩), .int .u64 (((T.l false).si : Nat) : Int), .int .u64 (((T.l true).si : Nat) : Int), .int .u64 ((T.now false : Nat) : Int), .int .u64 ((T.now true : Nat) : Int), v0, v, .map (some bs), .map (some bt), .int .i64 ((T.n : Nat) : Int), .bool false] :: Ce a0 72 ((T.l false).cells b0) :: BoxT b0 (T.l false).box :: Ce a1 72 ((T.l true).cells b1) :: BoxT b1 (T.l true).box :: RwO 51 10 v0 W0.length (fR_ W0) :: RwO 51 10 (.slice (some ⟨bw, ow, none⟩) nl cV) nl (fR_ W1) :: Bods BB :: MapT bs T.sent :: MapT bt T.told :: By (.slice AZ body.length cZ) body :: Ce (w3.heap.size) 51 #[.int .i64 kind, .int .i64 ffr, .int .i64 fto, .int .u64 (finc : Int), .int .u64 (fconn : Int), .int .u64 (pinc : Int), .int .u64 (pconn : Int), .int .u64 (fack : Int), .int .u64 (fseq : Int), .slice AZ body.length cZ] :: Ce w.heap.size 37 #[.int .i64 d, .int .i64 at_, .int .i64 nn] :: Qs) := ⟨_, hs0⟩; clear hs0; go_simp; exact h.out undef _ trivial trivial (by simpa [upB, upd] using hs)
          exact EN
         ·intro dn xv W hI H; have qe : dn 25 = true := (H 25 (of_decide_eq_true (by kernel_rfl))).1; rw [if_pos qe] at hI; have hS := hI; clear H hI qe; simp only [putAll, Act.put, List.setIfInBounds_toArray, List.set_cons_zero, List.set_cons_succ, Nat.reduceAdd]; obtain ⟨v, hS⟩ := hS; have hS2 := sep_rwoOf (i := 0) hS rfl; have HS6 := Lib.hid (show Sep w0 W (Ce g 34 #[.pointer (some ⟨a0, 0, none⟩), .pointer (some ⟨a1, 0, none⟩), .int .u64 (((T.l false).si : Nat) : Int), .int .u64 (((T.l true).si : Nat) : Int), .int .u64 ((T.now false : Nat) : Int), .int .u64 ((T.now true : Nat) : Int), v0, v, .map (some bs), .map (some bt), .int .i64 ((T.n : Nat) : Int), .bool false] :: Ce a0 72 ((T.l false).cells b0) :: BoxT b0 (T.l false).box :: Ce a1 72 ((T.l true).cells b1) :: BoxT b1 (T.l true).box :: RwO 51 10 v0 W0.length (fR_ W0) :: RwO 51 10 v nn2 (((fR_ W1).take (jj * 10)) ++ ((fR_ W1).drop ((jj + 1) * 10))) :: Bods BB :: MapT bs T.sent :: MapT bt T.told :: By (.slice AZ body.length cZ) body :: Ce (w3.heap.size) 51 #[.int .i64 kind, .int .i64 ffr, .int .i64 fto, .int .u64 (finc : Int), .int .u64 (fconn : Int), .int .u64 (pinc : Int), .int .u64 (pconn : Int), .int .u64 (fack : Int), .int .u64 (fseq : Int), .slice AZ body.length cZ] :: Ce w.heap.size 37 #[.int .i64 d, .int .i64 at_, .int .i64 nn] :: Qs) from ((((((((hS2.drop 7)).tF 0 rfl).tF 6 rfl).tF 6 rfl).tF 6 rfl).tF 6 rfl).tF 6 rfl).tF 6 rfl); clear hS hS2 HKW ejk
          go_wp2_with fail
          go_meet
          case rel =>
           rw [← HT0.out, if_neg H3.out]; refine ⟨b0, b1, v0, v, W0, W1.eraseIdx jj, BB, bs, bt, ?_, ?_, ?_, ?_, ?_⟩
           ·exact HQW.out.1
           ·rw [map_erase, HQW.out.2.1]; rfl
           ·exact HQW.out.2.2.1
           ·exact fun y hy => HQW.out.2.2.2 y (frBods_erase hy)
           ·have h9 := HS6.out; have hl9 : nn2 = (W1.eraseIdx jj).length := by
             have e1 := Hnl.out; have e2 := Hn2.out; have e3 := HN2.out; have e4 := (List.getElem?_eq_some_iff.1 HHP.out).1; rw [List.length_eraseIdx, if_pos e4]; omega
            rw [hl9, ← frRow_erase] at h9; exact h9
       case rest =>
        have HA6 := Lib.hid hcut; have kd := HA6.out.q2 0 (v := .int .i64 d) rfl
        by_cases h4 : d = 4
        ·subst h4; have HR4 : Hid (T.act 4 true k = T0.trim) := Lib.hid (by
          have h := act_mid (T := T) (d := 4) (.inr (.inr rfl)) HJW.out HFW.out; dsimp only at h; rw [HT0.out, if_pos rfl] at h; exact h)
         go_wp2_with fail
         go_meet
         case rel => exact ⟨a0, a1, T0, HA6.out.pop.pop.pop, Lib.hid ⟨HR4.out, HO0.out.mono (by omega)⟩⟩
        ·have e4 : (d != 4) = true := by simpa using h4
         have H4 := Lib.hid h4; have HF : Hid (∀ W, TwA a0 a1 w0 W g T0 (By (.slice AZ body.length cZ) body :: Ce (w3.heap.size) 51 #[.int .i64 kind, .int .i64 ffr, .int .i64 fto, .int .u64 (finc : Int), .int .u64 (fconn : Int), .int .u64 (pinc : Int), .int .u64 (pconn : Int), .int .u64 (fack : Int), .int .u64 (fseq : Int), .slice AZ body.length cZ] :: Ce w.heap.size 37 #[.int .i64 d, .int .i64 at_, .int .i64 nn] :: Qs) → W.cell? ⟨w3.heap.size, 0, none⟩ = some (.int .i64 kind) ∧ W.cell? ⟨w3.heap.size, 1, none⟩ = some (.int .i64 ffr) ∧ W.cell? ⟨w3.heap.size, 2, none⟩ = some (.int .i64 fto) ∧ W.cell? ⟨w3.heap.size, 3, none⟩ = some (.int .u64 (finc : Int)) ∧ W.cell? ⟨w3.heap.size, 4, none⟩ = some (.int .u64 (fconn : Int)) ∧ W.cell? ⟨w3.heap.size, 5, none⟩ = some (.int .u64 (pinc : Int)) ∧ W.cell? ⟨w3.heap.size, 6, none⟩ = some (.int .u64 (pconn : Int)) ∧ W.cell? ⟨w3.heap.size, 7, none⟩ = some (.int .u64 (fack : Int)) ∧ W.cell? ⟨w3.heap.size, 8, none⟩ = some (.int .u64 (fseq : Int)) ∧ W.cell? ⟨w3.heap.size, 9, none⟩ = some (.slice AZ body.length cZ)) := Lib.hid (fun W hq => ⟨hq.q1 0 rfl, hq.q1 1 rfl, hq.q1 2 rfl, hq.q1 3 rfl, hq.q1 4 rfl, hq.q1 5 rfl, hq.q1 6 rfl, hq.q1 7 rfl, hq.q1 8 rfl, hq.q1 9 rfl⟩); have HC1 := Lib.hid (fun (W : World) (hS : TwA a0 a1 w0 W g T0 (By (.slice AZ body.length cZ) body :: Ce (w3.heap.size) 51 #[.int .i64 kind, .int .i64 ffr, .int .i64 fto, .int .u64 (finc : Int), .int .u64 (fconn : Int), .int .u64 (pinc : Int), .int .u64 (pconn : Int), .int .u64 (fack : Int), .int .u64 (fseq : Int), .slice AZ body.length cZ] :: Ce w.heap.size 37 #[.int .i64 d, .int .i64 at_, .int .i64 nn] :: Qs)) => show Calls Try.prog 15 #[.pointer (some ⟨a1, 0, none⟩), .int .u64 ((T0.now true : Nat) : Int), .agg #[.int .i64 kind, .int .i64 ffr, .int .i64 fto, .int .u64 (finc : Int), .int .u64 (fconn : Int), .int .u64 (pinc : Int), .int .u64 (pconn : Int), .int .u64 (fack : Int), .int .u64 (fseq : Int), .slice AZ body.length cZ]] W (fun e w' => ∃ v, e = .returned v ∧ MidA a0 a1 v w0 w' g (T0.withL true ((T0.l true).take (T0.now true) fF)) ((T0.l true).takeF (T0.now true) fF) ((T0.l true).takeE (T0.now true) fF) (By (.slice AZ body.length cZ) body :: Ce (w3.heap.size) 51 #[.int .i64 kind, .int .i64 ffr, .int .i64 fto, .int .u64 (finc : Int), .int .u64 (fconn : Int), .int .u64 (pinc : Int), .int .u64 (pconn : Int), .int .u64 (fack : Int), .int .u64 (fseq : Int), .slice AZ body.length cZ] :: Ce w.heap.size 37 #[.int .i64 d, .int .i64 at_, .int .i64 nn] :: Qs)) from by
          have hb := HFO.out; rw [← HfF.out] at hb ⊢; exact takeA1 (f := ⟨kind, ffr, fto, finc, fconn, pinc, pconn, fack, fseq, body⟩) (A := AZ) (c := cZ) hS (reads_by rfl) HO0.out (by omega) (by have := hb.2.2.2.2; unfold maxLen; simp only at this ⊢; omega) (by have := hb.2.2.1; simp only at this ⊢; omega) (by have := hb.2.2.2.1; simp only at this ⊢; omega))
         have HC2 := Lib.hid (fun (W : World) (v : Value) (hS : MidA a0 a1 v w0 W g (T0.withL true ((T0.l true).take (T0.now true) fF)) ((T0.l true).takeF (T0.now true) fF) ((T0.l true).takeE (T0.now true) fF) (By (.slice AZ body.length cZ) body :: Ce (w3.heap.size) 51 #[.int .i64 kind, .int .i64 ffr, .int .i64 fto, .int .u64 (finc : Int), .int .u64 (fconn : Int), .int .u64 (pinc : Int), .int .u64 (pconn : Int), .int .u64 (fack : Int), .int .u64 (fseq : Int), .slice AZ body.length cZ] :: Ce w.heap.size 37 #[.int .i64 d, .int .i64 at_, .int .i64 nn] :: Qs)) => show Calls Try.prog 31 #[.pointer (some ⟨g, 0, none⟩), .int .i64 1, v] W (fun e w' => e = .returned (.tuple #[]) ∧ TwA a0 a1 w0 w' g (T0.take true fF) (By (.slice AZ body.length cZ) body :: Ce (w3.heap.size) 51 #[.int .i64 kind, .int .i64 ffr, .int .i64 fto, .int .u64 (finc : Int), .int .u64 (fconn : Int), .int .u64 (pinc : Int), .int .u64 (pconn : Int), .int .u64 (fack : Int), .int .u64 (fseq : Int), .slice AZ body.length cZ] :: Ce w.heap.size 37 #[.int .i64 d, .int .i64 at_, .int .i64 nn] :: Qs)) from by
          have hn := HO0.out.now true; have hk := takeF_ok (HO0.out.num true) (HO0.out.ids true) (now := T0.now true) (by omega) (f := fF) ⟨HFO.out.1, HFO.out.2.1⟩; exact ansA1 hS (HO0.out.withL true ((HO0.out.num true).take (now := T0.now true) (by omega) fF) (ids_take (HO0.out.ids true) (T0.now true) ⟨HFO.out.1, HFO.out.2.1⟩)) (by omega) (by omega) (by omega))
         clear h4 hcut
         go_wp2_with fail
         refine wRF (fun dn xv W => if dn 16 = true then TwA a0 a1 w0 W g (T0.take true fF) (By (.slice AZ body.length cZ) body :: Ce (w3.heap.size) 51 #[.int .i64 kind, .int .i64 ffr, .int .i64 fto, .int .u64 (finc : Int), .int .u64 (fconn : Int), .int .u64 (pinc : Int), .int .u64 (pconn : Int), .int .u64 (fack : Int), .int .u64 (fseq : Int), .slice AZ body.length cZ] :: Ce w.heap.size 37 #[.int .i64 d, .int .i64 at_, .int .i64 nn] :: Qs) else if dn 15 = true then MidA a0 a1 (xv 15) w0 W g (T0.withL true ((T0.l true).take (T0.now true) fF)) ((T0.l true).takeF (T0.now true) fF) ((T0.l true).takeE (T0.now true) fF) (By (.slice AZ body.length cZ) body :: Ce (w3.heap.size) 51 #[.int .i64 kind, .int .i64 ffr, .int .i64 fto, .int .u64 (finc : Int), .int .u64 (fconn : Int), .int .u64 (pinc : Int), .int .u64 (pconn : Int), .int .u64 (fack : Int), .int .u64 (fseq : Int), .slice AZ body.length cZ] :: Ce w.heap.size 37 #[.int .i64 d, .int .i64 at_, .int .i64 nn] :: Qs) else TwA a0 a1 w0 W g T0 (By (.slice AZ body.length cZ) body :: Ce (w3.heap.size) 51 #[.int .i64 kind, .int .i64 ffr, .int .i64 fto, .int .u64 (finc : Int), .int .u64 (fconn : Int), .int .u64 (pinc : Int), .int .u64 (pconn : Int), .int .u64 (fack : Int), .int .u64 (fseq : Int), .slice AZ body.length cZ] :: Ce w.heap.size 37 #[.int .i64 d, .int .i64 at_, .int .i64 nn] :: Qs)) (fun _ _ => True) [fun v _ => v = .pointer (some ⟨g, 0, none⟩), fun v _ => v = .int .i64 1, fun v _ => v = .pointer (some ⟨g, 0, none⟩), fun v _ => v = .int .i64 1, fun v _ => v = .pointer (some ⟨g, 0, none⟩), fun v _ => v = .pointer (some ⟨g, 0, none⟩), fun v _ => v = .pointer (some ⟨g, 1, none⟩), fun v _ => v = .pointer (some ⟨a1, 0, none⟩), fun v _ => v = .pointer (some ⟨g, 0, none⟩), fun v _ => v = .int .i64 1, fun v _ => v = .pointer (some ⟨g, 0, none⟩), fun v _ => v = .pointer (some ⟨g, 4, none⟩), fun v _ => v = .pointer (some ⟨g, 5, none⟩), fun v _ => v = .int .u64 ((T0.now true : Nat) : Int), fun v _ => v = .agg #[.int .i64 kind, .int .i64 ffr, .int .i64 fto, .int .u64 (finc : Int), .int .u64 (fconn : Int), .int .u64 (pinc : Int), .int .u64 (pconn : Int), .int .u64 (fack : Int), .int .u64 (fseq : Int), .slice AZ body.length cZ], fun v _ => True, fun v _ => True] (by kernel_rfl) (by kernel_rfl) (by kernel_rfl) (by kernel_rfl) (fun xv => by simpa using HA6.out.drew)
          (by repeat (first | exact trivial | refine ⟨fun _ _ _ _ h => h, ?_⟩)) ?_ ?_
         ·refine EC 1 rfl (fun h i W F a b c d e H K f => ?_) ?_
          ·have f0 : F.tmps.getD 0 undef = .pointer (some ⟨g, 0, none⟩) := (a 0).trans (by kernel_rfl); clear H c b d a; refine oP rfl ?_; go_simp; exact f.out _ _ rfl trivial e
          refine EC 2 rfl (fun g h W F a b c d e H K f => ?_) ?_
          ·have f4 : F.tmps.getD 4 undef = .int .i64 1 := (a 4).trans (by kernel_rfl); clear H c b d a; refine oP rfl ?_; go_simp; exact f.out _ _ rfl trivial e
          refine EC 3 rfl (fun h i W F a b c d e H K f => ?_) ?_
          ·have f0 : F.tmps.getD 0 undef = .pointer (some ⟨g, 0, none⟩) := (a 0).trans (by kernel_rfl); clear H c b d a; refine oP rfl ?_; go_simp; exact f.out _ _ rfl trivial e
          refine EC 4 rfl (fun g h W F a b c d e H K f => ?_) ?_
          ·have f4 : F.tmps.getD 4 undef = .int .i64 1 := (a 4).trans (by kernel_rfl); clear H c b d a; refine oP rfl ?_; go_simp; exact f.out _ _ rfl trivial e
          refine EC 5 rfl (fun g h W F a b c d e H K f => ?_) ?_
          ·have f118 := gE (a 118) (by kernel_rfl) (H 2) (by kernel_rfl); clear H c b d a; refine oP rfl ?_; go_simp; exact f.out _ _ rfl trivial e
          refine EC 6 rfl (fun g h W F a b c d e H K f => ?_) ?_
          ·have f120 := gE (a 120) (by kernel_rfl) (H 4) (by kernel_rfl); clear H c b d a; refine oP rfl ?_; go_simp; exact f.out _ _ rfl trivial e
          refine EC 7 rfl (fun g h W F a b c d e H K f => ?_) ?_
          ·have f119 := gE (a 119) (by kernel_rfl) (H 3) (by kernel_rfl); have f121 := gE (a 121) (by kernel_rfl) (H 5) (by kernel_rfl); clear H c b d a; refine oP rfl ?_; go_simp; exact f.out _ _ rfl trivial e
          refine EC 8 rfl (fun g h W F a b c d e H K f => ?_) ?_
          ·have f122 := gE (a 122) (by kernel_rfl) (H 6) (by kernel_rfl); have q1 : g 15 = false := c 15 (.edge (by kernel_rfl)); have q2 : g 16 = false := c 16 (.more (j := 15) (by kernel_rfl) (.edge (by kernel_rfl))); have hq := e; rw [if_neg (by simp [q2]), if_neg (by simp [q1])] at hq; have kk := hq.l1; clear H c b d a; refine oP rfl ?_; go_simp; exact f.out _ _ rfl trivial e
          refine EC 9 rfl (fun h i W F a b c d e H K f => ?_) ?_
          ·have f0 : F.tmps.getD 0 undef = .pointer (some ⟨g, 0, none⟩) := (a 0).trans (by kernel_rfl); clear H c b d a; refine oP rfl ?_; go_simp; exact f.out _ _ rfl trivial e
          refine EC 10 rfl (fun g h W F a b c d e H K f => ?_) ?_
          ·have f4 : F.tmps.getD 4 undef = .int .i64 1 := (a 4).trans (by kernel_rfl); clear H c b d a; refine oP rfl ?_; go_simp; exact f.out _ _ rfl trivial e
          refine EC 11 rfl (fun g h W F a b c d e H K f => ?_) ?_
          ·have f124 := gE (a 124) (by kernel_rfl) (H 8) (by kernel_rfl); clear H c b d a; refine oP rfl ?_; go_simp; exact f.out _ _ rfl trivial e
          refine EC 12 rfl (fun g h W F a b c d e H K f => ?_) ?_
          ·have f126 := gE (a 126) (by kernel_rfl) (H 10) (by kernel_rfl); clear H c b d a; refine oP rfl ?_; go_simp; exact f.out _ _ rfl trivial e
          refine EC 13 rfl (fun g h W F a b c d e H K f => ?_) ?_
          ·have f125 := gE (a 125) (by kernel_rfl) (H 9) (by kernel_rfl); have f127 := gE (a 127) (by kernel_rfl) (H 11) (by kernel_rfl); clear H c b d a; refine oP rfl ?_; go_simp; exact f.out _ _ rfl trivial e
          refine EC 14 rfl (fun g h W F a b c d e H K f => ?_) ?_
          ·have f128 := gE (a 128) (by kernel_rfl) (H 12) (by kernel_rfl); have q1 : g 15 = false := c 15 (.edge (by kernel_rfl)); have q2 : g 16 = false := c 16 (.more (j := 15) (by kernel_rfl) (.edge (by kernel_rfl))); have hq := e; rw [if_neg (by simp [q2]), if_neg (by simp [q1])] at hq; have kk := hq.t1; clear H c b d a; refine oP rfl ?_; go_simp; exact f.out _ _ rfl trivial e
          refine EC 15 rfl (fun g h W F a b c d e H K f => ?_) ?_
          ·have f7 : F.tmps.getD 7 undef = .pointer (some ⟨w3.heap.size, 0, none⟩) := (a 7).trans (by kernel_rfl); have q1 : g 15 = false := c 15 (.edge (by kernel_rfl)); have q2 : g 16 = false := c 16 (.more (j := 15) (by kernel_rfl) (.edge (by kernel_rfl))); have hq := e; rw [if_neg (by simp [q2]), if_neg (by simp [q1])] at hq; obtain ⟨kf0, kf1, kf2, kf3, kf4, kf5, kf6, kf7, kf8, kf9⟩ := HF.out W hq; clear H c b d a; refine oP rfl ?_; go_simp; exact f.out _ _ rfl trivial e
          refine EC 16 rfl (fun h i W F a b c d f H K g => ?_) ?_
          ·have f123 := gE (a 123) (by kernel_rfl) (H 7) (by kernel_rfl); have f129 := gE (a 129) (by kernel_rfl) (H 13) (by kernel_rfl); have f130 := gE (a 130) (by kernel_rfl) (H 14) (by kernel_rfl); have q16 : h 16 = false := c 16 (.edge (by kernel_rfl)); rw [if_neg (by simp [q16]), if_neg (by simp [b])] at f; have hS := f; clear f c b d a H; refine oP rfl ?_; go_simp; refine (HC1.out W hS).mono ?_; rintro e W' ⟨v, rfl, hs⟩; exact g.out v W' trivial trivial (by simpa [upB, upd, q16] using hs)
          refine EC 17 rfl (fun h i W F a b c d f H K g => ?_) ?_
          ·have f116 := gE (a 116) (by kernel_rfl) (H 0) (by kernel_rfl); have f117 := gE (a 117) (by kernel_rfl) (H 1) (by kernel_rfl); have f131 : F.tmps.getD 131 undef = i 15 := (a 131).trans (by kernel_rfl); have q15 : h 15 = true := (H 15 (.edge (by kernel_rfl))).1; rw [if_neg (by simp [b]), if_pos q15] at f; have hS := f; clear f c b d a H; refine oP rfl ?_; go_simp; refine (HC2.out W _ hS).mono ?_; rintro e W' ⟨rfl, hs⟩; exact g.out _ W' trivial trivial (by simpa [upB, upd] using hs)
          exact EN
         ·intro dn xv W hI H; have qe : dn 16 = true := (H 16 (of_decide_eq_true (by kernel_rfl))).1; rw [if_pos qe] at hI; have hS := hI; clear H hI qe; simp only [putAll, Act.put, List.setIfInBounds_toArray, List.set_cons_zero, List.set_cons_succ, Nat.reduceAdd]
          go_wp2_with fail
          go_meet
          case rel => exact ⟨a0, a1, _, hS.pop.pop.pop, Lib.hid ⟨by rw [act_mid H234.out HJW.out HFW.out, HT0.out]; simp only; rw [if_neg H4.out], (HO0.out.take (by omega) true HFO.out).mono (by omega)⟩⟩
    ·have e2 : (d == 2) = false := by simp; omega
     have e3 : (d == 3) = false := by simp; omega
     have e4 : (d == 4) = false := by simp; omega
     by_cases h5 : d = 5
     ·subst h5
      go_wp2_with fail
      refine (lifeA1 HA.out hO (by omega)).mono ?_; rintro e w2 ⟨rfl, a, h2⟩; have HA2 := Lib.hid h2; clear h2
      go_wp2_with fail
      go_meet
      case rel => exact ⟨_, _, _, HA2.out, Lib.hid ⟨by rw [TW.act, if_neg (by decide), if_neg (by decide), if_neg (by decide), if_pos rfl], (hO.life true).mono (by omega)⟩⟩
     ·have e5 : (d == 5) = false := by simpa using h5
      go_wp2_with fail
      go_meet
      case rel => exact ⟨a0, a1, T, HA.out, Lib.hid ⟨by rw [TW.act, if_neg h0, if_neg h1, if_neg h234, if_neg h5], hO.mono (by omega)⟩⟩
 case rest =>
  obtain ⟨c0, c1, T1, hA, HR⟩ := hcut; have HA1 := Lib.hid (show TwA c0 c1 w0 wc g (T1.trimTo 0) Qs by rw [trimTo_0]; exact hA); clear hA HA HAB HSB k0 k1 k2 hO
  go_wp2_with fail
  go_loopw [8] (fun iv wr => ∃ m : Nat, m ≤ 2 ∧ iv = .int .i64 (m : Int) ∧ Hid (TwA c0 c1 w0 wr g (T1.trimTo m) Qs)) (fun iv _ => 2 - (intOf iv).toNat)
  case atStart => exact ⟨0, by omega, rfl, HA1⟩
  case round =>
   obtain ⟨m, hm, rfl, HM⟩ := hrel
   rcases (show m = 0 ∨ m = 1 ∨ m = 2 by omega) with e | e | e
   ·subst e; obtain ⟨b0, b1, v0, v1, W0, W1, BB, bs, bt, q1, q2, q3, q4, h⟩ := HM.out; obtain ⟨AV, cV, hv, hcV, hcV2, _⟩ := sep_rwoForm (i := 5) h rfl; subst hv; obtain ⟨nl, Hnl⟩ : ∃ y, Hid (W0.length = y) := ⟨_, Lib.hid rfl⟩; rw [Hnl.out] at hcV; have HS2 := Lib.hid (show Sep w0 wr (Ce g 34 #[.pointer (some ⟨c0, 0, none⟩), .pointer (some ⟨c1, 0, none⟩), .int .u64 ((((T1.trimTo 0).l false).si : Nat) : Int), .int .u64 ((((T1.trimTo 0).l true).si : Nat) : Int), .int .u64 (((T1.trimTo 0).now false : Nat) : Int), .int .u64 (((T1.trimTo 0).now true : Nat) : Int), .slice AV nl cV, v1, .map (some bs), .map (some bt), .int .i64 (((T1.trimTo 0).n : Nat) : Int), .bool false] :: (Ce c0 72 (((T1.trimTo 0).l false).cells b0) :: BoxT b0 ((T1.trimTo 0).l false).box :: Ce c1 72 (((T1.trimTo 0).l true).cells b1) :: BoxT b1 ((T1.trimTo 0).l true).box :: RwO 51 10 (.slice AV nl cV) nl (fR_ W0) :: RwO 51 10 v1 W1.length (fR_ W1) :: Bods BB :: MapT bs (T1.trimTo 0).sent :: MapT bt (T1.trimTo 0).told :: Qs)) by rw [← Hnl.out]; exact h); have HQ := Lib.hid (And.intro q1 (And.intro q2 (And.intro q3 q4))); have hnl : nl = ((T1.trimTo 0).way false).length := by rw [← Hnl.out, ← q1, List.length_map]
    have hnb : nl ≤ B + 20 := by rw [hnl]; exact HR.out.2.way false
    have HNL := Lib.hid hnl; clear h q1 q2 q3 q4 hnl; have kk := cA (i := 0) HS2.out rfl 6 rfl
    by_cases h3 : 300 < nl
    ·have e3 : decide (300 < (nl : Int)) = true := by simp; omega
     obtain ⟨nd, Hnd⟩ : ∃ y, Hid (nl - 300 = y) := ⟨_, Lib.hid rfl⟩; have hnd : nd ≤ nl := by rw [← Hnd.out]; omega
     have esub : IntKind.i64.wrap ((nl : Int) - 300) = (nd : Int) := by rw [IntKind.wrap_i64]; have := Hnd.out; omega
     obtain ⟨SA, HSA⟩ : ∃ y, Hid ((if cV = nd then AV else AV.map (·.add (nd * 10))) = y) := ⟨_, Lib.hid rfl⟩; obtain ⟨sn, Hsn⟩ : ∃ y, Hid (nl - nd = y) := ⟨_, Lib.hid rfl⟩; obtain ⟨sc, Hsc⟩ : ∃ y, Hid (cV - nd = y) := ⟨_, Lib.hid rfl⟩; have HRS : Hid (∀ W, (Instr.slice 30 (.slice AV nl cV) (some (.int .i64 (nd : Int))) none none).run Try.prog W = .ok (.slice SA sn sc) W) := Lib.hid (fun W => by rw [run_fromF W AV nl cV nd hnd, HSA.out, Hsn.out, Hsc.out]); have HPUT : Hid (∀ W, Sep w0 W (Ce g 34 #[.pointer (some ⟨c0, 0, none⟩), .pointer (some ⟨c1, 0, none⟩), .int .u64 ((((T1.trimTo 0).l false).si : Nat) : Int), .int .u64 ((((T1.trimTo 0).l true).si : Nat) : Int), .int .u64 (((T1.trimTo 0).now false : Nat) : Int), .int .u64 (((T1.trimTo 0).now true : Nat) : Int), .slice AV nl cV, v1, .map (some bs), .map (some bt), .int .i64 (((T1.trimTo 0).n : Nat) : Int), .bool false] :: (Ce c0 72 (((T1.trimTo 0).l false).cells b0) :: BoxT b0 ((T1.trimTo 0).l false).box :: Ce c1 72 (((T1.trimTo 0).l true).cells b1) :: BoxT b1 ((T1.trimTo 0).l true).box :: RwO 51 10 (.slice AV nl cV) nl (fR_ W0) :: RwO 51 10 v1 W1.length (fR_ W1) :: Bods BB :: MapT bs (T1.trimTo 0).sent :: MapT bt (T1.trimTo 0).told :: Qs)) → Sep w0 (W.setCell ⟨g, 6, none⟩ (.slice SA sn sc)) (Ce g 34 #[.pointer (some ⟨c0, 0, none⟩), .pointer (some ⟨c1, 0, none⟩), .int .u64 ((((T1.trimTo 0).l false).si : Nat) : Int), .int .u64 ((((T1.trimTo 0).l true).si : Nat) : Int), .int .u64 (((T1.trimTo 0).now false : Nat) : Int), .int .u64 (((T1.trimTo 0).now true : Nat) : Int), .slice SA sn sc, v1, .map (some bs), .map (some bt), .int .i64 (((T1.trimTo 0).n : Nat) : Int), .bool false] :: (Ce c0 72 (((T1.trimTo 0).l false).cells b0) :: BoxT b0 ((T1.trimTo 0).l false).box :: Ce c1 72 (((T1.trimTo 0).l true).cells b1) :: BoxT b1 ((T1.trimTo 0).l true).box :: RwO 51 10 (.slice SA sn sc) sn ((fR_ W0).drop (nd * 10)) :: RwO 51 10 v1 W1.length (fR_ W1) :: Bods BB :: MapT bs (T1.trimTo 0).sent :: MapT bt (T1.trimTo 0).told :: Qs))) := Lib.hid (fun W hS => by
      have h1 := sep_rwoFrom (i := 5) (cS (i := 0) hS rfl 6 (.slice SA sn sc)) rfl hnd; rw [HSA.out, Hsn.out, Hsc.out] at h1; exact h1)
     clear hnd
     go_wp2_with fail
     refine wRF (fun dn xv W => if dn 14 = true then Sep w0 W (Ce g 34 #[.pointer (some ⟨c0, 0, none⟩), .pointer (some ⟨c1, 0, none⟩), .int .u64 ((((T1.trimTo 0).l false).si : Nat) : Int), .int .u64 ((((T1.trimTo 0).l true).si : Nat) : Int), .int .u64 (((T1.trimTo 0).now false : Nat) : Int), .int .u64 (((T1.trimTo 0).now true : Nat) : Int), .slice SA sn sc, v1, .map (some bs), .map (some bt), .int .i64 (((T1.trimTo 0).n : Nat) : Int), .bool false] :: (Ce c0 72 (((T1.trimTo 0).l false).cells b0) :: BoxT b0 ((T1.trimTo 0).l false).box :: Ce c1 72 (((T1.trimTo 0).l true).cells b1) :: BoxT b1 ((T1.trimTo 0).l true).box :: RwO 51 10 (.slice SA sn sc) sn ((fR_ W0).drop (nd * 10)) :: RwO 51 10 v1 W1.length (fR_ W1) :: Bods BB :: MapT bs (T1.trimTo 0).sent :: MapT bt (T1.trimTo 0).told :: Qs)) else Sep w0 W (Ce g 34 #[.pointer (some ⟨c0, 0, none⟩), .pointer (some ⟨c1, 0, none⟩), .int .u64 ((((T1.trimTo 0).l false).si : Nat) : Int), .int .u64 ((((T1.trimTo 0).l true).si : Nat) : Int), .int .u64 (((T1.trimTo 0).now false : Nat) : Int), .int .u64 (((T1.trimTo 0).now true : Nat) : Int), .slice AV nl cV, v1, .map (some bs), .map (some bt), .int .i64 (((T1.trimTo 0).n : Nat) : Int), .bool false] :: (Ce c0 72 (((T1.trimTo 0).l false).cells b0) :: BoxT b0 ((T1.trimTo 0).l false).box :: Ce c1 72 (((T1.trimTo 0).l true).cells b1) :: BoxT b1 ((T1.trimTo 0).l true).box :: RwO 51 10 (.slice AV nl cV) nl (fR_ W0) :: RwO 51 10 v1 W1.length (fR_ W1) :: Bods BB :: MapT bs (T1.trimTo 0).sent :: MapT bt (T1.trimTo 0).told :: Qs))) (fun _ _ => True) [fun v _ => v = .pointer (some ⟨g, 0, none⟩), fun v _ => v = .int .i64 0, fun v _ => v = .pointer (some ⟨g, 0, none⟩), fun v _ => v = .int .i64 0, fun v _ => v = .pointer (some ⟨g, 0, none⟩), fun v _ => v = .pointer (some ⟨g, 6, none⟩), fun v _ => v = .pointer (some ⟨g, 6, none⟩), fun v _ => v = .slice AV nl cV, fun v _ => v = .int .i64 (nl : Int), fun v _ => v = .int .i64 (nd : Int), fun v _ => v = .slice SA sn sc, fun v _ => v = .pointer (some ⟨g, 0, none⟩), fun v _ => v = .pointer (some ⟨g, 6, none⟩), fun v _ => v = .pointer (some ⟨g, 6, none⟩), fun v _ => True] (by kernel_rfl) (by kernel_rfl) (by kernel_rfl) (by kernel_rfl) (fun xv => by simpa using HS2.out.drew)
      (by repeat (first | exact trivial | refine ⟨fun _ _ _ _ h => h, ?_⟩)) ?_ ?_
     ·refine EC 1 rfl (fun h i W F a b c d e H K f => ?_) ?_
      ·have f0 : F.tmps.getD 0 undef = .pointer (some ⟨g, 0, none⟩) := (a 0).trans (by kernel_rfl); clear H c b d a; refine oP rfl ?_; go_simp; exact f.out _ _ rfl trivial e
      refine EC 2 rfl (fun g h W F a b c d e H K f => ?_) ?_
      ·have f8 : F.tmps.getD 8 undef = .int .i64 0 := (a 8).trans (by kernel_rfl); clear H c b d a; refine oP rfl ?_; go_simp; exact f.out _ _ rfl trivial e
      refine EC 3 rfl (fun h i W F a b c d e H K f => ?_) ?_
      ·have f0 : F.tmps.getD 0 undef = .pointer (some ⟨g, 0, none⟩) := (a 0).trans (by kernel_rfl); clear H c b d a; refine oP rfl ?_; go_simp; exact f.out _ _ rfl trivial e
      refine EC 4 rfl (fun g h W F a b c d e H K f => ?_) ?_
      ·have f8 : F.tmps.getD 8 undef = .int .i64 0 := (a 8).trans (by kernel_rfl); clear H c b d a; refine oP rfl ?_; go_simp; exact f.out _ _ rfl trivial e
      refine EC 5 rfl (fun g h W F a b c d e H K f => ?_) ?_
      ·have f153 := gE (a 153) (by kernel_rfl) (H 2) (by kernel_rfl); clear H c b d a; refine oP rfl ?_; go_simp; exact f.out _ _ rfl trivial e
      refine EC 6 rfl (fun g h W F a b c d e H K f => ?_) ?_
      ·have f155 := gE (a 155) (by kernel_rfl) (H 4) (by kernel_rfl); clear H c b d a; refine oP rfl ?_; go_simp; exact f.out _ _ rfl trivial e
      refine EC 7 rfl (fun g h W F a b c d e H K f => ?_) ?_
      ·have f154 := gE (a 154) (by kernel_rfl) (H 3) (by kernel_rfl); have f156 := gE (a 156) (by kernel_rfl) (H 5) (by kernel_rfl); clear H c b d a; refine oP rfl ?_; go_simp; exact f.out _ _ rfl trivial e
      refine EC 8 rfl (fun g h W F a b c d e H K f => ?_) ?_
      ·have f157 := gE (a 157) (by kernel_rfl) (H 6) (by kernel_rfl); have q14 : g 14 = false := c 14 (.more (j := 10) (by kernel_rfl) (.edge (by kernel_rfl))); have hq := e; rw [if_neg (by simp [q14])] at hq; have kk := cA (i := 0) hq rfl 6 rfl; clear H c b d a; refine oP rfl ?_; go_simp; exact f.out _ _ rfl trivial e
      refine EC 9 rfl (fun g h W F a b c d e H K f => ?_) ?_
      ·have f9 : F.tmps.getD 9 undef = .int .i64 (nl : Int) := (a 9).trans (by kernel_rfl); clear H c b d a; refine oP rfl ?_; go_simp; exact f.out _ _ rfl trivial e
      refine EC 10 rfl (fun g h W F a b c d e H K f => ?_) ?_
      ·have f159 := gE (a 159) (by kernel_rfl) (H 8) (by kernel_rfl); clear H c b d a; refine oP rfl ?_; go_simp; exact f.out _ _ rfl trivial e
      refine EC 11 rfl (fun g h W F a b c d e H K f => ?_) ?_
      ·have f158 := gE (a 158) (by kernel_rfl) (H 7) (by kernel_rfl); have f160 := gE (a 160) (by kernel_rfl) (H 9) (by kernel_rfl); have rs := HRS.out W; clear H c b d a; refine oP rfl ?_; go_simp; exact f.out _ _ rfl trivial e
      refine EC 12 rfl (fun g h W F a b c d e H K f => ?_) ?_
      ·have f151 := gE (a 151) (by kernel_rfl) (H 0) (by kernel_rfl); clear H c b d a; refine oP rfl ?_; go_simp; exact f.out _ _ rfl trivial e
      refine EC 13 rfl (fun g h W F a b c d e H K f => ?_) ?_
      ·have f162 := gE (a 162) (by kernel_rfl) (H 11) (by kernel_rfl); clear H c b d a; refine oP rfl ?_; go_simp; exact f.out _ _ rfl trivial e
      refine EC 14 rfl (fun g h W F a b c d e H K f => ?_) ?_
      ·have f152 := gE (a 152) (by kernel_rfl) (H 1) (by kernel_rfl); have f163 := gE (a 163) (by kernel_rfl) (H 12) (by kernel_rfl); clear H c b d a; refine oP rfl ?_; go_simp; exact f.out _ _ rfl trivial e
      refine EC 15 rfl (fun h j W F a b c d e H K f => ?_) ?_
      ·have f161 := gE (a 161) (by kernel_rfl) (H 10) (by kernel_rfl); have f164 := gE (a 164) (by kernel_rfl) (H 13) (by kernel_rfl); rw [if_neg (by simp [b])] at e; have hS := e; clear e c b d a H; refine oP rfl ?_; have yy := cFz (i := 0) hS rfl 6; have kk := cA (i := 0) hS rfl 6 rfl; have hs : Sep w0 (W.setCell ⟨g, 6, none⟩ (.slice SA sn sc)) (Ce g 34 #[.pointer (some ⟨c0, 0, none⟩), .pointer (some ⟨c1, 0, none⟩), .int .u64 ((((T1.trimTo 0).l false).si : Nat) : Int), .int .u64 ((((T1.trimTo 0).l true).si : Nat) : Int), .int .u64 (((T1.trimTo 0).now false : Nat) : Int), .int .u64 (((T1.trimTo 0).now true : Nat) : Int), .slice SA sn sc, v1, .map (some bs), .map (some bt), .int .i64 (((T1.trimTo 0).n : Nat) : Int), .bool false] :: (Ce c0 72 (((T1.trimTo 0).l false).cells b0) :: BoxT b0 ((T1.trimTo 0).l false).box :: Ce c1 72 (((T1.trimTo 0).l true).cells b1) :: BoxT b1 ((T1.trimTo 0).l true).box :: RwO 51 10 (.slice SA sn sc) sn ((fR_ W0).drop (nd * 10)) :: RwO 51 10 v1 W1.length (fR_ W1) :: Bods BB :: MapT bs (T1.trimTo 0).sent :: MapT bt (T1.trimTo 0).told :: Qs)) := HPUT.out W hS; go_simp; exact f.out undef _ trivial trivial (by simpa [upB, upd] using hs)
      exact EN
     ·intro dn xv W hI H; have qe : dn 14 = true := (H 14 (of_decide_eq_true (by kernel_rfl))).1; rw [if_pos qe] at hI; have hS := hI; clear H hI qe; simp only [putAll, Act.put, List.setIfInBounds_toArray, List.set_cons_zero, List.set_cons_succ, Nat.reduceAdd]; have HS3 := Lib.hid hS; clear hS
      go_wp2_with fail
      go_roundw
      case rel =>
       refine ⟨1, by omega, rfl, Lib.hid ⟨b0, b1, .slice SA sn sc, v1, W0.drop nd, W1, BB, bs, bt, ?_, ?_, ?_, ?_, ?_⟩⟩
       ·rw [List.map_drop, HQ.out.1]; exact trim_nd T1 false HNL.out Hnd.out
       ·exact HQ.out.2.1
       ·exact fun y hy => HQ.out.2.2.1 y (frBods_drop hy)
       ·exact HQ.out.2.2.2
       ·have h1 := HS3.out; rw [← frRow_drop, show sn = (W0.drop nd).length by rw [List.length_drop, Hnl.out, Hsn.out]] at h1; rw [show sn = (W0.drop nd).length by rw [List.length_drop, Hnl.out, Hsn.out]]; exact h1
      case measure => simp [intOf]
    ·have e3 : decide (300 < (nl : Int)) = false := by simp; omega
     have HM2 : Hid (TwA c0 c1 w0 wr g (T1.trimTo 1) Qs) := Lib.hid (by
      rw [trimTo_step0 T1 (by have h4 := HNL.out; rw [show (T1.trimTo 0).way false = T1.way false by simp [TW.trimTo]] at h4; omega)]; exact HM.out)
     go_wp2_with fail
     go_roundw
     case rel => exact ⟨1, by omega, rfl, HM2⟩
     case measure => simp [intOf]
   ·subst e; obtain ⟨b0, b1, v0, v1, W0, W1, BB, bs, bt, q1, q2, q3, q4, h⟩ := HM.out; obtain ⟨AV, cV, hv, hcV, hcV2, _⟩ := sep_rwoForm (i := 6) h rfl; subst hv; obtain ⟨nl, Hnl⟩ : ∃ y, Hid (W1.length = y) := ⟨_, Lib.hid rfl⟩; rw [Hnl.out] at hcV; have HS2 := Lib.hid (show Sep w0 wr (Ce g 34 #[.pointer (some ⟨c0, 0, none⟩), .pointer (some ⟨c1, 0, none⟩), .int .u64 ((((T1.trimTo 1).l false).si : Nat) : Int), .int .u64 ((((T1.trimTo 1).l true).si : Nat) : Int), .int .u64 (((T1.trimTo 1).now false : Nat) : Int), .int .u64 (((T1.trimTo 1).now true : Nat) : Int), v0, .slice AV nl cV, .map (some bs), .map (some bt), .int .i64 (((T1.trimTo 1).n : Nat) : Int), .bool false] :: (Ce c0 72 (((T1.trimTo 1).l false).cells b0) :: BoxT b0 ((T1.trimTo 1).l false).box :: Ce c1 72 (((T1.trimTo 1).l true).cells b1) :: BoxT b1 ((T1.trimTo 1).l true).box :: RwO 51 10 v0 W0.length (fR_ W0) :: RwO 51 10 (.slice AV nl cV) nl (fR_ W1) :: Bods BB :: MapT bs (T1.trimTo 1).sent :: MapT bt (T1.trimTo 1).told :: Qs)) by rw [← Hnl.out]; exact h); have HQ := Lib.hid (And.intro q1 (And.intro q2 (And.intro q3 q4))); have hnl : nl = ((T1.trimTo 1).way true).length := by rw [← Hnl.out, ← q2, List.length_map]
    have hnb : nl ≤ B + 20 := by rw [hnl]; exact HR.out.2.way true
    have HNL := Lib.hid hnl; clear h q1 q2 q3 q4 hnl; have kk := cA (i := 0) HS2.out rfl 7 rfl
    by_cases h3 : 300 < nl
    ·have e3 : decide (300 < (nl : Int)) = true := by simp; omega
     obtain ⟨nd, Hnd⟩ : ∃ y, Hid (nl - 300 = y) := ⟨_, Lib.hid rfl⟩; have hnd : nd ≤ nl := by rw [← Hnd.out]; omega
     have esub : IntKind.i64.wrap ((nl : Int) - 300) = (nd : Int) := by rw [IntKind.wrap_i64]; have := Hnd.out; omega
     obtain ⟨SA, HSA⟩ : ∃ y, Hid ((if cV = nd then AV else AV.map (·.add (nd * 10))) = y) := ⟨_, Lib.hid rfl⟩; obtain ⟨sn, Hsn⟩ : ∃ y, Hid (nl - nd = y) := ⟨_, Lib.hid rfl⟩; obtain ⟨sc, Hsc⟩ : ∃ y, Hid (cV - nd = y) := ⟨_, Lib.hid rfl⟩; have HRS : Hid (∀ W, (Instr.slice 30 (.slice AV nl cV) (some (.int .i64 (nd : Int))) none none).run Try.prog W = .ok (.slice SA sn sc) W) := Lib.hid (fun W => by rw [run_fromF W AV nl cV nd hnd, HSA.out, Hsn.out, Hsc.out]); have HPUT : Hid (∀ W, Sep w0 W (Ce g 34 #[.pointer (some ⟨c0, 0, none⟩), .pointer (some ⟨c1, 0, none⟩), .int .u64 ((((T1.trimTo 1).l false).si : Nat) : Int), .int .u64 ((((T1.trimTo 1).l true).si : Nat) : Int), .int .u64 (((T1.trimTo 1).now false : Nat) : Int), .int .u64 (((T1.trimTo 1).now true : Nat) : Int), v0, .slice AV nl cV, .map (some bs), .map (some bt), .int .i64 (((T1.trimTo 1).n : Nat) : Int), .bool false] :: (Ce c0 72 (((T1.trimTo 1).l false).cells b0) :: BoxT b0 ((T1.trimTo 1).l false).box :: Ce c1 72 (((T1.trimTo 1).l true).cells b1) :: BoxT b1 ((T1.trimTo 1).l true).box :: RwO 51 10 v0 W0.length (fR_ W0) :: RwO 51 10 (.slice AV nl cV) nl (fR_ W1) :: Bods BB :: MapT bs (T1.trimTo 1).sent :: MapT bt (T1.trimTo 1).told :: Qs)) → Sep w0 (W.setCell ⟨g, 7, none⟩ (.slice SA sn sc)) (Ce g 34 #[.pointer (some ⟨c0, 0, none⟩), .pointer (some ⟨c1, 0, none⟩), .int .u64 ((((T1.trimTo 1).l false).si : Nat) : Int), .int .u64 ((((T1.trimTo 1).l true).si : Nat) : Int), .int .u64 (((T1.trimTo 1).now false : Nat) : Int), .int .u64 (((T1.trimTo 1).now true : Nat) : Int), v0, .slice SA sn sc, .map (some bs), .map (some bt), .int .i64 (((T1.trimTo 1).n : Nat) : Int), .bool false] :: (Ce c0 72 (((T1.trimTo 1).l false).cells b0) :: BoxT b0 ((T1.trimTo 1).l false).box :: Ce c1 72 (((T1.trimTo 1).l true).cells b1) :: BoxT b1 ((T1.trimTo 1).l true).box :: RwO 51 10 v0 W0.length (fR_ W0) :: RwO 51 10 (.slice SA sn sc) sn ((fR_ W1).drop (nd * 10)) :: Bods BB :: MapT bs (T1.trimTo 1).sent :: MapT bt (T1.trimTo 1).told :: Qs))) := Lib.hid (fun W hS => by
      have h1 := sep_rwoFrom (i := 6) (cS (i := 0) hS rfl 7 (.slice SA sn sc)) rfl hnd; rw [HSA.out, Hsn.out, Hsc.out] at h1; exact h1)
     clear hnd
     go_wp2_with fail
     refine wRF (fun dn xv W => if dn 14 = true then Sep w0 W (Ce g 34 #[.pointer (some ⟨c0, 0, none⟩), .pointer (some ⟨c1, 0, none⟩), .int .u64 ((((T1.trimTo 1).l false).si : Nat) : Int), .int .u64 ((((T1.trimTo 1).l true).si : Nat) : Int), .int .u64 (((T1.trimTo 1).now false : Nat) : Int), .int .u64 (((T1.trimTo 1).now true : Nat) : Int), v0, .slice SA sn sc, .map (some bs), .map (some bt), .int .i64 (((T1.trimTo 1).n : Nat) : Int), .bool false] :: (Ce c0 72 (((T1.trimTo 1).l false).cells b0) :: BoxT b0 ((T1.trimTo 1).l false).box :: Ce c1 72 (((T1.trimTo 1).l true).cells b1) :: BoxT b1 ((T1.trimTo 1).l true).box :: RwO 51 10 v0 W0.length (fR_ W0) :: RwO 51 10 (.slice SA sn sc) sn ((fR_ W1).drop (nd * 10)) :: Bods BB :: MapT bs (T1.trimTo 1).sent :: MapT bt (T1.trimTo 1).told :: Qs)) else Sep w0 W (Ce g 34 #[.pointer (some ⟨c0, 0, none⟩), .pointer (some ⟨c1, 0, none⟩), .int .u64 ((((T1.trimTo 1).l false).si : Nat) : Int), .int .u64 ((((T1.trimTo 1).l true).si : Nat) : Int), .int .u64 (((T1.trimTo 1).now false : Nat) : Int), .int .u64 (((T1.trimTo 1).now true : Nat) : Int), v0, .slice AV nl cV, .map (some bs), .map (some bt), .int .i64 (((T1.trimTo 1).n : Nat) : Int), .bool false] :: (Ce c0 72 (((T1.trimTo 1).l false).cells b0) :: BoxT b0 ((T1.trimTo 1).l false).box :: Ce c1 72 (((T1.trimTo 1).l true).cells b1) :: BoxT b1 ((T1.trimTo 1).l true).box :: RwO 51 10 v0 W0.length (fR_ W0) :: RwO 51 10 (.slice AV nl cV) nl (fR_ W1) :: Bods BB :: MapT bs (T1.trimTo 1).sent :: MapT bt (T1.trimTo 1).told :: Qs))) (fun _ _ => True) [fun v _ => v = .pointer (some ⟨g, 0, none⟩), fun v _ => v = .int .i64 1, fun v _ => v = .pointer (some ⟨g, 0, none⟩), fun v _ => v = .int .i64 1, fun v _ => v = .pointer (some ⟨g, 0, none⟩), fun v _ => v = .pointer (some ⟨g, 6, none⟩), fun v _ => v = .pointer (some ⟨g, 7, none⟩), fun v _ => v = .slice AV nl cV, fun v _ => v = .int .i64 (nl : Int), fun v _ => v = .int .i64 (nd : Int), fun v _ => v = .slice SA sn sc, fun v _ => v = .pointer (some ⟨g, 0, none⟩), fun v _ => v = .pointer (some ⟨g, 6, none⟩), fun v _ => v = .pointer (some ⟨g, 7, none⟩), fun v _ => True] (by kernel_rfl) (by kernel_rfl) (by kernel_rfl) (by kernel_rfl) (fun xv => by simpa using HS2.out.drew)
      (by repeat (first | exact trivial | refine ⟨fun _ _ _ _ h => h, ?_⟩)) ?_ ?_
     ·refine EC 1 rfl (fun h i W F a b c d e H K f => ?_) ?_
      ·have f0 : F.tmps.getD 0 undef = .pointer (some ⟨g, 0, none⟩) := (a 0).trans (by kernel_rfl); clear H c b d a; refine oP rfl ?_; go_simp; exact f.out _ _ rfl trivial e
      refine EC 2 rfl (fun g h W F a b c d e H K f => ?_) ?_
      ·have f8 : F.tmps.getD 8 undef = .int .i64 1 := (a 8).trans (by kernel_rfl); clear H c b d a; refine oP rfl ?_; go_simp; exact f.out _ _ rfl trivial e
      refine EC 3 rfl (fun h i W F a b c d e H K f => ?_) ?_
      ·have f0 : F.tmps.getD 0 undef = .pointer (some ⟨g, 0, none⟩) := (a 0).trans (by kernel_rfl); clear H c b d a; refine oP rfl ?_; go_simp; exact f.out _ _ rfl trivial e
      refine EC 4 rfl (fun g h W F a b c d e H K f => ?_) ?_
      ·have f8 : F.tmps.getD 8 undef = .int .i64 1 := (a 8).trans (by kernel_rfl); clear H c b d a; refine oP rfl ?_; go_simp; exact f.out _ _ rfl trivial e
      refine EC 5 rfl (fun g h W F a b c d e H K f => ?_) ?_
      ·have f153 := gE (a 153) (by kernel_rfl) (H 2) (by kernel_rfl); clear H c b d a; refine oP rfl ?_; go_simp; exact f.out _ _ rfl trivial e
      refine EC 6 rfl (fun g h W F a b c d e H K f => ?_) ?_
      ·have f155 := gE (a 155) (by kernel_rfl) (H 4) (by kernel_rfl); clear H c b d a; refine oP rfl ?_; go_simp; exact f.out _ _ rfl trivial e
      refine EC 7 rfl (fun g h W F a b c d e H K f => ?_) ?_
      ·have f154 := gE (a 154) (by kernel_rfl) (H 3) (by kernel_rfl); have f156 := gE (a 156) (by kernel_rfl) (H 5) (by kernel_rfl); clear H c b d a; refine oP rfl ?_; go_simp; exact f.out _ _ rfl trivial e
      refine EC 8 rfl (fun g h W F a b c d e H K f => ?_) ?_
      ·have f157 := gE (a 157) (by kernel_rfl) (H 6) (by kernel_rfl); have q14 : g 14 = false := c 14 (.more (j := 10) (by kernel_rfl) (.edge (by kernel_rfl))); have hq := e; rw [if_neg (by simp [q14])] at hq; have kk := cA (i := 0) hq rfl 7 rfl; clear H c b d a; refine oP rfl ?_; go_simp; exact f.out _ _ rfl trivial e
      refine EC 9 rfl (fun g h W F a b c d e H K f => ?_) ?_
      ·have f9 : F.tmps.getD 9 undef = .int .i64 (nl : Int) := (a 9).trans (by kernel_rfl); clear H c b d a; refine oP rfl ?_; go_simp; exact f.out _ _ rfl trivial e
      refine EC 10 rfl (fun g h W F a b c d e H K f => ?_) ?_
      ·have f159 := gE (a 159) (by kernel_rfl) (H 8) (by kernel_rfl); clear H c b d a; refine oP rfl ?_; go_simp; exact f.out _ _ rfl trivial e
      refine EC 11 rfl (fun g h W F a b c d e H K f => ?_) ?_
      ·have f158 := gE (a 158) (by kernel_rfl) (H 7) (by kernel_rfl); have f160 := gE (a 160) (by kernel_rfl) (H 9) (by kernel_rfl); have rs := HRS.out W; clear H c b d a; refine oP rfl ?_; go_simp; exact f.out _ _ rfl trivial e
      refine EC 12 rfl (fun g h W F a b c d e H K f => ?_) ?_
      ·have f151 := gE (a 151) (by kernel_rfl) (H 0) (by kernel_rfl); clear H c b d a; refine oP rfl ?_; go_simp; exact f.out _ _ rfl trivial e
      refine EC 13 rfl (fun g h W F a b c d e H K f => ?_) ?_
      ·have f162 := gE (a 162) (by kernel_rfl) (H 11) (by kernel_rfl); clear H c b d a; refine oP rfl ?_; go_simp; exact f.out _ _ rfl trivial e
      refine EC 14 rfl (fun g h W F a b c d e H K f => ?_) ?_
      ·have f152 := gE (a 152) (by kernel_rfl) (H 1) (by kernel_rfl); have f163 := gE (a 163) (by kernel_rfl) (H 12) (by kernel_rfl); clear H c b d a; refine oP rfl ?_; go_simp; exact f.out _ _ rfl trivial e
      refine EC 15 rfl (fun h j W F a b c d e H K f => ?_) ?_
      ·have f161 := gE (a 161) (by kernel_rfl) (H 10) (by kernel_rfl); have f164 := gE (a 164) (by kernel_rfl) (H 13) (by kernel_rfl); rw [if_neg (by simp [b])] at e; have hS := e; clear e c b d a H; refine oP rfl ?_; have yy := cFz (i := 0) hS rfl 7; have kk := cA (i := 0) hS rfl 7 rfl; have hs : Sep w0 (W.setCell ⟨g, 7, none⟩ (.slice SA sn sc)) (Ce g 34 #[.pointer (some ⟨c0, 0, none⟩), .pointer (some ⟨c1, 0, none⟩), .int .u64 ((((T1.trimTo 1).l false).si : Nat) : Int), .int .u64 ((((T1.trimTo 1).l true).si : Nat) : Int), .int .u64 (((T1.trimTo 1).now false : Nat) : Int), .int .u64 (((T1.trimTo 1).now true : Nat) : Int), v0, .slice SA sn sc, .map (some bs), .map (some bt), .int .i64 (((T1.trimTo 1).n : Nat) : Int), .bool false] :: (Ce c0 72 (((T1.trimTo 1).l false).cells b0) :: BoxT b0 ((T1.trimTo 1).l false).box :: Ce c1 72 (((T1.trimTo 1).l true).cells b1) :: BoxT b1 ((T1.trimTo 1).l true).box :: RwO 51 10 v0 W0.length (fR_ W0) :: RwO 51 10 (.slice SA sn sc) sn ((fR_ W1).drop (nd * 10)) :: Bods BB :: MapT bs (T1.trimTo 1).sent :: MapT bt (T1.trimTo 1).told :: Qs)) := HPUT.out W hS; go_simp; exact f.out undef _ trivial trivial (by simpa [upB, upd] using hs)
      exact EN
     ·intro dn xv W hI H; have qe : dn 14 = true := (H 14 (of_decide_eq_true (by kernel_rfl))).1; rw [if_pos qe] at hI; have hS := hI; clear H hI qe; simp only [putAll, Act.put, List.setIfInBounds_toArray, List.set_cons_zero, List.set_cons_succ, Nat.reduceAdd]; have HS3 := Lib.hid hS; clear hS
      go_wp2_with fail
      go_roundw
      case rel =>
       refine ⟨2, by omega, rfl, Lib.hid ⟨b0, b1, v0, .slice SA sn sc, W0, W1.drop nd, BB, bs, bt, ?_, ?_, ?_, ?_, ?_⟩⟩
       ·exact HQ.out.1
       ·rw [List.map_drop, HQ.out.2.1]; exact trim_nd T1 true HNL.out Hnd.out
       ·exact HQ.out.2.2.1
       ·exact fun y hy => HQ.out.2.2.2 y (frBods_drop hy)
       ·have h1 := HS3.out; rw [← frRow_drop, show sn = (W1.drop nd).length by rw [List.length_drop, Hnl.out, Hsn.out]] at h1; rw [show sn = (W1.drop nd).length by rw [List.length_drop, Hnl.out, Hsn.out]]; exact h1
      case measure => simp [intOf]
    ·have e3 : decide (300 < (nl : Int)) = false := by simp; omega
     have HM2 : Hid (TwA c0 c1 w0 wr g (T1.trimTo 2) Qs) := Lib.hid (by
      rw [trimTo_step1 T1 (by have h4 := HNL.out; rw [show (T1.trimTo 1).way true = T1.way true by simp [TW.trimTo]] at h4; omega)]; exact HM.out)
     go_wp2_with fail
     go_roundw
     case rel => exact ⟨2, by omega, rfl, HM2⟩
     case measure => simp [intOf]
   ·subst e
    go_wp2_with fail
    go_end0
    refine ⟨rfl, true, k, c0, c1, ?_, ?_⟩
    ·rw [HR.out.1, ← trimTo_2]; exact HM.out
    ·rw [HR.out.1]; exact HR.out.2.trim
/-- an act, whatever it is -/
theorem actA {w0 w : World} {Qs : List SP} {g a0 a1 B : Nat} {T : TW} (h : TwA a0 a1 w0 w g T Qs) (hO : T.Ok B) (hB : B ≤ 1000000) (d at_ nn : Int) :
  Calls Try.prog 10 #[.pointer (some ⟨g, 0, none⟩), .agg #[.int .i64 d, .int .i64 at_, .int .i64 nn]] w fun e w' => e = .returned (.tuple #[]) ∧ ActP w0 w' g T d Qs B := by
 obtain ⟨k, hk, hb⟩ := and_low at_ 1 (by omega)
 rcases (show k = 0 ∨ k = 1 by omega) with rfl | rfl
 ·exact act0 h hO hB d at_ nn hb
 ·exact act1 h hO hB d at_ nn hb
end Go.Proofs.Ytngegjboenfmeaa
/- The beginning of two links' harness. -/
namespace Go.Proofs.Ytngegjboenfmeaa
open Go Go.RowKit Go.Shelf
set_option linter.unusedVariables false
set_option maxRecDepth 100000
set_option linter.unusedSimpArgs false

theorem TwA.bad {w0 w : World} {g a0 a1 : Nat} {T : TW} {Qs : List SP} (h : TwA a0 a1 w0 w g T Qs) : w.cell? ⟨g, 11, none⟩ = some (.bool false) := by
 obtain ⟨b0, b1, v0, v1, W0, W1, BB, bs, bt, q1, q2, q3, q4, h⟩ := h; exact cA (i := 0) h rfl 11 rfl
theorem TwA.bel {w0 w : World} {g a0 a1 : Nat} {T : TW} {Qs : List SP} (h : TwA a0 a1 w0 w g T Qs) : Below w0.heap.size w0 w := by
 obtain ⟨b0, b1, v0, v1, W0, W1, BB, bs, bt, q1, q2, q3, q4, h⟩ := h; exact h.bel
theorem has_bel {w w' : World} {A : Option Addr} {xs : List Value} (hb : Below w.heap.size w w') (h : Has w w.heap.size A xs) : Has w' w.heap.size A xs := h.below hb
set_option maxHeartbeats 3200000 in
theorem begin_any (w : World) : Calls Try.prog 9 #[] w fun e w' => ∃ g a0 a1, e = .returned (.pointer (some ⟨g, 0, none⟩)) ∧ TwA a0 a1 w w' g TW.start [] := by
 have hmm := @run_makeMap Try.prog; have h1 := sep_mapNew (sep_mapNew (Sep.nil w)); rw [World.size_alloc] at h1; have h2 := sep_ceF h1 (twC (.pointer none) (.pointer none) 0 0 0 0 (.slice none 0 0) (.slice none 0 0) w.heap.size (w.heap.size + 1) 0) 34; simp only [World.size_alloc] at h2; have HS := Lib.hid h2; clear h1 h2; go_enter Try.func9, Try.ntmps9
 go_wp2_with fail
 refine (life0 HS.out (by omega)).mono ?_; rintro e w1 ⟨rfl, a0, h1⟩; have HS1 := Lib.hid h1; clear h1 HS hmm
 go_wp2_with fail
 refine (life1 HS1.out (by omega)).mono ?_; rintro e w2 ⟨rfl, a1, h2⟩; have HS2 := Lib.hid h2; clear h2 HS1
 go_wp2_with fail
 go_ret
 have h3 := sep_bodsNil (sep_rwoNil (sep_rwoNil HS2.out 51 10) 51 10); refine ⟨_, a0, a1, rfl, .slice none 0 0, .slice none 0 0, .slice none 0 0, .slice none 0 0, [], [], [], _, _, rfl, rfl, by simp [fB_], by simp [fB_], ((((((((((h3).tF 8 rfl).tF 9 rfl).tF 2 rfl).tF 3 rfl).tF 4 rfl).tF 7 rfl).tF 7 rfl).tF 9 rfl).tF 9 rfl).tF 9 rfl⟩
end Go.Proofs.Ytngegjboenfmeaa
/- What two links keep to, whatever becomes of their frames: the plain law of parting. No program in sight. -/
namespace Go.Proofs.Ytngegjboenfmeaa
open Go Go.RowKit
set_option linter.unusedVariables false
set_option linter.unusedSimpArgs false
set_option maxRecDepth 100000

def Lx (a b c d : Nat) : Prop := a < c ∨ (a = c ∧ b ≤ d)
theorem Lx.refl (a b : Nat) : Lx a b a b := .inr ⟨rfl, Nat.le_refl _⟩
theorem Lx.trans {a b c d e f : Nat} (h : Lx a b c d) (h2 : Lx c d e f) : Lx a b e f := by
 unfold Lx at *; omega
/-- a frame that a link tells as it stands -/
def OfL (s : LS) (f : Fr) : Prop := f.inc = s.si ∧ f.conn = s.conn ∧ f.pinc = s.inc ∧ f.pconn = s.known
theorem ofL_hello (s : LS) : OfL s s.hello := ⟨rfl, rfl, rfl, rfl⟩
theorem ofL_data (s : LS) (x : Nat × List UInt8) : OfL s (s.data x) := ⟨rfl, rfl, rfl, rfl⟩
theorem OfL.to {s t : LS} {f : Fr} (h : OfL s f) (h1 : t.si = s.si) (h2 : t.conn = s.conn) (h3 : t.inc = s.inc) (h4 : t.known = s.known) : OfL t f := ⟨by rw [h1]; exact h.1, by rw [h2]; exact h.2.1, by rw [h3]; exact h.2.2.1, by rw [h4]; exact h.2.2.2⟩
/-- what a tick leaves of the numbers -/
theorem tick_nums (s : LS) (now : Nat) : (s.tick now).si = s.si ∧ (s.tick now).conn = (s.tick1 now).conn ∧ (s.tick now).inc = s.inc ∧ (s.tick now).known = s.known ∧ (s.tick now).heard = s.heard ∧ (s.tick now).up = (s.tick1 now).up ∧ (s.tick1 now).si = s.si ∧ (s.tick1 now).inc = s.inc ∧ (s.tick1 now).known = s.known := by
 have h1 : (s.tick1 now).si = s.si ∧ (s.tick1 now).inc = s.inc ∧ (s.tick1 now).known = s.known ∧ (s.tick1 now).heard = s.heard := by
  unfold LS.tick1; split <;> exact ⟨rfl, rfl, rfl, rfl⟩
 obtain ⟨e1, e2, e3, e4⟩ := h1; unfold LS.tick; simp only; split
 ·exact ⟨e1, rfl, e2, e3, e4, rfl, e1, e2, e3⟩
 ·exact ⟨e1, rfl, e2, e3, e4, rfl, e1, e2, e3⟩
theorem tick1_conn (s : LS) (now : Nat) : s.conn ≤ (s.tick1 now).conn := by
 unfold LS.tick1; split
 ·exact Nat.le_succ _
 ·exact Nat.le_refl _
theorem ofL_tickF (s : LS) (now : Nat) : ∀ f ∈ s.tickF now, OfL (s.tick now) f := by
 intro f hf; obtain ⟨h1, h2, h3, h4, _, _, h7, h8, h9⟩ := tick_nums s now; have key : OfL (s.tick1 now) f := by
  unfold LS.tickF at hf; simp only at hf
  rcases List.mem_cons.1 hf with rfl | hf
  ·exact ofL_hello _
  ·split at hf
   ·obtain ⟨x, _, rfl⟩ := List.mem_map.1 hf; exact ofL_data _ x
   ·simp at hf
 exact key.to (by rw [h1, h7]) h2 (by rw [h3, h8]) (by rw [h4, h9])
theorem take1_nums (s : LS) (now : Nat) (f : Fr) : (s.take1 now f).si = s.si ∧ (s.take1 now f).conn = s.conn ∧ (s.take1 now f).heard = now ∧ (((s.take1 now f).inc = s.inc ∧ (s.take1 now f).known = s.known) ∨ ((s.take1 now f).inc = f.inc ∧ (s.take1 now f).known = f.conn)) := by
 unfold LS.take1 LS.turn; split
 ·exact ⟨rfl, rfl, rfl, .inr ⟨rfl, rfl⟩⟩
 ·exact ⟨rfl, rfl, rfl, .inl ⟨rfl, rfl⟩⟩
theorem take34_nums (s : LS) (f : Fr) : ((s.take3 f).take4 f).si = s.si ∧ ((s.take3 f).take4 f).conn = s.conn ∧ ((s.take3 f).take4 f).inc = s.inc ∧ ((s.take3 f).take4 f).known = s.known ∧ ((s.take3 f).take4 f).heard = s.heard := by
 unfold LS.take4; split <;> exact ⟨rfl, rfl, rfl, rfl, rfl⟩
theorem take5_nums (s : LS) (now : Nat) (f : Fr) : (s.take5 now f).si = s.si ∧ (s.take5 now f).conn = s.conn ∧ (s.take5 now f).inc = s.inc ∧ (s.take5 now f).known = s.known ∧ (s.take5 now f).heard = s.heard := by
 have h := take34_nums s f; unfold LS.take5; simp only; split
 ·exact h
 ·exact h
theorem take_nums (s : LS) (now : Nat) (f : Fr) : (s.take now f).si = s.si ∧ (s.take now f).conn = s.conn ∧ ((s.take now f).heard = now ∨ (s.take now f).heard = s.heard) ∧ (((s.take now f).inc = s.inc ∧ (s.take now f).known = s.known) ∨ ((s.take now f).inc = f.inc ∧ (s.take now f).known = f.conn)) := by
 obtain ⟨h1, h2, h3, h4⟩ := take1_nums s now f; obtain ⟨g1, g2, g3, g4, g5⟩ := take5_nums (s.take1 now f) now f; unfold LS.take; simp only; split
 ·split
  ·refine ⟨g1.trans h1, g2.trans h2, .inl (g5.trans h3), ?_⟩; rw [g3, g4]; exact h4
  ·exact ⟨h1, h2, .inl h3, h4⟩
 ·exact ⟨rfl, rfl, .inr rfl, .inl ⟨rfl, rfl⟩⟩
theorem ofL_takeF (s : LS) (now : Nat) (f : Fr) : ∀ x ∈ s.takeF now f, OfL (s.take now f) x := by
 intro x hx; unfold LS.takeF at hx; unfold LS.take; simp only at hx ⊢; split at hx
 ·rename_i hl
  rw [if_pos hl]; split at hx
  ·rename_i hk
   rw [if_pos hk]; obtain ⟨g1, g2, g3, g4, _⟩ := take5_nums (s.take1 now f) now f; obtain ⟨k1, k2, k3, k4, _⟩ := take34_nums (s.take1 now f) f; have key : OfL (((s.take1 now f).take3 f).take4 f) x := by
    unfold LS.take5F at hx; simp only at hx
    rcases List.mem_append.1 hx with hx | hx
    ·split at hx
     ·simp at hx
     ·obtain ⟨y, _, rfl⟩ := List.mem_map.1 hx; exact ofL_data _ y
    ·split at hx
     ·rw [List.mem_singleton.1 hx]; exact ofL_hello _
     ·simp at hx
   exact key.to (by rw [g1, k1]) (by rw [g2, k2]) (by rw [g3, k3]) (by rw [g4, k4])
  ·rename_i hk
   rw [if_neg hk, List.mem_singleton.1 hx]; exact ofL_hello _
 ·simp at hx
theorem ofL_sendF (s : LS) (now : Nat) (b : List UInt8) : ∀ f ∈ s.sendF b, OfL (s.send now b) f := by
 intro f hf; obtain ⟨_, _, u3, _, u5, u6, u7⟩ := send_up (s := s) (now := now) (b := b); unfold LS.sendF at hf; split at hf
 ·rw [List.mem_singleton.1 hf]; exact (ofL_data s _).to u3 u5 u6 u7
 ·simp at hf
/-- no link knows more of another than there is, no frame either -/
structure InvP (l : Bool → LS) (now : Bool → Nat) (way : Bool → List Fr) : Prop where
 hd : ∀ i, (l i).heard ≤ now i
 kn : ∀ i, Lx (l (!i)).inc (l (!i)).known (l i).si (l i).conn
 tw : ∀ i, ∀ f ∈ way i, Lx f.pinc f.pconn (l i).si (l i).conn
 fr : ∀ i, ∀ f ∈ way (!i), Lx f.inc f.conn (l i).si (l i).conn
theorem InvP.less {l : Bool → LS} {now now' : Bool → Nat} {way way' : Bool → List Fr} (h : InvP l now way) (hn : ∀ i, now i ≤ now' i) (hw : ∀ i, ∀ f ∈ way' i, f ∈ way i) : InvP l now' way' :=
 ⟨fun i => Nat.le_trans (h.hd i) (hn i), h.kn, fun i f hf => h.tw i f (hw i f hf), fun i f hf => h.fr i f (hw _ f hf)⟩
theorem notnot (i : Bool) : (!(!i)) = i := by cases i <;> rfl
theorem not_ne (i : Bool) : (!i) ≠ i := by cases i <;> simp
/-- one side turns, and tells frames -/
theorem InvP.step {l : Bool → LS} {now : Bool → Nat} {way : Bool → List Fr} (h : InvP l now way) (i : Bool) {s : LS} {F : List Fr} (hg : Lx (l i).si (l i).conn s.si s.conn) (hh : s.heard ≤ now i)
  (hk : Lx s.inc s.known (l (!i)).si (l (!i)).conn) (hF : ∀ f ∈ F, OfL s f) : InvP (atB l i s) now (atB way (!i) (way (!i) ++ F)) := by
 have ei : ∀ j, j = i ∨ j = !i := fun j => by cases i <;> cases j <;> simp
 have a1 : atB l i s i = s := atB_same l i s; have a2 : atB l i s (!i) = l (!i) := by unfold atB; rw [if_neg (not_ne i)]
 have b1 : atB way (!i) (way (!i) ++ F) (!i) = way (!i) ++ F := atB_same way (!i) _; have b2 : atB way (!i) (way (!i) ++ F) i = way i := by unfold atB; rw [if_neg (fun e => not_ne i e.symm)]
 refine ⟨?_, ?_, ?_, ?_⟩
 ·intro j
  rcases ei j with rfl | rfl
  ·rw [a1]; exact hh
  ·rw [a2]; exact h.hd _
 ·intro j
  rcases ei j with rfl | rfl
  ·rw [a1, a2]; exact (h.kn _).trans hg
  ·rw [notnot, a1, a2]; exact hk
 ·intro j f hf
  rcases ei j with rfl | rfl
  ·rw [b2] at hf; rw [a1]; exact (h.tw _ f hf).trans hg
  ·rw [b1] at hf; rw [a2]
   rcases List.mem_append.1 hf with hf | hf
   ·exact h.tw _ f hf
   ·obtain ⟨_, _, e3, e4⟩ := hF f hf; rw [e3, e4]; exact hk
 ·intro j f hf
  rcases ei j with rfl | rfl
  ·rw [b1] at hf; rw [a1]
   rcases List.mem_append.1 hf with hf | hf
   ·exact (h.fr _ f hf).trans hg
   ·obtain ⟨e1, e2, _, _⟩ := hF f hf; rw [e1, e2]; exact Lx.refl _ _
  ·rw [notnot, b2] at hf; rw [a2]; have := h.fr (!i) f (by rw [notnot]; exact hf); exact this
def TW.Inv (T : TW) : Prop := InvP T.l T.now T.way
theorem inv_start : TW.start.Inv := ⟨fun i => by simp [TW.start, newLk], fun i => .inl (by simp [TW.start, newLk]), fun i f hf => by simp [TW.start] at hf, fun i f hf => by simp [TW.start] at hf⟩
theorem start_ok : TW.start.Ok 1 := ⟨fun i => newLk_num i 1, fun i => by simp [TW.start, newLk], fun i => by simp [TW.start], fun i => by simp [TW.start], fun i f hf => by simp [TW.start] at hf, fun p => by simp [TW.start], fun p => by simp [TW.start], by simp [TW.start]⟩
theorem inv_tick {T : TW} (h : T.Inv) (i : Bool) : (T.tick i).Inv := by
 obtain ⟨h1, h2, h3, h4, h5, _⟩ := tick_nums (T.l i) (T.now i); have hh := h.hd i; have hk := h.kn (!i); rw [notnot] at hk; refine InvP.step h i (s := (T.l i).tick (T.now i)) ?_ (by rw [h5]; exact hh) (by rw [h3, h4]; exact hk) (ofL_tickF _ _); rw [h1, h2]; exact .inr ⟨rfl, tick1_conn _ _⟩
theorem inv_take {T : TW} (h : T.Inv) (i : Bool) {f : Fr} (hf : Lx f.inc f.conn (T.l (!i)).si (T.l (!i)).conn) : (T.take i f).Inv := by
 obtain ⟨h1, h2, h3, h4⟩ := take_nums (T.l i) (T.now i) f; have hh := h.hd i; have hk := h.kn (!i); rw [notnot] at hk; refine InvP.step h i (s := (T.l i).take (T.now i) f) ?_ ?_ ?_ (ofL_takeF _ _ _)
 ·rw [h1, h2]; exact Lx.refl _ _
 ·rcases h3 with e | e
  ·rw [e]; exact Nat.le_refl _
  ·rw [e]; exact hh
 ·rcases h4 with ⟨e1, e2⟩ | ⟨e1, e2⟩
  ·rw [e1, e2]; exact hk
  ·rw [e1, e2]; exact hf
theorem inv_send {T : TW} (h : T.Inv) (i : Bool) : (T.send i).Inv := by
 obtain ⟨_, _, u3, _, u5, u6, u7⟩ := send_up (s := T.l i) (now := T.now i) (b := bodyN T.n i); have hd : ((T.l i).send (T.now i) (bodyN T.n i)).heard = (T.l i).heard := by unfold LS.send; split <;> rfl
 have hh := h.hd i; have hk := h.kn (!i); rw [notnot] at hk; have key := InvP.step h i (s := (T.l i).send (T.now i) (bodyN T.n i)) (F := (T.l i).sendF (bodyN T.n i)) (by rw [u3, u5]; exact Lx.refl _ _) (by rw [hd]; exact hh) (by rw [u6, u7]; exact hk) (ofL_sendF _ _ _); unfold TW.Inv; have hw : (T.send i).way = atB T.way (!i) (T.way (!i) ++ (T.l i).sendF (bodyN T.n i)) := by cases i <;> first | exact send_way0 | exact send_way1
 rw [(send_l T i).1, (send_l T i).2.1, hw]; exact key
theorem inv_life {T : TW} (h : T.Inv) (i : Bool) : (T.life i).Inv := by
 have key := InvP.step h i (s := newLk i ((T.l i).si + 1)) (F := []) (.inl (Nat.lt_succ_self _)) (Nat.zero_le _) (by unfold Lx newLk; simp; omega) (by simp); refine InvP.less key (fun _ => Nat.le_refl _) ?_; intro j f hf; unfold atB; split
 ·rename_i e; subst e; exact List.mem_append_left _ hf
 ·exact hf
theorem mem_trim {l : List Fr} {f : Fr} (h : f ∈ Go.Proofs.Ytngegjboenfmeaa.trim l) : f ∈ l := by
 unfold Go.Proofs.Ytngegjboenfmeaa.trim at h; exact List.mem_of_mem_drop h
theorem inv_trim {T : TW} (h : T.Inv) : T.trim.Inv := InvP.less h (fun _ => Nat.le_refl _) (fun i f hf => mem_trim hf)
theorem inv_later {T : TW} (h : T.Inv) (i : Bool) (q : Nat) : (T.later i q).Inv :=
 InvP.less h (fun j => by
  show T.now j ≤ atB T.now i (T.now i + q) j; unfold atB; split
  ·rename_i e; subst e; omega
  ·exact Nat.le_refl _) (fun i f hf => hf)
theorem inv_lose {T : TW} (h : T.Inv) (i : Bool) (j : Nat) : ({ T with way := atB T.way i ((T.way i).eraseIdx j) } : TW).Inv :=
 InvP.less h (fun _ => Nat.le_refl _) (fun k f hf => by
  revert hf; show f ∈ atB T.way i ((T.way i).eraseIdx j) k → f ∈ T.way k; unfold atB; split
  ·rename_i e; subst e; exact fun hf => List.mem_of_mem_eraseIdx hf
  ·exact fun hf => hf)
theorem inv_act {T : TW} (h : T.Inv) (d : Int) (i : Bool) (k : Nat) : (T.act d i k).Inv := by
 unfold TW.act; split
 ·exact inv_trim (inv_tick (inv_later h i (k % 4)) i)
 split
 ·exact inv_trim (inv_send h i)
 split
 ·split
  ·exact h
  ·rename_i f0 l hw
   simp only; have hT1 : (if d = 3 then T else { T with way := atB T.way i ((f0 :: l).eraseIdx (k % (l.length + 1))) } : TW).Inv := by
    split
    ·exact h
    ·rw [← hw]; exact inv_lose h i _
   have hj : k % (l.length + 1) < (f0 :: l).length := by rw [List.length_cons]; exact Nat.mod_lt _ (Nat.succ_pos _)
   have hm : (f0 :: l).getD (k % (l.length + 1)) f0 ∈ T.way i := by
    rw [hw, List.getD_eq_getElem?_getD, List.getElem?_eq_getElem hj]; exact List.getElem_mem hj
   have hf := h.fr (!i) _ (by rw [notnot]; exact hm); split
   ·exact inv_trim hT1
   ·refine inv_trim (inv_take hT1 i ?_); split
    ·exact hf
    ·exact hf
 split
 ·exact inv_trim (inv_life h i)
 ·exact inv_trim h
end Go.Proofs.Ytngegjboenfmeaa
/- A link's Tick whose answer is put into a cell; what ticks without a word do to a link. -/
namespace Go.Proofs.Ytngegjboenfmeaa
open Go Go.RowKit
set_option linter.unusedVariables false
set_option linter.unusedSimpArgs false
set_option maxRecDepth 100000

def TckPre (la : Nat) (s : LS) (bx : Value) (R : List SP) : List SP := Ce la 72 (s.cells bx) :: BoxT bx s.box :: R
def TckPost (la : Nat) (s : LS) (vF vE bx' : Value) (LP : List (Fr × Value)) (LE : List (Ev × Value)) (R : List SP) : List SP :=
 Rw 51 10 vF LP.length (fR_ LP) :: Bods (fB_ LP) :: Rw 49 4 vE LE.length (eR_ LE) :: Bods (eB_ LE) :: Ce la 72 (s.cells bx') :: BoxT bx' s.box :: R
def TckSt (la : Nat) (s : LS) (now : Nat) (bx : Value) (R : List SP) (d12 d13 d14 : Bool) (x12 x13 : Value) (w0 W : World) : Prop :=
 if d14 = true then ∃ a vF vE bx' LP LE, x13 = .pointer (some ⟨a, 0, none⟩) ∧ LP.map Prod.fst = s.tickF now ∧ LE.map Prod.fst = s.tickE now ∧ Sep w0 W (Ce a 43 #[vF, vE] :: TckPost la (s.tick now) vF vE bx' LP LE R)
 else if d12 = true then ∃ vF vE bx' LP LE, x12 = .agg #[vF, vE] ∧ LP.map Prod.fst = s.tickF now ∧ LE.map Prod.fst = s.tickE now ∧
  (if d13 = true then ∃ a, x13 = .pointer (some ⟨a, 0, none⟩) ∧ Sep w0 W (Ce a 43 #[.slice none 0 0, .slice none 0 0] :: TckPost la (s.tick now) vF vE bx' LP LE R)
  else Sep w0 W (TckPost la (s.tick now) vF vE bx' LP LE R))
 else if d13 = true then ∃ a, x13 = .pointer (some ⟨a, 0, none⟩) ∧ Sep w0 W (Ce a 43 #[.slice none 0 0, .slice none 0 0] :: TckPre la s bx R)
 else Sep w0 W (TckPre la s bx R)
section
variable {la : Nat} {s : LS} {now : Nat} {bx : Value} {R : List SP} {d12 d13 d14 : Bool} {x12 x13 : Value} {w0 W W' : World}
theorem TckSt.rst (h : TckSt la s now bx R d12 d13 d14 x12 x13 w0 W) : Sep w0 W R := by
 unfold TckSt at h; split at h
 ·obtain ⟨a, vF, vE, bx', LP, LE, _, _, _, h⟩ := h; exact h.popF.popF.popF.popF.popF.popF.popF
 split at h
 ·obtain ⟨vF, vE, bx', LP, LE, _, _, _, h⟩ := h; split at h
  ·obtain ⟨a, _, h⟩ := h; exact h.popF.popF.popF.popF.popF.popF.popF
  ·exact h.popF.popF.popF.popF.popF.popF
 split at h
 ·obtain ⟨a, _, h⟩ := h; exact h.popF.popF.popF
 ·exact h.popF.popF
theorem TckSt.start (h : Sep w0 W (TckPre la s bx R)) : TckSt la s now bx R false false false x12 x13 w0 W := by
 simpa [TckSt] using h
theorem TckSt.made (h : TckSt la s now bx R d12 false false x12 x13 w0 W) :
  TckSt la s now bx R d12 true false x12 (.pointer (some ⟨W.heap.size, 0, none⟩)) w0 (W.alloc (.cells #[.slice none 0 0, .slice none 0 0] 43)) := by
 unfold TckSt at h ⊢; rw [if_neg (by simp)] at h ⊢; split at h
 ·rw [if_pos ‹_›]; obtain ⟨vF, vE, bx', LP, LE, e1, e2, e3, h⟩ := h; rw [if_neg (by simp)] at h; refine ⟨vF, vE, bx', LP, LE, e1, e2, e3, ?_⟩; rw [if_pos rfl]; exact ⟨_, rfl, sep_ceF h _ _⟩
 ·rw [if_neg ‹_›, if_pos rfl]; rw [if_neg (by simp)] at h; exact ⟨_, rfl, sep_ceF h _ _⟩
theorem TckSt.call (h : TckSt la s now bx R false d13 false x12 x13 w0 W) (hs : s.Num) (hc : s.conn + 1 < 18446744073709551616) (hn : now < 18446744073709551616) :
  Calls Try.prog 14 #[.pointer (some ⟨la, 0, none⟩), .int .u64 (now : Int)] W fun e W' => ∃ v, e = .returned v ∧ TckSt la s now bx R true d13 false v x13 w0 W' := by
 unfold TckSt at h; rw [if_neg (by simp), if_neg (by simp)] at h; cases d13 with
 | false =>
  rw [if_neg (by simp)] at h; refine (tickG h hs hc hn).mono ?_; rintro e W' ⟨vF, vE, bx', LP, LE, rfl, e1, e2, h2⟩; refine ⟨_, rfl, ?_⟩; unfold TckSt; rw [if_neg (by simp), if_pos rfl]; refine ⟨vF, vE, bx', LP, LE, rfl, e1, e2, ?_⟩; rw [if_neg (by simp)]; exact h2
 | true =>
  rw [if_pos rfl] at h; obtain ⟨a, e0, h⟩ := h; have h1 : Sep w0 W (Ce la 72 (s.cells bx) :: BoxT bx s.box :: Ce a 43 #[.slice none 0 0, .slice none 0 0] :: R) := (h.tF 2 rfl).tF 2 rfl; refine (tickG h1 hs hc hn).mono ?_; rintro e W' ⟨vF, vE, bx', LP, LE, rfl, e1, e2, h2⟩; refine ⟨_, rfl, ?_⟩; unfold TckSt; rw [if_neg (by simp), if_pos rfl]; refine ⟨vF, vE, bx', LP, LE, rfl, e1, e2, ?_⟩; rw [if_pos rfl]; exact ⟨a, e0, h2.tF 6 rfl⟩
theorem TckSt.stored (h : TckSt la s now bx R true true false x12 x13 w0 W) :
  ∃ a Af kf cf Ae ke ce, x13 = .pointer (some ⟨a, 0, none⟩) ∧ x12 = .agg #[.slice Af kf cf, .slice Ae ke ce] ∧ W.frozen? ⟨a, 0, none⟩ = false ∧ W.frozen? ⟨a, 1, none⟩ = false ∧ W.cell? ⟨a, 0, none⟩ = some (.slice none 0 0) ∧ W.cell? ⟨a, 1, none⟩ = some (.slice none 0 0) ∧
   TckSt la s now bx R true true true x12 x13 w0 ((W.setCell ⟨a, 0, none⟩ (.slice Af kf cf)).setCell ⟨a, 1, none⟩ (.slice Ae ke ce)) := by
 unfold TckSt at h; rw [if_neg (by simp), if_pos rfl] at h; obtain ⟨vF, vE, bx', LP, LE, e1, e2, e3, h⟩ := h; rw [if_pos rfl] at h; obtain ⟨a, e5, h⟩ := h; obtain ⟨Af, cf, rfl, _⟩ := sep_rwForm (i := 1) h rfl; obtain ⟨Ae, ce, rfl, _⟩ := sep_rwForm (i := 3) h rfl; refine ⟨a, Af, _, cf, Ae, _, ce, e5, e1, cFz (i := 0) h rfl 0, cFz (i := 0) h rfl 1, cA (i := 0) h rfl 0 rfl, cA (i := 0) h rfl 1 rfl, ?_⟩; unfold TckSt; rw [if_pos rfl]; exact ⟨a, _, _, bx', LP, LE, e5, e2, e3, cS (i := 0) (cS (i := 0) h rfl 0 (.slice Af LP.length cf)) rfl 1 (.slice Ae LE.length ce)⟩
theorem TckSt.done (h : TckSt la s now bx R d12 d13 true x12 x13 w0 W) :
  ∃ a vF vE bx' LP LE, x13 = .pointer (some ⟨a, 0, none⟩) ∧ LP.map Prod.fst = s.tickF now ∧ LE.map Prod.fst = s.tickE now ∧ Sep w0 W (Ce a 43 #[vF, vE] :: TckPost la (s.tick now) vF vE bx' LP LE R) := by
 unfold TckSt at h
 rwa [if_pos rfl] at h
end
/-- how a link stands k ticks behind s, if it heard nothing, dn being how often it told that it is down -/
def TkI (s : LS) (n0 k : Nat) (s' : LS) (dn : Nat) : Prop := s'.Num ∧ s'.si = s.si ∧ ((s.up = true ∧ s'.up = true ∧ s'.conn = s.conn ∧ s'.heard = s.heard ∧ dn = 0 ∧ k < 4) ∨ (s'.up = false ∧ s.up = true ∧ s'.conn = s.conn + 1 ∧ dn = 1) ∨ (s'.up = false ∧ s.up = false ∧ s'.conn = s.conn ∧ dn = 0))
theorem tkI_start {s : LS} (hs : s.Num) (n0 : Nat) : TkI s n0 0 s 0 := by
 refine ⟨hs, rfl, ?_⟩; cases hu : s.up with
 | true => exact .inl ⟨rfl, hu ▸ rfl, rfl, rfl, rfl, by omega⟩
 | false => exact .inr (.inr ⟨hu ▸ rfl, rfl, rfl, rfl⟩)
theorem ticks_of {a b : Nat} (h : b ≤ a) : ticks a b = a - b := by
 rfl
theorem tkI_step {s s' : LS} {n0 k dn : Nat} (h : TkI s n0 k s' dn) (hh : s.heard ≤ n0) (hn : n0 + k + 1 < 18446744073709551616) : TkI s n0 (k + 1) (s'.tick (n0 + k + 1)) (dn + (s'.tickE (n0 + k + 1)).length) ∧ ∀ e ∈ s'.tickE (n0 + k + 1), e.kind = 2 := by
 obtain ⟨h1, h2, h3⟩ := h; obtain ⟨t1, t2, _, _, t5, t6, _⟩ := tick_nums s' (n0 + k + 1); have hk2 : ∀ e ∈ s'.tickE (n0 + k + 1), e.kind = 2 := by
  intro e he; unfold LS.tickE at he; split at he
  ·rw [List.mem_singleton.1 he]; rfl
  ·simp at he
 refine ⟨⟨h1.tick hn, t1.trans h2, ?_⟩, hk2⟩; rw [t2, t5, t6]
 rcases h3 with ⟨u1, u2, u3, u4, u5, u6⟩ | ⟨u1, u2, u3, u4⟩ | ⟨u1, u2, u3, u4⟩
 ·by_cases hc : 4 ≤ ticks (n0 + k + 1) s'.heard
  ·have hq : (s'.up && decide (4 ≤ ticks (n0 + k + 1) s'.heard)) = true := by rw [u2, decide_eq_true hc]; rfl
   obtain ⟨e1, e2⟩ := LS.tick1_yes hq; rw [e1, e2]; exact .inr (.inl ⟨rfl, u1, by show s'.conn + 1 = _; rw [u3], by simp [u5]⟩)
  ·have hq : (s'.up && decide (4 ≤ ticks (n0 + k + 1) s'.heard)) = false := by rw [decide_eq_false hc]; simp
   obtain ⟨e1, e2⟩ := LS.tick1_no hq; rw [e1, e2]; refine .inl ⟨u1, u2, u3, u4, by simp [u5], ?_⟩; rw [u4, ticks_of (by omega)] at hc; omega
 ·have hq : (s'.up && decide (4 ≤ ticks (n0 + k + 1) s'.heard)) = false := by rw [u1]; rfl
  obtain ⟨e1, e2⟩ := LS.tick1_no hq; rw [e1, e2]; exact .inr (.inl ⟨u1, u2, u3, by simp [u4]⟩)
 ·have hq : (s'.up && decide (4 ≤ ticks (n0 + k + 1) s'.heard)) = false := by rw [u1]; rfl
  obtain ⟨e1, e2⟩ := LS.tick1_no hq; rw [e1, e2]; exact .inr (.inr ⟨u1, u2, u3, by simp [u4]⟩)
/-- a link that is down stays so by a frame that does not know it -/
theorem take_down {s : LS} {now : Nat} {f : Fr} (hu : s.up = false) (hk : ¬ (f.pinc = s.si ∧ f.pconn = s.conn)) : (s.take now f).up = false := by
 obtain ⟨h1, h2, _⟩ := take1_nums s now f; have hu1 : (s.take1 now f).up = false := by
  unfold LS.take1 LS.turn; split
  ·rfl
  ·exact hu
 unfold LS.take; simp only; split
 ·split
  ·rename_i hkn
   unfold LS.knows at hkn; rw [h1, h2] at hkn; simp only [Bool.and_eq_true, decide_eq_true_eq] at hkn; exact (hk hkn).elim
  ·exact hu1
 ·exact hu
end Go.Proofs.Ytngegjboenfmeaa
