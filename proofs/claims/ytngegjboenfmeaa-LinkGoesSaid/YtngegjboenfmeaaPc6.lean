/- Part 6 of the texts of a claim: TwC Tck Part OpenA Awk Ord Goes LinkGoesCard -/
import Derived.Test.YtngegjboenfmeaaPc1
import Derived.Test.YtngegjboenfmeaaPc2
import Derived.Test.YtngegjboenfmeaaPc3
import Derived.Test.YtngegjboenfmeaaPc4
import Derived.Test.YtngegjboenfmeaaPc5
import Derived.Test.YtngegjboenfmeaaRows
import Derived.Deep.CutBlock
import Derived.Deep.DeepCutAuto
import Derived.WalkKit
import Derived.ProofKit
import Derived.OpenShut
import Derived.ShutString
import Derived.ChangeOld
import Derived.Below
import Derived.SizedLaws
namespace Go.Proofs.Ytngegjboenfmeaa
open Go Go.RowKit Go.Shelf
set_option linter.unusedVariables false
set_option maxRecDepth 100000
set_option linter.unusedSimpArgs false

/-- what an act leaves -/
def ActP (w0 w' : World) (g : Nat) (T : TW) (d : Int) (Qs : List SP) (B : Nat) : Prop := ∃ i k b0 b1, TwA b0 b1 w0 w' g (T.act d i k) Qs ∧ (T.act d i k).Ok (B + 20)
theorem trimTo_step0 (T : TW) (h : (T.way false).length ≤ 300) : T.trimTo 1 = T.trimTo 0 := by
 unfold TW.trimTo; congr 1; funext i; cases i
 ·simp [trim_short h]
 ·simp
theorem trimTo_step1 (T : TW) (h : (T.way true).length ≤ 300) : T.trimTo 2 = T.trimTo 1 := by
 unfold TW.trimTo; congr 1; funext i; cases i
 ·simp
 ·simp [trim_short h]
theorem trim_nd (T : TW) (i : Bool) {nl nd : Nat} (h : nl = ((T.trimTo (if i then 1 else 0)).way i).length) (hd : nl - 300 = nd) : ((T.trimTo (if i then 1 else 0)).way i).drop nd = (T.trimTo ((if i then 1 else 0) + 1)).way i := by
 have e : (T.trimTo (if i then 1 else 0)).way i = T.way i := by cases i <;> simp [TW.trimTo]
 rw [e] at h ⊢; rw [← hd, h]; cases i <;> simp [TW.trimTo, Go.Proofs.Ytngegjboenfmeaa.trim]
theorem map_erase {α β : Type} (f : α → β) (l : List α) (n : Nat) : (l.eraseIdx n).map f = (l.map f).eraseIdx n := by
 rw [List.eraseIdx_eq_take_drop_succ, List.eraseIdx_eq_take_drop_succ, List.map_append, List.map_take, List.map_drop]
theorem frBods_erase {W : List (Fr × Value)} {n : Nat} {y : Value × List UInt8} (h : y ∈ fB_ (W.eraseIdx n)) : y ∈ fB_ W := by
 obtain ⟨p, hp, rfl⟩ := List.mem_map.1 h; exact List.mem_map.2 ⟨p, List.mem_of_mem_eraseIdx hp, rfl⟩
theorem frBods_drop {W : List (Fr × Value)} {n : Nat} {y : Value × List UInt8} (h : y ∈ fB_ (W.drop n)) : y ∈ fB_ W := by
 obtain ⟨p, hp, rfl⟩ := List.mem_map.1 h; exact List.mem_map.2 ⟨p, List.mem_of_mem_drop hp, rfl⟩
set_option maxHeartbeats 6400000 in
theorem act0 {w0 w : World} {Qs : List SP} {g a0 a1 B : Nat} {T : TW} (h : TwA a0 a1 w0 w g T Qs) (hO : T.Ok B) (hB : B ≤ 1000000) (d at_ nn : Int) (heb : bits .and .i64 at_ 1 = 0) :
  Calls Try.prog 10 #[.pointer (some ⟨g, 0, none⟩), .agg #[.int .i64 d, .int .i64 at_, .int .i64 nn]] w fun e w' => e = .returned (.tuple #[]) ∧ ActP w0 w' g T d Qs B := by
 obtain ⟨k, hk, hk2⟩ := and_low nn 65535 (by omega); have ek : bits .and .i64 nn 65535 = (k : Int) := hk2; have HSB := Lib.hid (sep_ce (Sep.nil w) #[.int .i64 d, .int .i64 at_, .int .i64 nn] 37); have HA := Lib.hid (h.grow ((Below.refl _ _).alloc (Nat.le_refl _) (.cells #[.int .i64 d, .int .i64 at_, .int .i64 nn] 37))); have HAB := Lib.hid (h.ce #[.int .i64 d, .int .i64 at_, .int .i64 nn] 37); have k0 := cA (i := 0) HSB.out rfl 0 rfl; have k1 := cA (i := 0) HSB.out rfl 1 rfl; have k2 := cA (i := 0) HSB.out rfl 2 rfl; clear h hk2; have ei : bits .and .i64 at_ 1 = 0 := heb; go_enter Try.func10, Try.ntmps10
 go_upto_block 0 with fail
 go_cut [6, 7] from 18 to 137 (fun u6 u7 wx => ∃ b0 b1 T1, TwA b0 b1 w0 wx g T1 Qs ∧ Hid (T.act d false k = T1.trim ∧ T1.Ok (B + 20)))
 case first =>
  clear k1 k2
  by_cases h0 : d = 0
  ·subst h0; have HB0 := Lib.hid k0; obtain ⟨kq, Hkq⟩ : ∃ x, Hid (k % 4 = x) := ⟨_, Lib.hid rfl⟩; have hkq : kq ≤ 3 := by rw [← Hkq.out]; omega
   have e3 : bits .and .i64 (k : Int) 3 = (kq : Int) := by rw [and_3 k (by omega), Hkq.out]
   have hnow := hO.now false; have ew1 : IntKind.u64.wrap (kq : Int) = (kq : Int) := u64_wrapG (by omega) (by omega); have ew2 : IntKind.u64.wrap (((T.now false : Nat) : Int) + (kq : Int)) = ((T.now false : Nat) : Int) + (kq : Int) := u64_wrapG (by omega) (by omega); clear hnow
   go_wp2_with fail
   refine wRG (fun dn xv W => if dn 13 = true then TwA a0 a1 w0 W g (T.later false kq) Qs else TwA a0 a1 w0 W g T Qs) (fun _ _ => True) [xP_ g 0, xV_ (.int .i64 0), xP_ g 0, xP_ g 4, xP_ g 4, xV_ (.int .u64 ((T.now false : Nat) : Int)), xV_ (.int .i64 (k : Int)), xV_ (.int .i64 (kq : Int)), xV_ (.int .u64 (kq : Int)), xV_ (.int .u64 ((T.now false : Nat) + (kq : Nat) : Int)), xP_ g 0, xP_ g 4, xP_ g 4, fun v _ => True] (fun xv => by simpa using HA.out.drew) ?_ ?_
   ·refine Ep 1 0 g 0 ?_
    refine Ei 2 4 (.int .i64 0) ?_
    refine Ee 3 20 0 ?_
    refine Ee 4 22 2 ?_
    refine Eee 5 21 1 23 3 ?_
    refine EC 6 rfl (fun g h W F a b c d e H K f => ?_) ?_
    ·have f24 := gE (a 24) (by kernel_rfl) (H 4) (by kernel_rfl); have q13 := c 13 (uM 9 uE); have hq := e; rw [if_neg (by simp [q13])] at hq; have kk := hq.t0; clear H c b d a; refine oP rfl ?_; go_simp; exact f.out _ _ rfl trivial e
    refine Ei 7 5 (.int .i64 (k : Int)) ?_
    refine Ee 8 26 6 ?_
    refine Ee 9 27 7 ?_
    refine Eee 10 25 5 28 8 ?_
    refine Ee 11 20 0 ?_
    refine Ee 12 30 10 ?_
    refine Eee 13 21 1 31 11 ?_
    refine EC 14 rfl (fun g h W F a b c d e H K f => ?_) ?_
    ·have f29 := gE (a 29) (by kernel_rfl) (H 9) (by kernel_rfl); have f32 := gE (a 32) (by kernel_rfl) (H 12) (by kernel_rfl); rw [if_neg (by simp [b])] at e; have hS := e; clear e c b d a H; refine oP rfl ?_; obtain ⟨yy, hs⟩ := hS.later0 kq; have kk := hS.t0; go_simp; exact f.out undef _ trivial trivial (by simpa [upB, upd] using hs)
    exact EN
   ·intro dn xv W hI H; have qe : dn 13 = true := (H 13 (of_decide_eq_true (by kernel_rfl))).1; rw [if_pos qe] at hI; have hS := hI; clear H hI qe; simp only [putAll, Act.put, List.setIfInBounds_toArray, List.set_cons_zero, List.set_cons_succ, Nat.reduceAdd]; obtain ⟨T0, HT0⟩ : ∃ x, Hid (T.later false kq = x) := ⟨_, Lib.hid rfl⟩; rw [HT0.out] at hS; have HA1 := Lib.hid hS; have HO0 : Hid (T0.Ok (B + 3)) := Lib.hid (by rw [← HT0.out]; exact hO.later false hkq); have HC1 := Lib.hid (fun (W : World) (hS : TwA a0 a1 w0 W g T0 Qs) => tickA0 hS HO0.out (by omega)); have HC2 := Lib.hid (fun (W : World) (v : Value) (hS : MidA a0 a1 v w0 W g (T0.withL false ((T0.l false).tick (T0.now false))) ((T0.l false).tickF (T0.now false)) ((T0.l false).tickE (T0.now false)) Qs) => show Calls Try.prog 31 #[.pointer (some ⟨g, 0, none⟩), .int .i64 0, v] W (fun e w' => e = .returned (.tuple #[]) ∧ TwA a0 a1 w0 w' g (T0.tick false) Qs) from
     ansA0 hS ((HO0.out.mono (Nat.le_add_right _ 1)).withL false ((HO0.out.num false).tick (now := T0.now false) (by have := HO0.out.now false; omega)) (ids_tick (HO0.out.ids false) (T0.now false))) (by omega) (by have := (tickF_ok (HO0.out.num false) (HO0.out.ids false) (T0.now false)).2.1; omega) (by have := (tickF_ok (HO0.out.num false) (HO0.out.ids false) (T0.now false)).2.2; omega))
    clear hS e3 ew1 ew2 hkq
    go_wp2_with fail
    refine wRG (fun dn xv W => if dn 15 = true then TwA a0 a1 w0 W g (T0.tick false) Qs else if dn 14 = true then MidA a0 a1 (xv 14) w0 W g (T0.withL false ((T0.l false).tick (T0.now false))) ((T0.l false).tickF (T0.now false)) ((T0.l false).tickE (T0.now false)) Qs else TwA a0 a1 w0 W g T0 Qs) (fun _ _ => True) [xP_ g 0, xV_ (.int .i64 0), xP_ g 0, xV_ (.int .i64 0), xP_ g 0, xP_ g 0, xP_ g 0, xP_ a0 0, xP_ g 0, xV_ (.int .i64 0), xP_ g 0, xP_ g 4, xP_ g 4, xV_ (.int .u64 ((T0.now false : Nat) : Int)), fun v _ => True, fun v _ => True] (fun xv => by simpa using HA1.out.drew) ?_ ?_
    ·refine Ep 1 0 g 0 ?_
     refine Ei 2 4 (.int .i64 0) ?_
     refine Ep 3 0 g 0 ?_
     refine Ei 4 4 (.int .i64 0) ?_
     refine Ee 5 35 2 ?_
     refine Ee 6 37 4 ?_
     refine Eee 7 36 3 38 5 ?_
     refine EC 8 rfl (fun g h W F a b c d e H K f => ?_) ?_
     ·have f39 := gE (a 39) (by kernel_rfl) (H 6) (by kernel_rfl); have q1 := c 14 uE; have q2 := c 15 (uM 14 uE); have hq := e; rw [if_neg (by simp [q2]), if_neg (by simp [q1])] at hq; have kk := hq.l0; clear H c b d a; refine oP rfl ?_; go_simp; exact f.out _ _ rfl trivial e
     refine Ep 9 0 g 0 ?_
     refine Ei 10 4 (.int .i64 0) ?_
     refine Ee 11 41 8 ?_
     refine Ee 12 43 10 ?_
     refine Eee 13 42 9 44 11 ?_
     refine EC 14 rfl (fun g h W F a b c d e H K f => ?_) ?_
     ·have f45 := gE (a 45) (by kernel_rfl) (H 12) (by kernel_rfl); have q1 := c 14 uE; have q2 := c 15 (uM 14 uE); have hq := e; rw [if_neg (by simp [q2]), if_neg (by simp [q1])] at hq; have kk := hq.t0; clear H c b d a; refine oP rfl ?_; go_simp; exact f.out _ _ rfl trivial e
     refine EC 15 rfl (fun h i W F a b c d f H K g => ?_) ?_
     ·have f40 := gE (a 40) (by kernel_rfl) (H 7) (by kernel_rfl); have f46 := gE (a 46) (by kernel_rfl) (H 13) (by kernel_rfl); have q15 := c 15 uE; rw [if_neg (by simp [q15]), if_neg (by simp [b])] at f; have hS := f; clear f c b d a H; refine oP rfl ?_; go_simp; refine (HC1.out W hS).mono ?_; rintro e W' ⟨v, rfl, hs⟩; exact g.out v W' trivial trivial (by simpa [upB, upd, q15] using hs)
     refine EC 16 rfl (fun h i W F a b c d f H K g => ?_) ?_
     ·have f33 := gE (a 33) (by kernel_rfl) (H 0) (by kernel_rfl); have f34 := gE (a 34) (by kernel_rfl) (H 1) (by kernel_rfl); have f47 : F.tmps.getD 47 undef = i 14 := (a 47).trans (by kernel_rfl); have q14 := (H 14 uE).1; rw [if_neg (by simp [b]), if_pos q14] at f; have hS := f; clear f c b d a H; refine oP rfl ?_; go_simp; refine (HC2.out W _ hS).mono ?_; rintro e W' ⟨rfl, hs⟩; exact g.out _ W' trivial trivial (by simpa [upB, upd] using hs)
     exact EN
    ·intro dn xv W hI H; have qe : dn 15 = true := (H 15 (of_decide_eq_true (by kernel_rfl))).1; rw [if_pos qe] at hI; have hS := hI; clear H hI qe; simp only [putAll, Act.put, List.setIfInBounds_toArray, List.set_cons_zero, List.set_cons_succ, Nat.reduceAdd]
     go_wp2_with fail
     go_meet
     case rel => exact ⟨a0, a1, _, hS, Lib.hid ⟨by rw [TW.act, if_pos rfl, ← HT0.out, ← Hkq.out]; rfl, (HO0.out.tick (by omega) false).mono (by omega)⟩⟩
  ·have e0 : (d == 0) = false := by simpa using h0
   by_cases h1 : d = 1
   ·subst h1
    go_wp2_with fail
    refine (sendA0 HA.out hO (by omega)).mono ?_; rintro e w2 ⟨rfl, h2⟩; have HA2 := Lib.hid h2; clear h2
    go_wp2_with fail
    go_meet
    case rel => exact ⟨a0, a1, _, HA2.out, Lib.hid ⟨by rw [TW.act, if_neg (by decide), if_pos rfl], (hO.send (by omega) false).mono (by omega)⟩⟩
   ·have e1 : (d == 1) = false := by simpa using h1
    by_cases h234 : d = 2 ∨ d = 3 ∨ d = 4
    ·skip
     have H234 := Lib.hid h234; have HA3 := Lib.hid (HAB.out)
     go_upto_if 54 with fail
     go_cut [54] from 55 to 57 (fun t54 wx => t54 = .bool true ∧ wx = (w.alloc (.cells #[.int .i64 d, .int .i64 at_, .int .i64 nn] 37)))
     case first =>
      by_cases h2 : d = 2
      ·subst h2
       go_wp2_with fail
       go_meet
       case rel => exact ⟨rfl, rfl⟩
      ·have e2 : (d == 2) = false := by simpa using h2
       by_cases h3 : d = 3
       ·subst h3
        go_wp2_with fail
        go_meet
        case rel => exact ⟨rfl, rfl⟩
       ·have h4 : d = 4 := by have := H234.out; omega
        subst h4
        go_wp2_with fail
        go_meet
        case rel => exact ⟨rfl, rfl⟩
     case rest =>
      obtain ⟨rfl, rfl⟩ := hcut; obtain ⟨b0, b1, v0, v1, W0, W1, BB, bs, bt, q1, q2, q3, q4, h⟩ := HA3.out; obtain ⟨AV, cV, hv, hcV, hcV2, hasV⟩ := sep_rwoForm (i := 5) h rfl; subst hv; have HQW := Lib.hid (And.intro q1 (And.intro q2 (And.intro q3 q4))); have hlw : W0.length = (T.way false).length := by rw [← q1, List.length_map]
      have kk := cA (v := .slice AV W0.length cV) (i := 0) h rfl 6 rfl; clear q1 q2 q3 q4
      by_cases hw : T.way false = []
      ·have e0 : ((W0.length : Int) == 0) = true := by rw [hlw, hw]; rfl
       have e00 : (W0.length == 0) = true := by rw [hlw, hw]; rfl
       have HW := Lib.hid hw; clear hw hasV h
       go_wp2_with fail
       refine bodyPost_ret (results_none rfl _ _ _) rfl ?_; exact ⟨rfl, false, k, a0, a1, by rw [act_none H234.out HW.out]; exact HA3.out.pop, by rw [act_none H234.out HW.out]; exact hO.mono (by omega)⟩
      ·have hpos : 0 < W0.length := by rw [hlw]; exact List.length_pos_iff.2 hw
       obtain ⟨nl, Hnl⟩ : ∃ y, Hid (W0.length = y) := ⟨_, Lib.hid rfl⟩; obtain ⟨bw, ow, rfl, _, _⟩ := hasV.at_ (k := 0) (by rw [frRow_len]; omega); rw [Hnl.out] at h hcV kk hlw hpos; have e0 : (nl == 0) = false := by simp; omega
       have e00 : ((nl : Int) == 0) = false := by simp; omega
       obtain ⟨jj, Hjj⟩ : ∃ y, Hid (k % nl = y) := ⟨_, Lib.hid rfl⟩; have hjn : jj < nl := by rw [← Hjj.out]; exact Nat.mod_lt _ hpos
       have er : Int.tmod (k : Int) (nl : Int) = (jj : Int) := by rw [← Hjj.out]; rfl
       have er2 : (k : Int) % (nl : Int) = (jj : Int) := by rw [← Hjj.out]; rfl
       obtain ⟨p, hp⟩ : ∃ p, W0[jj]? = some p := ⟨_, List.getElem?_eq_getElem (by rw [Hnl.out]; exact hjn)⟩; have hpB : (p.2, p.1.body) ∈ BB := by
        have hm : (p.2, p.1.body) ∈ fB_ W0 := List.mem_map.2 ⟨_, List.mem_of_getElem? hp, rfl⟩; exact HQW.out.2.2.1 _ hm
       obtain ⟨AU, cU, hu, _, _, hasU⟩ := sep_bodsAt (i := 7) h rfl hpB; have hfw : (T.way false)[jj]? = some p.1 := by rw [← HQW.out.1, List.getElem?_map, hp]; rfl
       have hfo := hO.frs false p.1 (List.mem_of_getElem? hfw); have HJW : Hid (k % (T.way false).length = jj) := Lib.hid (by rw [← hlw]; exact Hjj.out); obtain ⟨⟨kind, ffr, fto, finc, fconn, pinc, pconn, fack, fseq, body⟩, u⟩ := p; simp only at hu; subst hu; obtain ⟨fF, HfF⟩ : ∃ y, Hid ((⟨kind, ffr, fto, finc, fconn, pinc, pconn, fack, fseq, body⟩ : Fr) = y) := ⟨_, Lib.hid rfl⟩; have HFW : Hid ((T.way false)[jj]? = some fF) := Lib.hid (by rw [← HfF.out]; exact hfw); have HFO : Hid (FrOk B fF) := Lib.hid (by rw [← HfF.out]; exact hfo); have hbl : body.length ≤ 448 := hfo.2.2.2.2; have HS4 := Lib.hid (show Sep w0 (w.alloc (.cells #[.int .i64 d, .int .i64 at_, .int .i64 nn] 37)) (Ce g 34 #[.pointer (some ⟨a0, 0, none⟩), .pointer (some ⟨a1, 0, none⟩), .int .u64 (((T.l false).si : Nat) : Int), .int .u64 (((T.l true).si : Nat) : Int), .int .u64 ((T.now false : Nat) : Int), .int .u64 ((T.now true : Nat) : Int), .slice (some ⟨bw, ow, none⟩) nl cV, v1, .map (some bs), .map (some bt), .int .i64 ((T.n : Nat) : Int), .bool false] :: Ce a0 72 ((T.l false).cells b0) :: BoxT b0 (T.l false).box :: Ce a1 72 ((T.l true).cells b1) :: BoxT b1 (T.l true).box :: RwO 51 10 (.slice (some ⟨bw, ow, none⟩) nl cV) nl (fR_ W0) :: RwO 51 10 v1 W1.length (fR_ W1) :: Bods BB :: MapT bs T.sent :: MapT bt T.told :: Ce w.heap.size 37 #[.int .i64 d, .int .i64 at_, .int .i64 nn] :: Qs) by unfold TWL at h; rw [Hnl.out] at h; exact h); have hr := sep_rwoHas (i := 5) HS4.out rfl; have kf0 := hK4 hr (frRow_at (r := 0) (v := .int .i64 kind) hp (by omega)); rw [Nat.add_zero] at kf0; have kf1 := hK4 hr (frRow_at (r := 1) (v := .int .i64 ffr) hp (by omega)); rw [← Nat.add_assoc] at kf1; have kf2 := hK4 hr (frRow_at (r := 2) (v := .int .i64 fto) hp (by omega)); rw [← Nat.add_assoc] at kf2; have kf3 := hK4 hr (frRow_at (r := 3) (v := .int .u64 (finc : Int)) hp (by omega)); rw [← Nat.add_assoc] at kf3; have kf4 := hK4 hr (frRow_at (r := 4) (v := .int .u64 (fconn : Int)) hp (by omega)); rw [← Nat.add_assoc] at kf4; have kf5 := hK4 hr (frRow_at (r := 5) (v := .int .u64 (pinc : Int)) hp (by omega)); rw [← Nat.add_assoc] at kf5; have kf6 := hK4 hr (frRow_at (r := 6) (v := .int .u64 (pconn : Int)) hp (by omega)); rw [← Nat.add_assoc] at kf6; have kf7 := hK4 hr (frRow_at (r := 7) (v := .int .u64 (fack : Int)) hp (by omega)); rw [← Nat.add_assoc] at kf7; have kf8 := hK4 hr (frRow_at (r := 8) (v := .int .u64 (fseq : Int)) hp (by omega)); rw [← Nat.add_assoc] at kf8; have kf9 := hK4 hr (frRow_at (r := 9) (v := .slice AU body.length cU) hp (by omega)); rw [← Nat.add_assoc] at kf9; have HU := Lib.hid hasU; have HHP := Lib.hid hp; have HLW := Lib.hid hlw; have hnb : nl ≤ B := by rw [hlw]; exact hO.way false
       clear hr hasV hw h hp hpB hfo hfw hasU hlw
       go_wp2_with fail
       refine (own5_any _ _ ⟨kind, ffr, fto, finc, fconn, pinc, pconn, fack, fseq, body⟩ AU cU HU.out (Nat.le_refl _) (by simp only; omega)).mono ?_; rintro e w3 ⟨AZ, cZ, rfl, hoN, hbN⟩; simp only [Fr.cells]; clear kk kf0 kf1 kf2 kf3 kf4 kf5 kf6 kf7 kf8 kf9 er er2 e0 e00; have HA4 := Lib.hid (HA3.out.grow hbN); have HA5 := Lib.hid (((HA3.out.by_ hbN hoN).ce #[.int .i64 kind, .int .i64 ffr, .int .i64 fto, .int .u64 (finc : Int), .int .u64 (fconn : Int), .int .u64 (pinc : Int), .int .u64 (pconn : Int), .int .u64 (fack : Int), .int .u64 (fseq : Int), .slice AZ body.length cZ] 51).swap); have HS5 := Lib.hid (show Sep w0 (w3.alloc (.cells #[.int .i64 kind, .int .i64 ffr, .int .i64 fto, .int .u64 (finc : Int), .int .u64 (fconn : Int), .int .u64 (pinc : Int), .int .u64 (pconn : Int), .int .u64 (fack : Int), .int .u64 (fseq : Int), .slice AZ body.length cZ] 51)) (Ce g 34 #[.pointer (some ⟨a0, 0, none⟩), .pointer (some ⟨a1, 0, none⟩), .int .u64 (((T.l false).si : Nat) : Int), .int .u64 (((T.l true).si : Nat) : Int), .int .u64 ((T.now false : Nat) : Int), .int .u64 ((T.now true : Nat) : Int), .slice (some ⟨bw, ow, none⟩) nl cV, v1, .map (some bs), .map (some bt), .int .i64 ((T.n : Nat) : Int), .bool false] :: Ce a0 72 ((T.l false).cells b0) :: BoxT b0 (T.l false).box :: Ce a1 72 ((T.l true).cells b1) :: BoxT b1 (T.l true).box :: RwO 51 10 (.slice (some ⟨bw, ow, none⟩) nl cV) nl (fR_ W0) :: RwO 51 10 v1 W1.length (fR_ W1) :: Bods BB :: MapT bs T.sent :: MapT bt T.told :: By (.slice AZ body.length cZ) body :: Ce (w3.heap.size) 51 #[.int .i64 kind, .int .i64 ffr, .int .i64 fto, .int .u64 (finc : Int), .int .u64 (fconn : Int), .int .u64 (pinc : Int), .int .u64 (pconn : Int), .int .u64 (fack : Int), .int .u64 (fseq : Int), .slice AZ body.length cZ] :: Ce w.heap.size 37 #[.int .i64 d, .int .i64 at_, .int .i64 nn] :: Qs) from (show Sep w0 (w3.alloc (.cells #[.int .i64 kind, .int .i64 ffr, .int .i64 fto, .int .u64 (finc : Int), .int .u64 (fconn : Int), .int .u64 (pinc : Int), .int .u64 (pconn : Int), .int .u64 (fack : Int), .int .u64 (fseq : Int), .slice AZ body.length cZ] 51)) (Ce w3.heap.size 51 #[.int .i64 kind, .int .i64 ffr, .int .i64 fto, .int .u64 (finc : Int), .int .u64 (fconn : Int), .int .u64 (pinc : Int), .int .u64 (pconn : Int), .int .u64 (fack : Int), .int .u64 (fseq : Int), .slice AZ body.length cZ] :: By (.slice AZ body.length cZ) body :: Ce g 34 #[.pointer (some ⟨a0, 0, none⟩), .pointer (some ⟨a1, 0, none⟩), .int .u64 (((T.l false).si : Nat) : Int), .int .u64 (((T.l true).si : Nat) : Int), .int .u64 ((T.now false : Nat) : Int), .int .u64 ((T.now true : Nat) : Int), .slice (some ⟨bw, ow, none⟩) nl cV, v1, .map (some bs), .map (some bt), .int .i64 ((T.n : Nat) : Int), .bool false] :: Ce a0 72 ((T.l false).cells b0) :: BoxT b0 (T.l false).box :: Ce a1 72 ((T.l true).cells b1) :: BoxT b1 (T.l true).box :: RwO 51 10 (.slice (some ⟨bw, ow, none⟩) nl cV) nl (fR_ W0) :: RwO 51 10 v1 W1.length (fR_ W1) :: Bods BB :: MapT bs T.sent :: MapT bt T.told :: Ce w.heap.size 37 #[.int .i64 d, .int .i64 at_, .int .i64 nn] :: Qs) from sep_ceF (HS4.out.add (F := fun k => (Value.slice AZ body.length cZ).ownBlock = some k) hbN ⟨own_mono hoN (Nat.zero_le _), fun k => Iff.rfl⟩ (By.loc _ _) fun k hk => (hoN.lt k hk).1).lastFront _ _) |> fun h => ((((((((((((h).tF 0 rfl).tF 1 rfl).tF 11 rfl).tF 11 rfl).tF 11 rfl).tF 11 rfl).tF 11 rfl).tF 11 rfl).tF 11 rfl).tF 11 rfl).tF 11 rfl).tF 11 rfl)
       have HZ := Lib.hid (sep_ce (Sep.nil w3) #[.int .i64 0, .int .i64 0, .int .i64 0, .int .u64 0, .int .u64 0, .int .u64 0, .int .u64 0, .int .u64 0, .int .u64 0, .slice none 0 0] 51); have zf0 := cA (i := 0) HZ.out rfl 0 rfl; have yf0 := cFz (i := 0) HZ.out rfl 0; have zf1 := cA (i := 0) HZ.out rfl 1 rfl; have yf1 := cFz (i := 0) HZ.out rfl 1; have zf2 := cA (i := 0) HZ.out rfl 2 rfl; have yf2 := cFz (i := 0) HZ.out rfl 2; have zf3 := cA (i := 0) HZ.out rfl 3 rfl; have yf3 := cFz (i := 0) HZ.out rfl 3; have zf4 := cA (i := 0) HZ.out rfl 4 rfl; have yf4 := cFz (i := 0) HZ.out rfl 4; have zf5 := cA (i := 0) HZ.out rfl 5 rfl; have yf5 := cFz (i := 0) HZ.out rfl 5; have zf6 := cA (i := 0) HZ.out rfl 6 rfl; have yf6 := cFz (i := 0) HZ.out rfl 6; have zf7 := cA (i := 0) HZ.out rfl 7 rfl; have yf7 := cFz (i := 0) HZ.out rfl 7; have zf8 := cA (i := 0) HZ.out rfl 8 rfl; have yf8 := cFz (i := 0) HZ.out rfl 8; have zf9 := cA (i := 0) HZ.out rfl 9 rfl; have yf9 := cFz (i := 0) HZ.out rfl 9; have kd := HA5.out.q2 0 (v := .int .i64 d) rfl; obtain ⟨T0, HT0⟩ : ∃ x, Hid ((if d = 3 then T else ({ T with way := atB T.way false ((T.way false).eraseIdx jj) } : TW)) = x) := ⟨_, Lib.hid rfl⟩; have HO0 : Hid (T0.Ok B) := Lib.hid (by
        rw [← HT0.out]; split
        ·exact hO
        ·exact hO.lose false jj)
       go_upto_if 87 with fail
       go_cut [] from 88 to 112 (fun wx => TwA a0 a1 w0 wx g T0 (By (.slice AZ body.length cZ) body :: Ce (w3.heap.size) 51 #[.int .i64 kind, .int .i64 ffr, .int .i64 fto, .int .u64 (finc : Int), .int .u64 (fconn : Int), .int .u64 (pinc : Int), .int .u64 (pconn : Int), .int .u64 (fack : Int), .int .u64 (fseq : Int), .slice AZ body.length cZ] :: Ce w.heap.size 37 #[.int .i64 d, .int .i64 at_, .int .i64 nn] :: Qs))
       case first =>
        by_cases h3 : d = 3
        ·subst h3; have HT3 : Hid (T = T0) := Lib.hid (by rw [← HT0.out, if_pos rfl])
         go_wp2_with fail
         go_meet
         case rel =>
          rw [← HT3.out]; exact HA5.out
        ·have e3 : (d != 3) = true := by simpa using h3
         have H3 := Lib.hid h3; have hjn2 : jj + 1 ≤ nl := hjn; have hone := frRow_oneB (LP := W0) (i := 7) HS5.out rfl (fun x hx => HQW.out.2.2.1 _ hx); have HX1 : Hid (∀ u ∈ (fR_ W0).take (jj * 10), u.oneCell' = true) := Lib.hid (fun u hu => hone u (List.mem_of_mem_take hu)); have HX2 : Hid (∀ u ∈ (fR_ W0).drop ((jj + 1) * 10), u.oneCell' = true) := Lib.hid (fun u hu => hone u (List.mem_of_mem_drop hu)); obtain ⟨jk, Hjk⟩ : ∃ y, Hid (jj + 1 = y) := ⟨_, Lib.hid rfl⟩; obtain ⟨SB, HSB2⟩ : ∃ y, Hid ((if cV = jj + 1 then (some ⟨bw, ow, none⟩ : Option Addr) else (some (⟨bw, ow, none⟩ : Addr)).map (·.add ((jj + 1) * 10))) = y) := ⟨_, Lib.hid rfl⟩; obtain ⟨n2, Hn2⟩ : ∃ y, Hid (nl - (jj + 1) = y) := ⟨_, Lib.hid rfl⟩; obtain ⟨c2, Hc2⟩ : ∃ y, Hid (cV - (jj + 1) = y) := ⟨_, Lib.hid rfl⟩; obtain ⟨nn2, HN2⟩ : ∃ y, Hid (jj + n2 = y) := ⟨_, Lib.hid rfl⟩; have hfl : (fR_ W0).length = nl * 10 := by rw [frRow_len, Hnl.out]
         have HL1 : Hid (((fR_ W0).take (jj * 10)).length = jj * 10) := Lib.hid (by rw [List.length_take, hfl]; omega); have HL2 : Hid (((fR_ W0).drop ((jj + 1) * 10)).length = n2 * 10) := Lib.hid (by rw [List.length_drop, hfl, ← Hn2.out, Nat.sub_mul]); have HR1 : Hid (∀ W, (Instr.slice 30 (.slice (some ⟨bw, ow, none⟩) nl cV) none (some (.int .i64 (jj : Int))) none).run Try.prog W = .ok (.slice (some ⟨bw, ow, none⟩) jj cV) W) := Lib.hid (fun W => run_toF W _ nl cV jj (by omega)); have HR2 : Hid (∀ W, (Instr.slice 30 (.slice (some ⟨bw, ow, none⟩) nl cV) (some (.int .i64 (jk : Int))) none none).run Try.prog W = .ok (.slice SB n2 c2) W) := Lib.hid (fun W => by
          have hq := run_fromF W (some ⟨bw, ow, none⟩) nl cV (jj + 1) hjn2; rw [HSB2.out, Hn2.out, Hc2.out, Hjk.out] at hq; exact hq)
         have HH2 : Hid (∀ W, OwnO W 51 10 (.slice (some ⟨bw, ow, none⟩) nl cV) nl (fR_ W0) → Has W W.heap.size SB ((fR_ W0).drop ((jj + 1) * 10))) := Lib.hid (fun W ho => by
          obtain ⟨A', c', e', _, _, hh⟩ := ownO_form (ownO_from ho hjn2).1; rw [HSB2.out] at e'; simp only [Value.slice.injEq] at e'; rw [e'.1]; exact hh)
         have ejk : IntKind.i64.wrap ((jj : Int) + 1) = (jk : Int) := by rw [IntKind.wrap_i64, ← Hjk.out]; omega
         have hn2 : n2 ≤ 1000000 := by rw [← Hn2.out]; omega
         have hjb : jj ≤ 1000000 := by omega
         have HKW : ∀ (dn : Nat → Bool) (xv : Nat → Value) (W : World), (if dn 25 = true then ∃ v, Sep w0 W (Rw 51 10 v nn2 (((fR_ W0).take (jj * 10)) ++ ((fR_ W0).drop ((jj + 1) * 10))) :: Ce g 34 #[.pointer (some ⟨a0, 0, none⟩), .pointer (some ⟨a1, 0, none⟩), .int .u64 (((T.l false).si : Nat) : Int), .int .u64 (((T.l true).si : Nat) : Int), .int .u64 ((T.now false : Nat) : Int), .int .u64 ((T.now true : Nat) : Int), v, v1, .map (some bs), .map (some bt), .int .i64 ((T.n : Nat) : Int), .bool false] :: Ce a0 72 ((T.l false).cells b0) :: BoxT b0 (T.l false).box :: Ce a1 72 ((T.l true).cells b1) :: BoxT b1 (T.l true).box :: RwO 51 10 (.slice (some ⟨bw, ow, none⟩) nl cV) nl (fR_ W0) :: RwO 51 10 v1 W1.length (fR_ W1) :: Bods BB :: MapT bs T.sent :: MapT bt T.told :: By (.slice AZ body.length cZ) body :: Ce (w3.heap.size) 51 #[.int .i64 kind, .int .i64 ffr, .int .i64 fto, .int .u64 (finc : Int), .int .u64 (fconn : Int), .int .u64 (pinc : Int), .int .u64 (pconn : Int), .int .u64 (fack : Int), .int .u64 (fseq : Int), .slice AZ body.length cZ] :: Ce w.heap.size 37 #[.int .i64 d, .int .i64 at_, .int .i64 nn] :: Qs) else if dn 21 = true then Sep w0 W (Rw 51 10 (xv 21) nn2 (((fR_ W0).take (jj * 10)) ++ ((fR_ W0).drop ((jj + 1) * 10))) :: Ce g 34 #[.pointer (some ⟨a0, 0, none⟩), .pointer (some ⟨a1, 0, none⟩), .int .u64 (((T.l false).si : Nat) : Int), .int .u64 (((T.l true).si : Nat) : Int), .int .u64 ((T.now false : Nat) : Int), .int .u64 ((T.now true : Nat) : Int), .slice (some ⟨bw, ow, none⟩) nl cV, v1, .map (some bs), .map (some bt), .int .i64 ((T.n : Nat) : Int), .bool false] :: Ce a0 72 ((T.l false).cells b0) :: BoxT b0 (T.l false).box :: Ce a1 72 ((T.l true).cells b1) :: BoxT b1 (T.l true).box :: RwO 51 10 (.slice (some ⟨bw, ow, none⟩) nl cV) nl (fR_ W0) :: RwO 51 10 v1 W1.length (fR_ W1) :: Bods BB :: MapT bs T.sent :: MapT bt T.told :: By (.slice AZ body.length cZ) body :: Ce (w3.heap.size) 51 #[.int .i64 kind, .int .i64 ffr, .int .i64 fto, .int .u64 (finc : Int), .int .u64 (fconn : Int), .int .u64 (pinc : Int), .int .u64 (pconn : Int), .int .u64 (fack : Int), .int .u64 (fseq : Int), .slice AZ body.length cZ] :: Ce w.heap.size 37 #[.int .i64 d, .int .i64 at_, .int .i64 nn] :: Qs) else if dn 11 = true then Sep w0 W (Rw 51 10 (xv 11) jj ((fR_ W0).take (jj * 10)) :: Ce g 34 #[.pointer (some ⟨a0, 0, none⟩), .pointer (some ⟨a1, 0, none⟩), .int .u64 (((T.l false).si : Nat) : Int), .int .u64 (((T.l true).si : Nat) : Int), .int .u64 ((T.now false : Nat) : Int), .int .u64 ((T.now true : Nat) : Int), .slice (some ⟨bw, ow, none⟩) nl cV, v1, .map (some bs), .map (some bt), .int .i64 ((T.n : Nat) : Int), .bool false] :: Ce a0 72 ((T.l false).cells b0) :: BoxT b0 (T.l false).box :: Ce a1 72 ((T.l true).cells b1) :: BoxT b1 (T.l true).box :: RwO 51 10 (.slice (some ⟨bw, ow, none⟩) nl cV) nl (fR_ W0) :: RwO 51 10 v1 W1.length (fR_ W1) :: Bods BB :: MapT bs T.sent :: MapT bt T.told :: By (.slice AZ body.length cZ) body :: Ce (w3.heap.size) 51 #[.int .i64 kind, .int .i64 ffr, .int .i64 fto, .int .u64 (finc : Int), .int .u64 (fconn : Int), .int .u64 (pinc : Int), .int .u64 (pconn : Int), .int .u64 (fack : Int), .int .u64 (fseq : Int), .slice AZ body.length cZ] :: Ce w.heap.size 37 #[.int .i64 d, .int .i64 at_, .int .i64 nn] :: Qs) else if dn 2 = true then Sep w0 W (Rw 51 10 (xv 2) 0 [] :: Ce g 34 #[.pointer (some ⟨a0, 0, none⟩), .pointer (some ⟨a1, 0, none⟩), .int .u64 (((T.l false).si : Nat) : Int), .int .u64 (((T.l true).si : Nat) : Int), .int .u64 ((T.now false : Nat) : Int), .int .u64 ((T.now true : Nat) : Int), .slice (some ⟨bw, ow, none⟩) nl cV, v1, .map (some bs), .map (some bt), .int .i64 ((T.n : Nat) : Int), .bool false] :: Ce a0 72 ((T.l false).cells b0) :: BoxT b0 (T.l false).box :: Ce a1 72 ((T.l true).cells b1) :: BoxT b1 (T.l true).box :: RwO 51 10 (.slice (some ⟨bw, ow, none⟩) nl cV) nl (fR_ W0) :: RwO 51 10 v1 W1.length (fR_ W1) :: Bods BB :: MapT bs T.sent :: MapT bt T.told :: By (.slice AZ body.length cZ) body :: Ce (w3.heap.size) 51 #[.int .i64 kind, .int .i64 ffr, .int .i64 fto, .int .u64 (finc : Int), .int .u64 (fconn : Int), .int .u64 (pinc : Int), .int .u64 (pconn : Int), .int .u64 (fack : Int), .int .u64 (fseq : Int), .slice AZ body.length cZ] :: Ce w.heap.size 37 #[.int .i64 d, .int .i64 at_, .int .i64 nn] :: Qs) else Sep w0 W (Ce g 34 #[.pointer (some ⟨a0, 0, none⟩), .pointer (some ⟨a1, 0, none⟩), .int .u64 (((T.l false).si : Nat) : Int), .int .u64 (((T.l true).si : Nat) : Int), .int .u64 ((T.now false : Nat) : Int), .int .u64 ((T.now true : Nat) : Int), .slice (some ⟨bw, ow, none⟩) nl cV, v1, .map (some bs), .map (some bt), .int .i64 ((T.n : Nat) : Int), .bool false] :: Ce a0 72 ((T.l false).cells b0) :: BoxT b0 (T.l false).box :: Ce a1 72 ((T.l true).cells b1) :: BoxT b1 (T.l true).box :: RwO 51 10 (.slice (some ⟨bw, ow, none⟩) nl cV) nl (fR_ W0) :: RwO 51 10 v1 W1.length (fR_ W1) :: Bods BB :: MapT bs T.sent :: MapT bt T.told :: By (.slice AZ body.length cZ) body :: Ce (w3.heap.size) 51 #[.int .i64 kind, .int .i64 ffr, .int .i64 fto, .int .u64 (finc : Int), .int .u64 (fconn : Int), .int .u64 (pinc : Int), .int .u64 (pconn : Int), .int .u64 (fack : Int), .int .u64 (fseq : Int), .slice AZ body.length cZ] :: Ce w.heap.size 37 #[.int .i64 d, .int .i64 at_, .int .i64 nn] :: Qs)) → dn 25 = false → W.cell? ⟨g, 6, none⟩ = some (.slice (some ⟨bw, ow, none⟩) nl cV) := fun dn xv W h h0 => by
          rw [if_neg (by simp [h0])] at h; split at h
          ·exact cA (i := 1) h rfl 6 rfl
          split at h
          ·exact cA (i := 1) h rfl 6 rfl
          split at h
          ·exact cA (i := 1) h rfl 6 rfl
          ·exact cA (i := 0) h rfl 6 rfl
         clear hone hfl h3 hjn2 hjn hcV hnb HA5 kd h0 h1 h234 hO hbN hoN
         go_wp2_with fail
         refine wRG (fun dn xv W => if dn 25 = true then ∃ v, Sep w0 W (Rw 51 10 v nn2 (((fR_ W0).take (jj * 10)) ++ ((fR_ W0).drop ((jj + 1) * 10))) :: Ce g 34 #[.pointer (some ⟨a0, 0, none⟩), .pointer (some ⟨a1, 0, none⟩), .int .u64 (((T.l false).si : Nat) : Int), .int .u64 (((T.l true).si : Nat) : Int), .int .u64 ((T.now false : Nat) : Int), .int .u64 ((T.now true : Nat) : Int), v, v1, .map (some bs), .map (some bt), .int .i64 ((T.n : Nat) : Int), .bool false] :: Ce a0 72 ((T.l false).cells b0) :: BoxT b0 (T.l false).box :: Ce a1 72 ((T.l true).cells b1) :: BoxT b1 (T.l true).box :: RwO 51 10 (.slice (some ⟨bw, ow, none⟩) nl cV) nl (fR_ W0) :: RwO 51 10 v1 W1.length (fR_ W1) :: Bods BB :: MapT bs T.sent :: MapT bt T.told :: By (.slice AZ body.length cZ) body :: Ce (w3.heap.size) 51 #[.int .i64 kind, .int .i64 ffr, .int .i64 fto, .int .u64 (finc : Int), .int .u64 (fconn : Int), .int .u64 (pinc : Int), .int .u64 (pconn : Int), .int .u64 (fack : Int), .int .u64 (fseq : Int), .slice AZ body.length cZ] :: Ce w.heap.size 37 #[.int .i64 d, .int .i64 at_, .int .i64 nn] :: Qs) else if dn 21 = true then Sep w0 W (Rw 51 10 (xv 21) nn2 (((fR_ W0).take (jj * 10)) ++ ((fR_ W0).drop ((jj + 1) * 10))) :: Ce g 34 #[.pointer (some ⟨a0, 0, none⟩), .pointer (some ⟨a1, 0, none⟩), .int .u64 (((T.l false).si : Nat) : Int), .int .u64 (((T.l true).si : Nat) : Int), .int .u64 ((T.now false : Nat) : Int), .int .u64 ((T.now true : Nat) : Int), .slice (some ⟨bw, ow, none⟩) nl cV, v1, .map (some bs), .map (some bt), .int .i64 ((T.n : Nat) : Int), .bool false] :: Ce a0 72 ((T.l false).cells b0) :: BoxT b0 (T.l false).box :: Ce a1 72 ((T.l true).cells b1) :: BoxT b1 (T.l true).box :: RwO 51 10 (.slice (some ⟨bw, ow, none⟩) nl cV) nl (fR_ W0) :: RwO 51 10 v1 W1.length (fR_ W1) :: Bods BB :: MapT bs T.sent :: MapT bt T.told :: By (.slice AZ body.length cZ) body :: Ce (w3.heap.size) 51 #[.int .i64 kind, .int .i64 ffr, .int .i64 fto, .int .u64 (finc : Int), .int .u64 (fconn : Int), .int .u64 (pinc : Int), .int .u64 (pconn : Int), .int .u64 (fack : Int), .int .u64 (fseq : Int), .slice AZ body.length cZ] :: Ce w.heap.size 37 #[.int .i64 d, .int .i64 at_, .int .i64 nn] :: Qs) else if dn 11 = true then Sep w0 W (Rw 51 10 (xv 11) jj ((fR_ W0).take (jj * 10)) :: Ce g 34 #[.pointer (some ⟨a0, 0, none⟩), .pointer (some ⟨a1, 0, none⟩), .int .u64 (((T.l false).si : Nat) : Int), .int .u64 (((T.l true).si : Nat) : Int), .int .u64 ((T.now false : Nat) : Int), .int .u64 ((T.now true : Nat) : Int), .slice (some ⟨bw, ow, none⟩) nl cV, v1, .map (some bs), .map (some bt), .int .i64 ((T.n : Nat) : Int), .bool false] :: Ce a0 72 ((T.l false).cells b0) :: BoxT b0 (T.l false).box :: Ce a1 72 ((T.l true).cells b1) :: BoxT b1 (T.l true).box :: RwO 51 10 (.slice (some ⟨bw, ow, none⟩) nl cV) nl (fR_ W0) :: RwO 51 10 v1 W1.length (fR_ W1) :: Bods BB :: MapT bs T.sent :: MapT bt T.told :: By (.slice AZ body.length cZ) body :: Ce (w3.heap.size) 51 #[.int .i64 kind, .int .i64 ffr, .int .i64 fto, .int .u64 (finc : Int), .int .u64 (fconn : Int), .int .u64 (pinc : Int), .int .u64 (pconn : Int), .int .u64 (fack : Int), .int .u64 (fseq : Int), .slice AZ body.length cZ] :: Ce w.heap.size 37 #[.int .i64 d, .int .i64 at_, .int .i64 nn] :: Qs) else if dn 2 = true then Sep w0 W (Rw 51 10 (xv 2) 0 [] :: Ce g 34 #[.pointer (some ⟨a0, 0, none⟩), .pointer (some ⟨a1, 0, none⟩), .int .u64 (((T.l false).si : Nat) : Int), .int .u64 (((T.l true).si : Nat) : Int), .int .u64 ((T.now false : Nat) : Int), .int .u64 ((T.now true : Nat) : Int), .slice (some ⟨bw, ow, none⟩) nl cV, v1, .map (some bs), .map (some bt), .int .i64 ((T.n : Nat) : Int), .bool false] :: Ce a0 72 ((T.l false).cells b0) :: BoxT b0 (T.l false).box :: Ce a1 72 ((T.l true).cells b1) :: BoxT b1 (T.l true).box :: RwO 51 10 (.slice (some ⟨bw, ow, none⟩) nl cV) nl (fR_ W0) :: RwO 51 10 v1 W1.length (fR_ W1) :: Bods BB :: MapT bs T.sent :: MapT bt T.told :: By (.slice AZ body.length cZ) body :: Ce (w3.heap.size) 51 #[.int .i64 kind, .int .i64 ffr, .int .i64 fto, .int .u64 (finc : Int), .int .u64 (fconn : Int), .int .u64 (pinc : Int), .int .u64 (pconn : Int), .int .u64 (fack : Int), .int .u64 (fseq : Int), .slice AZ body.length cZ] :: Ce w.heap.size 37 #[.int .i64 d, .int .i64 at_, .int .i64 nn] :: Qs) else Sep w0 W (Ce g 34 #[.pointer (some ⟨a0, 0, none⟩), .pointer (some ⟨a1, 0, none⟩), .int .u64 (((T.l false).si : Nat) : Int), .int .u64 (((T.l true).si : Nat) : Int), .int .u64 ((T.now false : Nat) : Int), .int .u64 ((T.now true : Nat) : Int), .slice (some ⟨bw, ow, none⟩) nl cV, v1, .map (some bs), .map (some bt), .int .i64 ((T.n : Nat) : Int), .bool false] :: Ce a0 72 ((T.l false).cells b0) :: BoxT b0 (T.l false).box :: Ce a1 72 ((T.l true).cells b1) :: BoxT b1 (T.l true).box :: RwO 51 10 (.slice (some ⟨bw, ow, none⟩) nl cV) nl (fR_ W0) :: RwO 51 10 v1 W1.length (fR_ W1) :: Bods BB :: MapT bs T.sent :: MapT bt T.told :: By (.slice AZ body.length cZ) body :: Ce (w3.heap.size) 51 #[.int .i64 kind, .int .i64 ffr, .int .i64 fto, .int .u64 (finc : Int), .int .u64 (fconn : Int), .int .u64 (pinc : Int), .int .u64 (pconn : Int), .int .u64 (fack : Int), .int .u64 (fseq : Int), .slice AZ body.length cZ] :: Ce w.heap.size 37 #[.int .i64 d, .int .i64 at_, .int .i64 nn] :: Qs)) (fun _ _ => True) [xP_ g 0, xV_ (.int .i64 0), fun v _ => True, xP_ g 0, xV_ (.int .i64 0), xP_ g 0, xP_ g 6, xP_ g 6, xV_ (.slice (some ⟨bw, ow, none⟩) nl cV), xV_ (.int .i64 (jj : Int)), xV_ (.slice (some ⟨bw, ow, none⟩) jj cV), fun v _ => True, xP_ g 0, xV_ (.int .i64 0), xP_ g 0, xP_ g 6, xP_ g 6, xV_ (.slice (some ⟨bw, ow, none⟩) nl cV), xV_ (.int .i64 (jj : Int)), xV_ (.int .i64 (jk : Int)), xV_ (.slice SB n2 c2), fun v _ => True, xP_ g 0, xP_ g 6, xP_ g 6, fun v _ => True] (fun xv => by simpa using HS5.out.drew) ?_ ?_
         ·refine Ep 1 0 g 0 ?_
          refine Ei 2 4 (.int .i64 0) ?_
          refine EC 3 rfl (fun i k W F a b c e f H K h => ?_) ?_
          ·have q11 := c 11 uE; have q21 := c 21 (uM 11 uE); have q25 := c 25 (uM 21 (uM 11 uE)); rw [if_neg (by simp [q25]), if_neg (by simp [q21]), if_neg (by simp [q11]), if_neg (by simp [b])] at f; have hS := f; clear f c b e a H; refine oP rfl ?_; go_simp; have hs : Sep w0 (W.alloc (.cells #[] 51)) (Rw 51 10 (.slice (some ⟨W.heap.size, 0, none⟩) 0 0) 0 [] :: Ce g 34 #[.pointer (some ⟨a0, 0, none⟩), .pointer (some ⟨a1, 0, none⟩), .int .u64 (((T.l false).si : Nat) : Int), .int .u64 (((T.l true).si : Nat) : Int), .int .u64 ((T.now false : Nat) : Int), .int .u64 ((T.now true : Nat) : Int), .slice (some ⟨bw, ow, none⟩) nl cV, v1, .map (some bs), .map (some bt), .int .i64 ((T.n : Nat) : Int), .bool false] :: Ce a0 72 ((T.l false).cells b0) :: BoxT b0 (T.l false).box :: Ce a1 72 ((T.l true).cells b1) :: BoxT b1 (T.l true).box :: RwO 51 10 (.slice (some ⟨bw, ow, none⟩) nl cV) nl (fR_ W0) :: RwO 51 10 v1 W1.length (fR_ W1) :: Bods BB :: MapT bs T.sent :: MapT bt T.told :: By (.slice AZ body.length cZ) body :: Ce (w3.heap.size) 51 #[.int .i64 kind, .int .i64 ffr, .int .i64 fto, .int .u64 (finc : Int), .int .u64 (fconn : Int), .int .u64 (pinc : Int), .int .u64 (pconn : Int), .int .u64 (fack : Int), .int .u64 (fseq : Int), .slice AZ body.length cZ] :: Ce w.heap.size 37 #[.int .i64 d, .int .i64 at_, .int .i64 nn] :: Qs) := sep_rwEmpty hS; exact h.out _ _ trivial trivial (by simpa [upB, upd, q11, q21, q25] using hs)
          refine Ep 4 0 g 0 ?_
          refine Ei 5 4 (.int .i64 0) ?_
          refine Ee 6 91 3 ?_
          refine Ee 7 93 5 ?_
          refine Eee 8 92 4 94 6 ?_
          refine EC 9 rfl (fun g h W F a b c d e H K f => ?_) ?_
          ·have f95 := gE (a 95) (by kernel_rfl) (H 7) (by kernel_rfl); have kk := HKW g h W e (c 25 (uM 21 (uM 11 (uM 10 uE)))); clear H c b d a; refine oP rfl ?_; go_simp; exact f.out _ _ rfl trivial e
          refine Ei 10 6 (.int .i64 (jj : Int)) ?_
          refine Eeek 11 96 8 97 9 (fun _ _ W _ => HR1.out W) ?_
          refine EC 12 rfl (fun k o W F a b c e f H K h => ?_) ?_
          ·have f90 : F.tmps.getD 90 undef = o 2 := (a 90).trans (by kernel_rfl); have f98 := gE (a 98) (by kernel_rfl) (H 10) (by kernel_rfl); have q2 := (H 2 uE).1; have q21 := c 21 uE; have q25 := c 25 (uM 21 uE); rw [if_neg (by simp [q25]), if_neg (by simp [q21]), if_neg (by simp [b]), if_pos q2] at f; have hS := f; clear f c b e a H; refine oP rfl ?_; refine sep_opAppW rowFrames (i := 0) (s := .tmp 90) (x := .tmp 98) (m := jj) (news := ((fR_ W0).take (jj * 10))) (by rfl) f90 f98 hS rfl HL1.out ((sep_rwoHas (i := 6) hS rfl).take _) HX1.out (by unfold maxLen; omega) (by omega) ?_; intro v W' hs0; have hs : Sep w0 W' (Rw 51 10 v jj ((fR_ W0).take (jj * 10)) :: Ce g 34 #[.pointer (some ⟨a0, 0, none⟩), .pointer (some ⟨a1, 0, none⟩), .int .u64 (((T.l false).si : Nat) : Int), .int .u64 (((T.l true).si : Nat) : Int), .int .u64 ((T.now false : Nat) : Int), .int .u64 ((T.now true : Nat) : Int), .slice (some ⟨bw, ow, none⟩) nl cV, v1, .map (some bs), .map (some bt), .int .i64 ((T.n : Nat) : Int), .bool false] :: Ce a0 72 ((T.l false).cells b0) :: BoxT b0 (T.l false).box :: Ce a1 72 ((T.l true).cells b1) :: BoxT b1 (T.l true).box :: RwO 51 10 (.slice (some ⟨bw, ow, none⟩) nl cV) nl (fR_ W0) :: RwO 51 10 v1 W1.length (fR_ W1) :: Bods BB :: MapT bs T.sent :: MapT bt T.told :: By (.slice AZ body.length cZ) body :: Ce (w3.heap.size) 51 #[.int .i64 kind, .int .i64 ffr, .int .i64 fto, .int .u64 (finc : Int), .int .u64 (fconn : Int), .int .u64 (pinc : Int), .int .u64 (pconn : Int), .int .u64 (fack : Int), .int .u64 (fseq : Int), .slice AZ body.length cZ] :: Ce w.heap.size 37 #[.int .i64 d, .int .i64 at_, .int .i64 nn] :: Qs) := by simpa using hs0
           exact h.out v W' trivial trivial (by simpa [upB, upd, q21, q25] using hs)
          refine Ep 13 0 g 0 ?_
          refine Ei 14 4 (.int .i64 0) ?_
          refine Ee 15 100 12 ?_
          refine Ee 16 102 14 ?_
          refine Eee 17 101 13 103 15 ?_
          refine EC 18 rfl (fun g h W F a b c d e H K f => ?_) ?_
          ·have f104 := gE (a 104) (by kernel_rfl) (H 16) (by kernel_rfl); have kk := HKW g h W e (c 25 (uM 21 (uM 20 uE))); clear H c b d a; refine oP rfl ?_; go_simp; exact f.out _ _ rfl trivial e
          refine Ei 19 6 (.int .i64 (jj : Int)) ?_
          refine Ee 20 106 18 ?_
          refine Eeek 21 105 17 107 19 (fun _ _ W _ => HR2.out W) ?_
          refine EC 22 rfl (fun j k W F a b c e f H K h => ?_) ?_
          ·have f99 : F.tmps.getD 99 undef = k 11 := (a 99).trans (by kernel_rfl); have f108 := gE (a 108) (by kernel_rfl) (H 20) (by kernel_rfl); have q11 := (H 11 uE).1; have q25 := c 25 uE; rw [if_neg (by simp [q25]), if_neg (by simp [b]), if_pos q11] at f; have hS := f; clear f c b e a H; refine oP rfl ?_; refine sep_opAppW rowFrames (i := 0) (s := .tmp 99) (x := .tmp 108) (m := n2) (news := ((fR_ W0).drop ((jj + 1) * 10))) (by rfl) f99 f108 hS rfl HL2.out (HH2.out W (sep_rwoOwn (i := 6) hS rfl)) HX2.out (by unfold maxLen; omega) (by omega) ?_; intro v W' hs0; rw [HN2.out] at hs0; have hs : Sep w0 W' (Rw 51 10 v nn2 (((fR_ W0).take (jj * 10)) ++ ((fR_ W0).drop ((jj + 1) * 10))) :: Ce g 34 #[.pointer (some ⟨a0, 0, none⟩), .pointer (some ⟨a1, 0, none⟩), .int .u64 (((T.l false).si : Nat) : Int), .int .u64 (((T.l true).si : Nat) : Int), .int .u64 ((T.now false : Nat) : Int), .int .u64 ((T.now true : Nat) : Int), .slice (some ⟨bw, ow, none⟩) nl cV, v1, .map (some bs), .map (some bt), .int .i64 ((T.n : Nat) : Int), .bool false] :: Ce a0 72 ((T.l false).cells b0) :: BoxT b0 (T.l false).box :: Ce a1 72 ((T.l true).cells b1) :: BoxT b1 (T.l true).box :: RwO 51 10 (.slice (some ⟨bw, ow, none⟩) nl cV) nl (fR_ W0) :: RwO 51 10 v1 W1.length (fR_ W1) :: Bods BB :: MapT bs T.sent :: MapT bt T.told :: By (.slice AZ body.length cZ) body :: Ce (w3.heap.size) 51 #[.int .i64 kind, .int .i64 ffr, .int .i64 fto, .int .u64 (finc : Int), .int .u64 (fconn : Int), .int .u64 (pinc : Int), .int .u64 (pconn : Int), .int .u64 (fack : Int), .int .u64 (fseq : Int), .slice AZ body.length cZ] :: Ce w.heap.size 37 #[.int .i64 d, .int .i64 at_, .int .i64 nn] :: Qs) := hs0; exact h.out v W' trivial trivial (by simpa [upB, upd, q25] using hs)
          refine Ee 23 88 0 ?_
          refine Ee 24 110 22 ?_
          refine Eee 25 89 1 111 23 ?_
          refine EC 26 rfl (fun j k W F a b c e f H K h => ?_) ?_
          ·have f109 : F.tmps.getD 109 undef = k 21 := (a 109).trans (by kernel_rfl); have f112 := gE (a 112) (by kernel_rfl) (H 24) (by kernel_rfl); have q21 := (H 21 uE).1; rw [if_neg (by simp [b]), if_pos q21] at f; have hS := f; clear f c b e a H; refine oP rfl ?_; obtain ⟨A2, c3, e2, _⟩ := sep_rwForm (i := 0) hS rfl; have hc3 := cA (i := 1) hS rfl 6 rfl; have hf3 := cFz (i := 1) hS rfl 6; rw [e2] at hS; have hs0 := cS (i := 1) hS rfl 6 (.slice A2 nn2 c3); have hs : ∃ v, Sep w0 (W.setCell ⟨g, 6, none⟩ (.slice A2 nn2 c3)) (Rw 51 10 v nn2 (((fR_ W0).take (jj * 10)) ++ ((fR_ W0).drop ((jj + 1) * 10))) :: Ce g 34 #[.pointer (some ⟨a0, 0, none⟩), .pointer (some ⟨a1, 0, none⟩), .int .u64 (((T.l false).si : Nat) : Int), .int .u64 (((T.l true).si : Nat) : Int), .int .u64 ((T.now false : Nat) : Int), .int .u64 ((T.now true : Nat) : Int), v, v1, .map (some bs), .map (some bt), .int .i64 ((T.n : Nat) : Int), .bool false] :: Ce a0 72 ((T.l false).cells b0) :: BoxT b0 (T.l false).box :: Ce a1 72 ((T.l true).cells b1) :: BoxT b1 (T.l true).box :: RwO 51 10 (.slice (some ⟨bw, ow, none⟩) nl cV) nl (fR_ W0) :: RwO 51 10 v1 W1.length (fR_ W1) :: Bods BB :: MapT bs T.sent :: MapT bt T.told :: By (.slice AZ body.length cZ) body :: Ce (w3.heap.size) 51 #[.int .i64 kind, .int .i64 ffr, .int .i64 fto, .int .u64 (finc : Int), .int .u64 (fconn : Int), .int .u64 (pinc : Int), .int .u64 (pconn : Int), .int .u64 (fack : Int), .int .u64 (fseq : Int), .slice AZ body.length cZ] :: Ce w.heap.size 37 #[.int .i64 d, .int .i64 at_, .int .i64 nn] :: Qs) := ⟨_, hs0⟩; clear hs0; go_simp; exact h.out undef _ trivial trivial (by simpa [upB, upd] using hs)
          exact EN
         ·intro dn xv W hI H; have qe : dn 25 = true := (H 25 (of_decide_eq_true (by kernel_rfl))).1; rw [if_pos qe] at hI; have hS := hI; clear H hI qe; simp only [putAll, Act.put, List.setIfInBounds_toArray, List.set_cons_zero, List.set_cons_succ, Nat.reduceAdd]; obtain ⟨v, hS⟩ := hS; have hS2 := sep_rwoOf (i := 0) hS rfl; have HS6 := Lib.hid (show Sep w0 W (Ce g 34 #[.pointer (some ⟨a0, 0, none⟩), .pointer (some ⟨a1, 0, none⟩), .int .u64 (((T.l false).si : Nat) : Int), .int .u64 (((T.l true).si : Nat) : Int), .int .u64 ((T.now false : Nat) : Int), .int .u64 ((T.now true : Nat) : Int), v, v1, .map (some bs), .map (some bt), .int .i64 ((T.n : Nat) : Int), .bool false] :: Ce a0 72 ((T.l false).cells b0) :: BoxT b0 (T.l false).box :: Ce a1 72 ((T.l true).cells b1) :: BoxT b1 (T.l true).box :: RwO 51 10 v nn2 (((fR_ W0).take (jj * 10)) ++ ((fR_ W0).drop ((jj + 1) * 10))) :: RwO 51 10 v1 W1.length (fR_ W1) :: Bods BB :: MapT bs T.sent :: MapT bt T.told :: By (.slice AZ body.length cZ) body :: Ce (w3.heap.size) 51 #[.int .i64 kind, .int .i64 ffr, .int .i64 fto, .int .u64 (finc : Int), .int .u64 (fconn : Int), .int .u64 (pinc : Int), .int .u64 (pconn : Int), .int .u64 (fack : Int), .int .u64 (fseq : Int), .slice AZ body.length cZ] :: Ce w.heap.size 37 #[.int .i64 d, .int .i64 at_, .int .i64 nn] :: Qs) from (((((((hS2.drop 6)).tF 0 rfl).tF 5 rfl).tF 5 rfl).tF 5 rfl).tF 5 rfl).tF 5 rfl); clear hS hS2 HKW ejk
          go_wp2_with fail
          go_meet
          case rel =>
           rw [← HT0.out, if_neg H3.out]; refine ⟨b0, b1, v, v1, W0.eraseIdx jj, W1, BB, bs, bt, ?_, ?_, ?_, ?_, ?_⟩
           ·rw [map_erase, HQW.out.1]; rfl
           ·exact HQW.out.2.1
           ·exact fun y hy => HQW.out.2.2.1 y (frBods_erase hy)
           ·exact HQW.out.2.2.2
           ·have h9 := HS6.out; have hl9 : nn2 = (W0.eraseIdx jj).length := by
             have e1 := Hnl.out; have e2 := Hn2.out; have e3 := HN2.out; have e4 := (List.getElem?_eq_some_iff.1 HHP.out).1; rw [List.length_eraseIdx, if_pos e4]; omega
            rw [hl9, ← frRow_erase] at h9; exact h9
       case rest =>
        have HA6 := Lib.hid hcut; have kd := HA6.out.q2 0 (v := .int .i64 d) rfl
        by_cases h4 : d = 4
        ·subst h4; have HR4 : Hid (T.act 4 false k = T0.trim) := Lib.hid (by
          have h := act_mid (T := T) (d := 4) (.inr (.inr rfl)) HJW.out HFW.out; dsimp only at h; rw [HT0.out, if_pos rfl] at h; exact h)
         go_wp2_with fail
         go_meet
         case rel => exact ⟨a0, a1, T0, HA6.out.pop.pop.pop, Lib.hid ⟨HR4.out, HO0.out.mono (by omega)⟩⟩
        ·have e4 : (d != 4) = true := by simpa using h4
         have H4 := Lib.hid h4; have HF : Hid (∀ W, TwA a0 a1 w0 W g T0 (By (.slice AZ body.length cZ) body :: Ce (w3.heap.size) 51 #[.int .i64 kind, .int .i64 ffr, .int .i64 fto, .int .u64 (finc : Int), .int .u64 (fconn : Int), .int .u64 (pinc : Int), .int .u64 (pconn : Int), .int .u64 (fack : Int), .int .u64 (fseq : Int), .slice AZ body.length cZ] :: Ce w.heap.size 37 #[.int .i64 d, .int .i64 at_, .int .i64 nn] :: Qs) → W.cell? ⟨w3.heap.size, 0, none⟩ = some (.int .i64 kind) ∧ W.cell? ⟨w3.heap.size, 1, none⟩ = some (.int .i64 ffr) ∧ W.cell? ⟨w3.heap.size, 2, none⟩ = some (.int .i64 fto) ∧ W.cell? ⟨w3.heap.size, 3, none⟩ = some (.int .u64 (finc : Int)) ∧ W.cell? ⟨w3.heap.size, 4, none⟩ = some (.int .u64 (fconn : Int)) ∧ W.cell? ⟨w3.heap.size, 5, none⟩ = some (.int .u64 (pinc : Int)) ∧ W.cell? ⟨w3.heap.size, 6, none⟩ = some (.int .u64 (pconn : Int)) ∧ W.cell? ⟨w3.heap.size, 7, none⟩ = some (.int .u64 (fack : Int)) ∧ W.cell? ⟨w3.heap.size, 8, none⟩ = some (.int .u64 (fseq : Int)) ∧ W.cell? ⟨w3.heap.size, 9, none⟩ = some (.slice AZ body.length cZ)) := Lib.hid (fun W hq => ⟨hq.q1 0 rfl, hq.q1 1 rfl, hq.q1 2 rfl, hq.q1 3 rfl, hq.q1 4 rfl, hq.q1 5 rfl, hq.q1 6 rfl, hq.q1 7 rfl, hq.q1 8 rfl, hq.q1 9 rfl⟩); have HC1 := Lib.hid (fun (W : World) (hS : TwA a0 a1 w0 W g T0 (By (.slice AZ body.length cZ) body :: Ce (w3.heap.size) 51 #[.int .i64 kind, .int .i64 ffr, .int .i64 fto, .int .u64 (finc : Int), .int .u64 (fconn : Int), .int .u64 (pinc : Int), .int .u64 (pconn : Int), .int .u64 (fack : Int), .int .u64 (fseq : Int), .slice AZ body.length cZ] :: Ce w.heap.size 37 #[.int .i64 d, .int .i64 at_, .int .i64 nn] :: Qs)) => show Calls Try.prog 15 #[.pointer (some ⟨a0, 0, none⟩), .int .u64 ((T0.now false : Nat) : Int), .agg #[.int .i64 kind, .int .i64 ffr, .int .i64 fto, .int .u64 (finc : Int), .int .u64 (fconn : Int), .int .u64 (pinc : Int), .int .u64 (pconn : Int), .int .u64 (fack : Int), .int .u64 (fseq : Int), .slice AZ body.length cZ]] W (fun e w' => ∃ v, e = .returned v ∧ MidA a0 a1 v w0 w' g (T0.withL false ((T0.l false).take (T0.now false) fF)) ((T0.l false).takeF (T0.now false) fF) ((T0.l false).takeE (T0.now false) fF) (By (.slice AZ body.length cZ) body :: Ce (w3.heap.size) 51 #[.int .i64 kind, .int .i64 ffr, .int .i64 fto, .int .u64 (finc : Int), .int .u64 (fconn : Int), .int .u64 (pinc : Int), .int .u64 (pconn : Int), .int .u64 (fack : Int), .int .u64 (fseq : Int), .slice AZ body.length cZ] :: Ce w.heap.size 37 #[.int .i64 d, .int .i64 at_, .int .i64 nn] :: Qs)) from by
          have hb := HFO.out; rw [← HfF.out] at hb ⊢; exact takeA0 (f := ⟨kind, ffr, fto, finc, fconn, pinc, pconn, fack, fseq, body⟩) (A := AZ) (c := cZ) hS (reads_by rfl) HO0.out (by omega) (by have := hb.2.2.2.2; unfold maxLen; simp only at this ⊢; omega) (by have := hb.2.2.1; simp only at this ⊢; omega) (by have := hb.2.2.2.1; simp only at this ⊢; omega))
         have HC2 := Lib.hid (fun (W : World) (v : Value) (hS : MidA a0 a1 v w0 W g (T0.withL false ((T0.l false).take (T0.now false) fF)) ((T0.l false).takeF (T0.now false) fF) ((T0.l false).takeE (T0.now false) fF) (By (.slice AZ body.length cZ) body :: Ce (w3.heap.size) 51 #[.int .i64 kind, .int .i64 ffr, .int .i64 fto, .int .u64 (finc : Int), .int .u64 (fconn : Int), .int .u64 (pinc : Int), .int .u64 (pconn : Int), .int .u64 (fack : Int), .int .u64 (fseq : Int), .slice AZ body.length cZ] :: Ce w.heap.size 37 #[.int .i64 d, .int .i64 at_, .int .i64 nn] :: Qs)) => show Calls Try.prog 31 #[.pointer (some ⟨g, 0, none⟩), .int .i64 0, v] W (fun e w' => e = .returned (.tuple #[]) ∧ TwA a0 a1 w0 w' g (T0.take false fF) (By (.slice AZ body.length cZ) body :: Ce (w3.heap.size) 51 #[.int .i64 kind, .int .i64 ffr, .int .i64 fto, .int .u64 (finc : Int), .int .u64 (fconn : Int), .int .u64 (pinc : Int), .int .u64 (pconn : Int), .int .u64 (fack : Int), .int .u64 (fseq : Int), .slice AZ body.length cZ] :: Ce w.heap.size 37 #[.int .i64 d, .int .i64 at_, .int .i64 nn] :: Qs)) from by
          have hn := HO0.out.now false; have hk := takeF_ok (HO0.out.num false) (HO0.out.ids false) (now := T0.now false) (by omega) (f := fF) ⟨HFO.out.1, HFO.out.2.1⟩; exact ansA0 hS (HO0.out.withL false ((HO0.out.num false).take (now := T0.now false) (by omega) fF) (ids_take (HO0.out.ids false) (T0.now false) ⟨HFO.out.1, HFO.out.2.1⟩)) (by omega) (by omega) (by omega))
         clear h4 hcut
         go_wp2_with fail
         refine wRG (fun dn xv W => if dn 16 = true then TwA a0 a1 w0 W g (T0.take false fF) (By (.slice AZ body.length cZ) body :: Ce (w3.heap.size) 51 #[.int .i64 kind, .int .i64 ffr, .int .i64 fto, .int .u64 (finc : Int), .int .u64 (fconn : Int), .int .u64 (pinc : Int), .int .u64 (pconn : Int), .int .u64 (fack : Int), .int .u64 (fseq : Int), .slice AZ body.length cZ] :: Ce w.heap.size 37 #[.int .i64 d, .int .i64 at_, .int .i64 nn] :: Qs) else if dn 15 = true then MidA a0 a1 (xv 15) w0 W g (T0.withL false ((T0.l false).take (T0.now false) fF)) ((T0.l false).takeF (T0.now false) fF) ((T0.l false).takeE (T0.now false) fF) (By (.slice AZ body.length cZ) body :: Ce (w3.heap.size) 51 #[.int .i64 kind, .int .i64 ffr, .int .i64 fto, .int .u64 (finc : Int), .int .u64 (fconn : Int), .int .u64 (pinc : Int), .int .u64 (pconn : Int), .int .u64 (fack : Int), .int .u64 (fseq : Int), .slice AZ body.length cZ] :: Ce w.heap.size 37 #[.int .i64 d, .int .i64 at_, .int .i64 nn] :: Qs) else TwA a0 a1 w0 W g T0 (By (.slice AZ body.length cZ) body :: Ce (w3.heap.size) 51 #[.int .i64 kind, .int .i64 ffr, .int .i64 fto, .int .u64 (finc : Int), .int .u64 (fconn : Int), .int .u64 (pinc : Int), .int .u64 (pconn : Int), .int .u64 (fack : Int), .int .u64 (fseq : Int), .slice AZ body.length cZ] :: Ce w.heap.size 37 #[.int .i64 d, .int .i64 at_, .int .i64 nn] :: Qs)) (fun _ _ => True) [xP_ g 0, xV_ (.int .i64 0), xP_ g 0, xV_ (.int .i64 0), xP_ g 0, xP_ g 0, xP_ g 0, xP_ a0 0, xP_ g 0, xV_ (.int .i64 0), xP_ g 0, xP_ g 4, xP_ g 4, xV_ (.int .u64 ((T0.now false : Nat) : Int)), xV_ (.agg #[.int .i64 kind, .int .i64 ffr, .int .i64 fto, .int .u64 (finc : Int), .int .u64 (fconn : Int), .int .u64 (pinc : Int), .int .u64 (pconn : Int), .int .u64 (fack : Int), .int .u64 (fseq : Int), .slice AZ body.length cZ]), fun v _ => True, fun v _ => True] (fun xv => by simpa using HA6.out.drew) ?_ ?_
         ·refine Ep 1 0 g 0 ?_
          refine Ei 2 4 (.int .i64 0) ?_
          refine Ep 3 0 g 0 ?_
          refine Ei 4 4 (.int .i64 0) ?_
          refine Ee 5 118 2 ?_
          refine Ee 6 120 4 ?_
          refine Eee 7 119 3 121 5 ?_
          refine EC 8 rfl (fun g h W F a b c d e H K f => ?_) ?_
          ·have f122 := gE (a 122) (by kernel_rfl) (H 6) (by kernel_rfl); have q1 := c 15 uE; have q2 := c 16 (uM 15 uE); have hq := e; rw [if_neg (by simp [q2]), if_neg (by simp [q1])] at hq; have kk := hq.l0; clear H c b d a; refine oP rfl ?_; go_simp; exact f.out _ _ rfl trivial e
          refine Ep 9 0 g 0 ?_
          refine Ei 10 4 (.int .i64 0) ?_
          refine Ee 11 124 8 ?_
          refine Ee 12 126 10 ?_
          refine Eee 13 125 9 127 11 ?_
          refine EC 14 rfl (fun g h W F a b c d e H K f => ?_) ?_
          ·have f128 := gE (a 128) (by kernel_rfl) (H 12) (by kernel_rfl); have q1 := c 15 uE; have q2 := c 16 (uM 15 uE); have hq := e; rw [if_neg (by simp [q2]), if_neg (by simp [q1])] at hq; have kk := hq.t0; clear H c b d a; refine oP rfl ?_; go_simp; exact f.out _ _ rfl trivial e
          refine EC 15 rfl (fun g h W F a b c d e H K f => ?_) ?_
          ·have f7 : F.tmps.getD 7 undef = .pointer (some ⟨w3.heap.size, 0, none⟩) := (a 7).trans (by kernel_rfl); have q1 := c 15 uE; have q2 := c 16 (uM 15 uE); have hq := e; rw [if_neg (by simp [q2]), if_neg (by simp [q1])] at hq; obtain ⟨kf0, kf1, kf2, kf3, kf4, kf5, kf6, kf7, kf8, kf9⟩ := HF.out W hq; clear H c b d a; refine oP rfl ?_; go_simp; exact f.out _ _ rfl trivial e
          refine EC 16 rfl (fun h i W F a b c d f H K g => ?_) ?_
          ·have f123 := gE (a 123) (by kernel_rfl) (H 7) (by kernel_rfl); have f129 := gE (a 129) (by kernel_rfl) (H 13) (by kernel_rfl); have f130 := gE (a 130) (by kernel_rfl) (H 14) (by kernel_rfl); have q16 := c 16 uE; rw [if_neg (by simp [q16]), if_neg (by simp [b])] at f; have hS := f; clear f c b d a H; refine oP rfl ?_; go_simp; refine (HC1.out W hS).mono ?_; rintro e W' ⟨v, rfl, hs⟩; exact g.out v W' trivial trivial (by simpa [upB, upd, q16] using hs)
          refine EC 17 rfl (fun h i W F a b c d f H K g => ?_) ?_
          ·have f116 := gE (a 116) (by kernel_rfl) (H 0) (by kernel_rfl); have f117 := gE (a 117) (by kernel_rfl) (H 1) (by kernel_rfl); have f131 : F.tmps.getD 131 undef = i 15 := (a 131).trans (by kernel_rfl); have q15 := (H 15 uE).1; rw [if_neg (by simp [b]), if_pos q15] at f; have hS := f; clear f c b d a H; refine oP rfl ?_; go_simp; refine (HC2.out W _ hS).mono ?_; rintro e W' ⟨rfl, hs⟩; exact g.out _ W' trivial trivial (by simpa [upB, upd] using hs)
          exact EN
         ·intro dn xv W hI H; have qe : dn 16 = true := (H 16 (of_decide_eq_true (by kernel_rfl))).1; rw [if_pos qe] at hI; have hS := hI; clear H hI qe; simp only [putAll, Act.put, List.setIfInBounds_toArray, List.set_cons_zero, List.set_cons_succ, Nat.reduceAdd]
          go_wp2_with fail
          go_meet
          case rel => exact ⟨a0, a1, _, hS.pop.pop.pop, Lib.hid ⟨by rw [act_mid H234.out HJW.out HFW.out, HT0.out]; simp only; rw [if_neg H4.out], (HO0.out.take (by omega) false HFO.out).mono (by omega)⟩⟩
    ·have e2 : (d == 2) = false := by simp; omega
     have e3 : (d == 3) = false := by simp; omega
     have e4 : (d == 4) = false := by simp; omega
     by_cases h5 : d = 5
     ·subst h5
      go_wp2_with fail
      refine (lifeA0 HA.out hO (by omega)).mono ?_; rintro e w2 ⟨rfl, a, h2⟩; have HA2 := Lib.hid h2; clear h2
      go_wp2_with fail
      go_meet
      case rel => exact ⟨_, _, _, HA2.out, Lib.hid ⟨by rw [TW.act, if_neg (by decide), if_neg (by decide), if_neg (by decide), if_pos rfl], (hO.life false).mono (by omega)⟩⟩
     ·have e5 : (d == 5) = false := by simpa using h5
      go_wp2_with fail
      go_meet
      case rel => exact ⟨a0, a1, T, HA.out, Lib.hid ⟨by rw [TW.act, if_neg h0, if_neg h1, if_neg h234, if_neg h5], hO.mono (by omega)⟩⟩
 case rest =>
  obtain ⟨c0, c1, T1, hA, HR⟩ := hcut; have HA1 := Lib.hid (show TwA c0 c1 w0 wc g (T1.trimTo 0) Qs by rw [trimTo_0]; exact hA); clear hA HA HAB HSB k0 k1 k2 hO
  go_wp2_with fail
  go_loopw [8] (fun iv wr => ∃ m : Nat, m ≤ 2 ∧ iv = .int .i64 (m : Int) ∧ Hid (TwA c0 c1 w0 wr g (T1.trimTo m) Qs)) (fun iv _ => 2 - (intOf iv).toNat)
  case atStart => exact ⟨0, by omega, rfl, HA1⟩
  case round =>
   obtain ⟨m, hm, rfl, HM⟩ := hrel
   rcases (show m = 0 ∨ m = 1 ∨ m = 2 by omega) with e | e | e
   ·subst e; obtain ⟨b0, b1, v0, v1, W0, W1, BB, bs, bt, q1, q2, q3, q4, h⟩ := HM.out; obtain ⟨AV, cV, hv, hcV, hcV2, _⟩ := sep_rwoForm (i := 5) h rfl; subst hv; obtain ⟨nl, Hnl⟩ : ∃ y, Hid (W0.length = y) := ⟨_, Lib.hid rfl⟩; rw [Hnl.out] at hcV; have HS2 := Lib.hid (show Sep w0 wr (Ce g 34 #[.pointer (some ⟨c0, 0, none⟩), .pointer (some ⟨c1, 0, none⟩), .int .u64 ((((T1.trimTo 0).l false).si : Nat) : Int), .int .u64 ((((T1.trimTo 0).l true).si : Nat) : Int), .int .u64 (((T1.trimTo 0).now false : Nat) : Int), .int .u64 (((T1.trimTo 0).now true : Nat) : Int), .slice AV nl cV, v1, .map (some bs), .map (some bt), .int .i64 (((T1.trimTo 0).n : Nat) : Int), .bool false] :: (Ce c0 72 (((T1.trimTo 0).l false).cells b0) :: BoxT b0 ((T1.trimTo 0).l false).box :: Ce c1 72 (((T1.trimTo 0).l true).cells b1) :: BoxT b1 ((T1.trimTo 0).l true).box :: RwO 51 10 (.slice AV nl cV) nl (fR_ W0) :: RwO 51 10 v1 W1.length (fR_ W1) :: Bods BB :: MapT bs (T1.trimTo 0).sent :: MapT bt (T1.trimTo 0).told :: Qs)) by rw [← Hnl.out]; exact h); have HQ := Lib.hid (And.intro q1 (And.intro q2 (And.intro q3 q4))); have hnl : nl = ((T1.trimTo 0).way false).length := by rw [← Hnl.out, ← q1, List.length_map]
    have hnb : nl ≤ B + 20 := by rw [hnl]; exact HR.out.2.way false
    have HNL := Lib.hid hnl; clear h q1 q2 q3 q4 hnl; have kk := cA (i := 0) HS2.out rfl 6 rfl
    by_cases h3 : 300 < nl
    ·have e3 : decide (300 < (nl : Int)) = true := by simp; omega
     obtain ⟨nd, Hnd⟩ : ∃ y, Hid (nl - 300 = y) := ⟨_, Lib.hid rfl⟩; have hnd : nd ≤ nl := by rw [← Hnd.out]; omega
     have esub : IntKind.i64.wrap ((nl : Int) - 300) = (nd : Int) := by rw [IntKind.wrap_i64]; have := Hnd.out; omega
     obtain ⟨SA, HSA⟩ : ∃ y, Hid ((if cV = nd then AV else AV.map (·.add (nd * 10))) = y) := ⟨_, Lib.hid rfl⟩; obtain ⟨sn, Hsn⟩ : ∃ y, Hid (nl - nd = y) := ⟨_, Lib.hid rfl⟩; obtain ⟨sc, Hsc⟩ : ∃ y, Hid (cV - nd = y) := ⟨_, Lib.hid rfl⟩; have HRS : Hid (∀ W, (Instr.slice 30 (.slice AV nl cV) (some (.int .i64 (nd : Int))) none none).run Try.prog W = .ok (.slice SA sn sc) W) := Lib.hid (fun W => by rw [run_fromF W AV nl cV nd hnd, HSA.out, Hsn.out, Hsc.out]); have HPUT : Hid (∀ W, Sep w0 W (Ce g 34 #[.pointer (some ⟨c0, 0, none⟩), .pointer (some ⟨c1, 0, none⟩), .int .u64 ((((T1.trimTo 0).l false).si : Nat) : Int), .int .u64 ((((T1.trimTo 0).l true).si : Nat) : Int), .int .u64 (((T1.trimTo 0).now false : Nat) : Int), .int .u64 (((T1.trimTo 0).now true : Nat) : Int), .slice AV nl cV, v1, .map (some bs), .map (some bt), .int .i64 (((T1.trimTo 0).n : Nat) : Int), .bool false] :: (Ce c0 72 (((T1.trimTo 0).l false).cells b0) :: BoxT b0 ((T1.trimTo 0).l false).box :: Ce c1 72 (((T1.trimTo 0).l true).cells b1) :: BoxT b1 ((T1.trimTo 0).l true).box :: RwO 51 10 (.slice AV nl cV) nl (fR_ W0) :: RwO 51 10 v1 W1.length (fR_ W1) :: Bods BB :: MapT bs (T1.trimTo 0).sent :: MapT bt (T1.trimTo 0).told :: Qs)) → Sep w0 (W.setCell ⟨g, 6, none⟩ (.slice SA sn sc)) (Ce g 34 #[.pointer (some ⟨c0, 0, none⟩), .pointer (some ⟨c1, 0, none⟩), .int .u64 ((((T1.trimTo 0).l false).si : Nat) : Int), .int .u64 ((((T1.trimTo 0).l true).si : Nat) : Int), .int .u64 (((T1.trimTo 0).now false : Nat) : Int), .int .u64 (((T1.trimTo 0).now true : Nat) : Int), .slice SA sn sc, v1, .map (some bs), .map (some bt), .int .i64 (((T1.trimTo 0).n : Nat) : Int), .bool false] :: (Ce c0 72 (((T1.trimTo 0).l false).cells b0) :: BoxT b0 ((T1.trimTo 0).l false).box :: Ce c1 72 (((T1.trimTo 0).l true).cells b1) :: BoxT b1 ((T1.trimTo 0).l true).box :: RwO 51 10 (.slice SA sn sc) sn ((fR_ W0).drop (nd * 10)) :: RwO 51 10 v1 W1.length (fR_ W1) :: Bods BB :: MapT bs (T1.trimTo 0).sent :: MapT bt (T1.trimTo 0).told :: Qs))) := Lib.hid (fun W hS => by
      have h1 := sep_rwoFrom (i := 5) (cS (i := 0) hS rfl 6 (.slice SA sn sc)) rfl hnd; rw [HSA.out, Hsn.out, Hsc.out] at h1; exact h1)
     clear hnd
     go_wp2_with fail
     refine wRG (fun dn xv W => if dn 14 = true then Sep w0 W (Ce g 34 #[.pointer (some ⟨c0, 0, none⟩), .pointer (some ⟨c1, 0, none⟩), .int .u64 ((((T1.trimTo 0).l false).si : Nat) : Int), .int .u64 ((((T1.trimTo 0).l true).si : Nat) : Int), .int .u64 (((T1.trimTo 0).now false : Nat) : Int), .int .u64 (((T1.trimTo 0).now true : Nat) : Int), .slice SA sn sc, v1, .map (some bs), .map (some bt), .int .i64 (((T1.trimTo 0).n : Nat) : Int), .bool false] :: (Ce c0 72 (((T1.trimTo 0).l false).cells b0) :: BoxT b0 ((T1.trimTo 0).l false).box :: Ce c1 72 (((T1.trimTo 0).l true).cells b1) :: BoxT b1 ((T1.trimTo 0).l true).box :: RwO 51 10 (.slice SA sn sc) sn ((fR_ W0).drop (nd * 10)) :: RwO 51 10 v1 W1.length (fR_ W1) :: Bods BB :: MapT bs (T1.trimTo 0).sent :: MapT bt (T1.trimTo 0).told :: Qs)) else Sep w0 W (Ce g 34 #[.pointer (some ⟨c0, 0, none⟩), .pointer (some ⟨c1, 0, none⟩), .int .u64 ((((T1.trimTo 0).l false).si : Nat) : Int), .int .u64 ((((T1.trimTo 0).l true).si : Nat) : Int), .int .u64 (((T1.trimTo 0).now false : Nat) : Int), .int .u64 (((T1.trimTo 0).now true : Nat) : Int), .slice AV nl cV, v1, .map (some bs), .map (some bt), .int .i64 (((T1.trimTo 0).n : Nat) : Int), .bool false] :: (Ce c0 72 (((T1.trimTo 0).l false).cells b0) :: BoxT b0 ((T1.trimTo 0).l false).box :: Ce c1 72 (((T1.trimTo 0).l true).cells b1) :: BoxT b1 ((T1.trimTo 0).l true).box :: RwO 51 10 (.slice AV nl cV) nl (fR_ W0) :: RwO 51 10 v1 W1.length (fR_ W1) :: Bods BB :: MapT bs (T1.trimTo 0).sent :: MapT bt (T1.trimTo 0).told :: Qs))) (fun _ _ => True) [xP_ g 0, xV_ (.int .i64 0), xP_ g 0, xV_ (.int .i64 0), xP_ g 0, xP_ g 6, xP_ g 6, xV_ (.slice AV nl cV), xV_ (.int .i64 (nl : Int)), xV_ (.int .i64 (nd : Int)), xV_ (.slice SA sn sc), xP_ g 0, xP_ g 6, xP_ g 6, fun v _ => True] (fun xv => by simpa using HS2.out.drew) ?_ ?_
     ·refine Ep 1 0 g 0 ?_
      refine Ei 2 8 (.int .i64 0) ?_
      refine Ep 3 0 g 0 ?_
      refine Ei 4 8 (.int .i64 0) ?_
      refine Ee 5 153 2 ?_
      refine Ee 6 155 4 ?_
      refine Eee 7 154 3 156 5 ?_
      refine EC 8 rfl (fun g h W F a b c d e H K f => ?_) ?_
      ·have f157 := gE (a 157) (by kernel_rfl) (H 6) (by kernel_rfl); have q14 := c 14 (uM 10 uE); have hq := e; rw [if_neg (by simp [q14])] at hq; have kk := cA (i := 0) hq rfl 6 rfl; clear H c b d a; refine oP rfl ?_; go_simp; exact f.out _ _ rfl trivial e
      refine Ei 9 9 (.int .i64 (nl : Int)) ?_
      refine Ee 10 159 8 ?_
      refine Eeek 11 158 7 160 9 (fun _ _ W _ => HRS.out W) ?_
      refine Ee 12 151 0 ?_
      refine Ee 13 162 11 ?_
      refine Eee 14 152 1 163 12 ?_
      refine EC 15 rfl (fun h j W F a b c d e H K f => ?_) ?_
      ·have f161 := gE (a 161) (by kernel_rfl) (H 10) (by kernel_rfl); have f164 := gE (a 164) (by kernel_rfl) (H 13) (by kernel_rfl); rw [if_neg (by simp [b])] at e; have hS := e; clear e c b d a H; refine oP rfl ?_; have yy := cFz (i := 0) hS rfl 6; have kk := cA (i := 0) hS rfl 6 rfl; have hs : Sep w0 (W.setCell ⟨g, 6, none⟩ (.slice SA sn sc)) (Ce g 34 #[.pointer (some ⟨c0, 0, none⟩), .pointer (some ⟨c1, 0, none⟩), .int .u64 ((((T1.trimTo 0).l false).si : Nat) : Int), .int .u64 ((((T1.trimTo 0).l true).si : Nat) : Int), .int .u64 (((T1.trimTo 0).now false : Nat) : Int), .int .u64 (((T1.trimTo 0).now true : Nat) : Int), .slice SA sn sc, v1, .map (some bs), .map (some bt), .int .i64 (((T1.trimTo 0).n : Nat) : Int), .bool false] :: (Ce c0 72 (((T1.trimTo 0).l false).cells b0) :: BoxT b0 ((T1.trimTo 0).l false).box :: Ce c1 72 (((T1.trimTo 0).l true).cells b1) :: BoxT b1 ((T1.trimTo 0).l true).box :: RwO 51 10 (.slice SA sn sc) sn ((fR_ W0).drop (nd * 10)) :: RwO 51 10 v1 W1.length (fR_ W1) :: Bods BB :: MapT bs (T1.trimTo 0).sent :: MapT bt (T1.trimTo 0).told :: Qs)) := HPUT.out W hS; go_simp; exact f.out undef _ trivial trivial (by simpa [upB, upd] using hs)
      exact EN
     ·intro dn xv W hI H; have qe : dn 14 = true := (H 14 (of_decide_eq_true (by kernel_rfl))).1; rw [if_pos qe] at hI; have hS := hI; clear H hI qe; simp only [putAll, Act.put, List.setIfInBounds_toArray, List.set_cons_zero, List.set_cons_succ, Nat.reduceAdd]; have HS3 := Lib.hid hS; clear hS
      go_wp2_with fail
      go_roundw
      case rel =>
       refine ⟨1, by omega, rfl, Lib.hid ⟨b0, b1, .slice SA sn sc, v1, W0.drop nd, W1, BB, bs, bt, ?_, ?_, ?_, ?_, ?_⟩⟩
       ·rw [List.map_drop, HQ.out.1]; exact trim_nd T1 false HNL.out Hnd.out
       ·exact HQ.out.2.1
       ·exact fun y hy => HQ.out.2.2.1 y (frBods_drop hy)
       ·exact HQ.out.2.2.2
       ·have h1 := HS3.out; rw [← frRow_drop, show sn = (W0.drop nd).length by rw [List.length_drop, Hnl.out, Hsn.out]] at h1; rw [show sn = (W0.drop nd).length by rw [List.length_drop, Hnl.out, Hsn.out]]; exact h1
      case measure => simp [intOf]
    ·have e3 : decide (300 < (nl : Int)) = false := by simp; omega
     have HM2 : Hid (TwA c0 c1 w0 wr g (T1.trimTo 1) Qs) := Lib.hid (by
      rw [trimTo_step0 T1 (by have h4 := HNL.out; rw [show (T1.trimTo 0).way false = T1.way false by simp [TW.trimTo]] at h4; omega)]; exact HM.out)
     go_wp2_with fail
     go_roundw
     case rel => exact ⟨1, by omega, rfl, HM2⟩
     case measure => simp [intOf]
   ·subst e; obtain ⟨b0, b1, v0, v1, W0, W1, BB, bs, bt, q1, q2, q3, q4, h⟩ := HM.out; obtain ⟨AV, cV, hv, hcV, hcV2, _⟩ := sep_rwoForm (i := 6) h rfl; subst hv; obtain ⟨nl, Hnl⟩ : ∃ y, Hid (W1.length = y) := ⟨_, Lib.hid rfl⟩; rw [Hnl.out] at hcV; have HS2 := Lib.hid (show Sep w0 wr (Ce g 34 #[.pointer (some ⟨c0, 0, none⟩), .pointer (some ⟨c1, 0, none⟩), .int .u64 ((((T1.trimTo 1).l false).si : Nat) : Int), .int .u64 ((((T1.trimTo 1).l true).si : Nat) : Int), .int .u64 (((T1.trimTo 1).now false : Nat) : Int), .int .u64 (((T1.trimTo 1).now true : Nat) : Int), v0, .slice AV nl cV, .map (some bs), .map (some bt), .int .i64 (((T1.trimTo 1).n : Nat) : Int), .bool false] :: (Ce c0 72 (((T1.trimTo 1).l false).cells b0) :: BoxT b0 ((T1.trimTo 1).l false).box :: Ce c1 72 (((T1.trimTo 1).l true).cells b1) :: BoxT b1 ((T1.trimTo 1).l true).box :: RwO 51 10 v0 W0.length (fR_ W0) :: RwO 51 10 (.slice AV nl cV) nl (fR_ W1) :: Bods BB :: MapT bs (T1.trimTo 1).sent :: MapT bt (T1.trimTo 1).told :: Qs)) by rw [← Hnl.out]; exact h); have HQ := Lib.hid (And.intro q1 (And.intro q2 (And.intro q3 q4))); have hnl : nl = ((T1.trimTo 1).way true).length := by rw [← Hnl.out, ← q2, List.length_map]
    have hnb : nl ≤ B + 20 := by rw [hnl]; exact HR.out.2.way true
    have HNL := Lib.hid hnl; clear h q1 q2 q3 q4 hnl; have kk := cA (i := 0) HS2.out rfl 7 rfl
    by_cases h3 : 300 < nl
    ·have e3 : decide (300 < (nl : Int)) = true := by simp; omega
     obtain ⟨nd, Hnd⟩ : ∃ y, Hid (nl - 300 = y) := ⟨_, Lib.hid rfl⟩; have hnd : nd ≤ nl := by rw [← Hnd.out]; omega
     have esub : IntKind.i64.wrap ((nl : Int) - 300) = (nd : Int) := by rw [IntKind.wrap_i64]; have := Hnd.out; omega
     obtain ⟨SA, HSA⟩ : ∃ y, Hid ((if cV = nd then AV else AV.map (·.add (nd * 10))) = y) := ⟨_, Lib.hid rfl⟩; obtain ⟨sn, Hsn⟩ : ∃ y, Hid (nl - nd = y) := ⟨_, Lib.hid rfl⟩; obtain ⟨sc, Hsc⟩ : ∃ y, Hid (cV - nd = y) := ⟨_, Lib.hid rfl⟩; have HRS : Hid (∀ W, (Instr.slice 30 (.slice AV nl cV) (some (.int .i64 (nd : Int))) none none).run Try.prog W = .ok (.slice SA sn sc) W) := Lib.hid (fun W => by rw [run_fromF W AV nl cV nd hnd, HSA.out, Hsn.out, Hsc.out]); have HPUT : Hid (∀ W, Sep w0 W (Ce g 34 #[.pointer (some ⟨c0, 0, none⟩), .pointer (some ⟨c1, 0, none⟩), .int .u64 ((((T1.trimTo 1).l false).si : Nat) : Int), .int .u64 ((((T1.trimTo 1).l true).si : Nat) : Int), .int .u64 (((T1.trimTo 1).now false : Nat) : Int), .int .u64 (((T1.trimTo 1).now true : Nat) : Int), v0, .slice AV nl cV, .map (some bs), .map (some bt), .int .i64 (((T1.trimTo 1).n : Nat) : Int), .bool false] :: (Ce c0 72 (((T1.trimTo 1).l false).cells b0) :: BoxT b0 ((T1.trimTo 1).l false).box :: Ce c1 72 (((T1.trimTo 1).l true).cells b1) :: BoxT b1 ((T1.trimTo 1).l true).box :: RwO 51 10 v0 W0.length (fR_ W0) :: RwO 51 10 (.slice AV nl cV) nl (fR_ W1) :: Bods BB :: MapT bs (T1.trimTo 1).sent :: MapT bt (T1.trimTo 1).told :: Qs)) → Sep w0 (W.setCell ⟨g, 7, none⟩ (.slice SA sn sc)) (Ce g 34 #[.pointer (some ⟨c0, 0, none⟩), .pointer (some ⟨c1, 0, none⟩), .int .u64 ((((T1.trimTo 1).l false).si : Nat) : Int), .int .u64 ((((T1.trimTo 1).l true).si : Nat) : Int), .int .u64 (((T1.trimTo 1).now false : Nat) : Int), .int .u64 (((T1.trimTo 1).now true : Nat) : Int), v0, .slice SA sn sc, .map (some bs), .map (some bt), .int .i64 (((T1.trimTo 1).n : Nat) : Int), .bool false] :: (Ce c0 72 (((T1.trimTo 1).l false).cells b0) :: BoxT b0 ((T1.trimTo 1).l false).box :: Ce c1 72 (((T1.trimTo 1).l true).cells b1) :: BoxT b1 ((T1.trimTo 1).l true).box :: RwO 51 10 v0 W0.length (fR_ W0) :: RwO 51 10 (.slice SA sn sc) sn ((fR_ W1).drop (nd * 10)) :: Bods BB :: MapT bs (T1.trimTo 1).sent :: MapT bt (T1.trimTo 1).told :: Qs))) := Lib.hid (fun W hS => by
      have h1 := sep_rwoFrom (i := 6) (cS (i := 0) hS rfl 7 (.slice SA sn sc)) rfl hnd; rw [HSA.out, Hsn.out, Hsc.out] at h1; exact h1)
     clear hnd
     go_wp2_with fail
     refine wRG (fun dn xv W => if dn 14 = true then Sep w0 W (Ce g 34 #[.pointer (some ⟨c0, 0, none⟩), .pointer (some ⟨c1, 0, none⟩), .int .u64 ((((T1.trimTo 1).l false).si : Nat) : Int), .int .u64 ((((T1.trimTo 1).l true).si : Nat) : Int), .int .u64 (((T1.trimTo 1).now false : Nat) : Int), .int .u64 (((T1.trimTo 1).now true : Nat) : Int), v0, .slice SA sn sc, .map (some bs), .map (some bt), .int .i64 (((T1.trimTo 1).n : Nat) : Int), .bool false] :: (Ce c0 72 (((T1.trimTo 1).l false).cells b0) :: BoxT b0 ((T1.trimTo 1).l false).box :: Ce c1 72 (((T1.trimTo 1).l true).cells b1) :: BoxT b1 ((T1.trimTo 1).l true).box :: RwO 51 10 v0 W0.length (fR_ W0) :: RwO 51 10 (.slice SA sn sc) sn ((fR_ W1).drop (nd * 10)) :: Bods BB :: MapT bs (T1.trimTo 1).sent :: MapT bt (T1.trimTo 1).told :: Qs)) else Sep w0 W (Ce g 34 #[.pointer (some ⟨c0, 0, none⟩), .pointer (some ⟨c1, 0, none⟩), .int .u64 ((((T1.trimTo 1).l false).si : Nat) : Int), .int .u64 ((((T1.trimTo 1).l true).si : Nat) : Int), .int .u64 (((T1.trimTo 1).now false : Nat) : Int), .int .u64 (((T1.trimTo 1).now true : Nat) : Int), v0, .slice AV nl cV, .map (some bs), .map (some bt), .int .i64 (((T1.trimTo 1).n : Nat) : Int), .bool false] :: (Ce c0 72 (((T1.trimTo 1).l false).cells b0) :: BoxT b0 ((T1.trimTo 1).l false).box :: Ce c1 72 (((T1.trimTo 1).l true).cells b1) :: BoxT b1 ((T1.trimTo 1).l true).box :: RwO 51 10 v0 W0.length (fR_ W0) :: RwO 51 10 (.slice AV nl cV) nl (fR_ W1) :: Bods BB :: MapT bs (T1.trimTo 1).sent :: MapT bt (T1.trimTo 1).told :: Qs))) (fun _ _ => True) [xP_ g 0, xV_ (.int .i64 1), xP_ g 0, xV_ (.int .i64 1), xP_ g 0, xP_ g 6, xP_ g 7, xV_ (.slice AV nl cV), xV_ (.int .i64 (nl : Int)), xV_ (.int .i64 (nd : Int)), xV_ (.slice SA sn sc), xP_ g 0, xP_ g 6, xP_ g 7, fun v _ => True] (fun xv => by simpa using HS2.out.drew) ?_ ?_
     ·refine Ep 1 0 g 0 ?_
      refine Ei 2 8 (.int .i64 1) ?_
      refine Ep 3 0 g 0 ?_
      refine Ei 4 8 (.int .i64 1) ?_
      refine Ee 5 153 2 ?_
      refine Ee 6 155 4 ?_
      refine Eee 7 154 3 156 5 ?_
      refine EC 8 rfl (fun g h W F a b c d e H K f => ?_) ?_
      ·have f157 := gE (a 157) (by kernel_rfl) (H 6) (by kernel_rfl); have q14 := c 14 (uM 10 uE); have hq := e; rw [if_neg (by simp [q14])] at hq; have kk := cA (i := 0) hq rfl 7 rfl; clear H c b d a; refine oP rfl ?_; go_simp; exact f.out _ _ rfl trivial e
      refine Ei 9 9 (.int .i64 (nl : Int)) ?_
      refine Ee 10 159 8 ?_
      refine Eeek 11 158 7 160 9 (fun _ _ W _ => HRS.out W) ?_
      refine Ee 12 151 0 ?_
      refine Ee 13 162 11 ?_
      refine Eee 14 152 1 163 12 ?_
      refine EC 15 rfl (fun h j W F a b c d e H K f => ?_) ?_
      ·have f161 := gE (a 161) (by kernel_rfl) (H 10) (by kernel_rfl); have f164 := gE (a 164) (by kernel_rfl) (H 13) (by kernel_rfl); rw [if_neg (by simp [b])] at e; have hS := e; clear e c b d a H; refine oP rfl ?_; have yy := cFz (i := 0) hS rfl 7; have kk := cA (i := 0) hS rfl 7 rfl; have hs : Sep w0 (W.setCell ⟨g, 7, none⟩ (.slice SA sn sc)) (Ce g 34 #[.pointer (some ⟨c0, 0, none⟩), .pointer (some ⟨c1, 0, none⟩), .int .u64 ((((T1.trimTo 1).l false).si : Nat) : Int), .int .u64 ((((T1.trimTo 1).l true).si : Nat) : Int), .int .u64 (((T1.trimTo 1).now false : Nat) : Int), .int .u64 (((T1.trimTo 1).now true : Nat) : Int), v0, .slice SA sn sc, .map (some bs), .map (some bt), .int .i64 (((T1.trimTo 1).n : Nat) : Int), .bool false] :: (Ce c0 72 (((T1.trimTo 1).l false).cells b0) :: BoxT b0 ((T1.trimTo 1).l false).box :: Ce c1 72 (((T1.trimTo 1).l true).cells b1) :: BoxT b1 ((T1.trimTo 1).l true).box :: RwO 51 10 v0 W0.length (fR_ W0) :: RwO 51 10 (.slice SA sn sc) sn ((fR_ W1).drop (nd * 10)) :: Bods BB :: MapT bs (T1.trimTo 1).sent :: MapT bt (T1.trimTo 1).told :: Qs)) := HPUT.out W hS; go_simp; exact f.out undef _ trivial trivial (by simpa [upB, upd] using hs)
      exact EN
     ·intro dn xv W hI H; have qe : dn 14 = true := (H 14 (of_decide_eq_true (by kernel_rfl))).1; rw [if_pos qe] at hI; have hS := hI; clear H hI qe; simp only [putAll, Act.put, List.setIfInBounds_toArray, List.set_cons_zero, List.set_cons_succ, Nat.reduceAdd]; have HS3 := Lib.hid hS; clear hS
      go_wp2_with fail
      go_roundw
      case rel =>
       refine ⟨2, by omega, rfl, Lib.hid ⟨b0, b1, v0, .slice SA sn sc, W0, W1.drop nd, BB, bs, bt, ?_, ?_, ?_, ?_, ?_⟩⟩
       ·exact HQ.out.1
       ·rw [List.map_drop, HQ.out.2.1]; exact trim_nd T1 true HNL.out Hnd.out
       ·exact HQ.out.2.2.1
       ·exact fun y hy => HQ.out.2.2.2 y (frBods_drop hy)
       ·have h1 := HS3.out; rw [← frRow_drop, show sn = (W1.drop nd).length by rw [List.length_drop, Hnl.out, Hsn.out]] at h1; rw [show sn = (W1.drop nd).length by rw [List.length_drop, Hnl.out, Hsn.out]]; exact h1
      case measure => simp [intOf]
    ·have e3 : decide (300 < (nl : Int)) = false := by simp; omega
     have HM2 : Hid (TwA c0 c1 w0 wr g (T1.trimTo 2) Qs) := Lib.hid (by
      rw [trimTo_step1 T1 (by have h4 := HNL.out; rw [show (T1.trimTo 1).way true = T1.way true by simp [TW.trimTo]] at h4; omega)]; exact HM.out)
     go_wp2_with fail
     go_roundw
     case rel => exact ⟨2, by omega, rfl, HM2⟩
     case measure => simp [intOf]
   ·subst e
    go_wp2_with fail
    go_end0
    refine ⟨rfl, false, k, c0, c1, ?_, ?_⟩
    ·rw [HR.out.1, ← trimTo_2]; exact HM.out
    ·rw [HR.out.1]; exact HR.out.2.trim
set_option maxHeartbeats 6400000 in
theorem act1 {w0 w : World} {Qs : List SP} {g a0 a1 B : Nat} {T : TW} (h : TwA a0 a1 w0 w g T Qs) (hO : T.Ok B) (hB : B ≤ 1000000) (d at_ nn : Int) (heb : bits .and .i64 at_ 1 = 1) :
  Calls Try.prog 10 #[.pointer (some ⟨g, 0, none⟩), .agg #[.int .i64 d, .int .i64 at_, .int .i64 nn]] w fun e w' => e = .returned (.tuple #[]) ∧ ActP w0 w' g T d Qs B := by
 obtain ⟨k, hk, hk2⟩ := and_low nn 65535 (by omega); have ek : bits .and .i64 nn 65535 = (k : Int) := hk2; have HSB := Lib.hid (sep_ce (Sep.nil w) #[.int .i64 d, .int .i64 at_, .int .i64 nn] 37); have HA := Lib.hid (h.grow ((Below.refl _ _).alloc (Nat.le_refl _) (.cells #[.int .i64 d, .int .i64 at_, .int .i64 nn] 37))); have HAB := Lib.hid (h.ce #[.int .i64 d, .int .i64 at_, .int .i64 nn] 37); have k0 := cA (i := 0) HSB.out rfl 0 rfl; have k1 := cA (i := 0) HSB.out rfl 1 rfl; have k2 := cA (i := 0) HSB.out rfl 2 rfl; clear h hk2; have ei : bits .and .i64 at_ 1 = 1 := heb; go_enter Try.func10, Try.ntmps10
 go_upto_block 0 with fail
 go_cut [6, 7] from 18 to 137 (fun u6 u7 wx => ∃ b0 b1 T1, TwA b0 b1 w0 wx g T1 Qs ∧ Hid (T.act d true k = T1.trim ∧ T1.Ok (B + 20)))
 case first =>
  clear k1 k2
  by_cases h0 : d = 0
  ·subst h0; have HB0 := Lib.hid k0; obtain ⟨kq, Hkq⟩ : ∃ x, Hid (k % 4 = x) := ⟨_, Lib.hid rfl⟩; have hkq : kq ≤ 3 := by rw [← Hkq.out]; omega
   have e3 : bits .and .i64 (k : Int) 3 = (kq : Int) := by rw [and_3 k (by omega), Hkq.out]
   have hnow := hO.now true; have ew1 : IntKind.u64.wrap (kq : Int) = (kq : Int) := u64_wrapG (by omega) (by omega); have ew2 : IntKind.u64.wrap (((T.now true : Nat) : Int) + (kq : Int)) = ((T.now true : Nat) : Int) + (kq : Int) := u64_wrapG (by omega) (by omega); clear hnow
   go_wp2_with fail
   refine wRG (fun dn xv W => if dn 13 = true then TwA a0 a1 w0 W g (T.later true kq) Qs else TwA a0 a1 w0 W g T Qs) (fun _ _ => True) [xP_ g 0, xV_ (.int .i64 1), xP_ g 0, xP_ g 4, xP_ g 5, xV_ (.int .u64 ((T.now true : Nat) : Int)), xV_ (.int .i64 (k : Int)), xV_ (.int .i64 (kq : Int)), xV_ (.int .u64 (kq : Int)), xV_ (.int .u64 ((T.now true : Nat) + (kq : Nat) : Int)), xP_ g 0, xP_ g 4, xP_ g 5, fun v _ => True] (fun xv => by simpa using HA.out.drew) ?_ ?_
   ·refine Ep 1 0 g 0 ?_
    refine Ei 2 4 (.int .i64 1) ?_
    refine Ee 3 20 0 ?_
    refine Ee 4 22 2 ?_
    refine Eee 5 21 1 23 3 ?_
    refine EC 6 rfl (fun g h W F a b c d e H K f => ?_) ?_
    ·have f24 := gE (a 24) (by kernel_rfl) (H 4) (by kernel_rfl); have q13 := c 13 (uM 9 uE); have hq := e; rw [if_neg (by simp [q13])] at hq; have kk := hq.t1; clear H c b d a; refine oP rfl ?_; go_simp; exact f.out _ _ rfl trivial e
    refine Ei 7 5 (.int .i64 (k : Int)) ?_
    refine Ee 8 26 6 ?_
    refine Ee 9 27 7 ?_
    refine Eee 10 25 5 28 8 ?_
    refine Ee 11 20 0 ?_
    refine Ee 12 30 10 ?_
    refine Eee 13 21 1 31 11 ?_
    refine EC 14 rfl (fun g h W F a b c d e H K f => ?_) ?_
    ·have f29 := gE (a 29) (by kernel_rfl) (H 9) (by kernel_rfl); have f32 := gE (a 32) (by kernel_rfl) (H 12) (by kernel_rfl); rw [if_neg (by simp [b])] at e; have hS := e; clear e c b d a H; refine oP rfl ?_; obtain ⟨yy, hs⟩ := hS.later1 kq; have kk := hS.t1; go_simp; exact f.out undef _ trivial trivial (by simpa [upB, upd] using hs)
    exact EN
   ·intro dn xv W hI H; have qe : dn 13 = true := (H 13 (of_decide_eq_true (by kernel_rfl))).1; rw [if_pos qe] at hI; have hS := hI; clear H hI qe; simp only [putAll, Act.put, List.setIfInBounds_toArray, List.set_cons_zero, List.set_cons_succ, Nat.reduceAdd]; obtain ⟨T0, HT0⟩ : ∃ x, Hid (T.later true kq = x) := ⟨_, Lib.hid rfl⟩; rw [HT0.out] at hS; have HA1 := Lib.hid hS; have HO0 : Hid (T0.Ok (B + 3)) := Lib.hid (by rw [← HT0.out]; exact hO.later true hkq); have HC1 := Lib.hid (fun (W : World) (hS : TwA a0 a1 w0 W g T0 Qs) => tickA1 hS HO0.out (by omega)); have HC2 := Lib.hid (fun (W : World) (v : Value) (hS : MidA a0 a1 v w0 W g (T0.withL true ((T0.l true).tick (T0.now true))) ((T0.l true).tickF (T0.now true)) ((T0.l true).tickE (T0.now true)) Qs) => show Calls Try.prog 31 #[.pointer (some ⟨g, 0, none⟩), .int .i64 1, v] W (fun e w' => e = .returned (.tuple #[]) ∧ TwA a0 a1 w0 w' g (T0.tick true) Qs) from
     ansA1 hS ((HO0.out.mono (Nat.le_add_right _ 1)).withL true ((HO0.out.num true).tick (now := T0.now true) (by have := HO0.out.now true; omega)) (ids_tick (HO0.out.ids true) (T0.now true))) (by omega) (by have := (tickF_ok (HO0.out.num true) (HO0.out.ids true) (T0.now true)).2.1; omega) (by have := (tickF_ok (HO0.out.num true) (HO0.out.ids true) (T0.now true)).2.2; omega))
    clear hS e3 ew1 ew2 hkq
    go_wp2_with fail
    refine wRG (fun dn xv W => if dn 15 = true then TwA a0 a1 w0 W g (T0.tick true) Qs else if dn 14 = true then MidA a0 a1 (xv 14) w0 W g (T0.withL true ((T0.l true).tick (T0.now true))) ((T0.l true).tickF (T0.now true)) ((T0.l true).tickE (T0.now true)) Qs else TwA a0 a1 w0 W g T0 Qs) (fun _ _ => True) [xP_ g 0, xV_ (.int .i64 1), xP_ g 0, xV_ (.int .i64 1), xP_ g 0, xP_ g 0, xP_ g 1, xP_ a1 0, xP_ g 0, xV_ (.int .i64 1), xP_ g 0, xP_ g 4, xP_ g 5, xV_ (.int .u64 ((T0.now true : Nat) : Int)), fun v _ => True, fun v _ => True] (fun xv => by simpa using HA1.out.drew) ?_ ?_
    ·refine Ep 1 0 g 0 ?_
     refine Ei 2 4 (.int .i64 1) ?_
     refine Ep 3 0 g 0 ?_
     refine Ei 4 4 (.int .i64 1) ?_
     refine Ee 5 35 2 ?_
     refine Ee 6 37 4 ?_
     refine Eee 7 36 3 38 5 ?_
     refine EC 8 rfl (fun g h W F a b c d e H K f => ?_) ?_
     ·have f39 := gE (a 39) (by kernel_rfl) (H 6) (by kernel_rfl); have q1 := c 14 uE; have q2 := c 15 (uM 14 uE); have hq := e; rw [if_neg (by simp [q2]), if_neg (by simp [q1])] at hq; have kk := hq.l1; clear H c b d a; refine oP rfl ?_; go_simp; exact f.out _ _ rfl trivial e
     refine Ep 9 0 g 0 ?_
     refine Ei 10 4 (.int .i64 1) ?_
     refine Ee 11 41 8 ?_
     refine Ee 12 43 10 ?_
     refine Eee 13 42 9 44 11 ?_
     refine EC 14 rfl (fun g h W F a b c d e H K f => ?_) ?_
     ·have f45 := gE (a 45) (by kernel_rfl) (H 12) (by kernel_rfl); have q1 := c 14 uE; have q2 := c 15 (uM 14 uE); have hq := e; rw [if_neg (by simp [q2]), if_neg (by simp [q1])] at hq; have kk := hq.t1; clear H c b d a; refine oP rfl ?_; go_simp; exact f.out _ _ rfl trivial e
     refine EC 15 rfl (fun h i W F a b c d f H K g => ?_) ?_
     ·have f40 := gE (a 40) (by kernel_rfl) (H 7) (by kernel_rfl); have f46 := gE (a 46) (by kernel_rfl) (H 13) (by kernel_rfl); have q15 := c 15 uE; rw [if_neg (by simp [q15]), if_neg (by simp [b])] at f; have hS := f; clear f c b d a H; refine oP rfl ?_; go_simp; refine (HC1.out W hS).mono ?_; rintro e W' ⟨v, rfl, hs⟩; exact g.out v W' trivial trivial (by simpa [upB, upd, q15] using hs)
     refine EC 16 rfl (fun h i W F a b c d f H K g => ?_) ?_
     ·have f33 := gE (a 33) (by kernel_rfl) (H 0) (by kernel_rfl); have f34 := gE (a 34) (by kernel_rfl) (H 1) (by kernel_rfl); have f47 : F.tmps.getD 47 undef = i 14 := (a 47).trans (by kernel_rfl); have q14 := (H 14 uE).1; rw [if_neg (by simp [b]), if_pos q14] at f; have hS := f; clear f c b d a H; refine oP rfl ?_; go_simp; refine (HC2.out W _ hS).mono ?_; rintro e W' ⟨rfl, hs⟩; exact g.out _ W' trivial trivial (by simpa [upB, upd] using hs)
     exact EN
    ·intro dn xv W hI H; have qe : dn 15 = true := (H 15 (of_decide_eq_true (by kernel_rfl))).1; rw [if_pos qe] at hI; have hS := hI; clear H hI qe; simp only [putAll, Act.put, List.setIfInBounds_toArray, List.set_cons_zero, List.set_cons_succ, Nat.reduceAdd]
     go_wp2_with fail
     go_meet
     case rel => exact ⟨a0, a1, _, hS, Lib.hid ⟨by rw [TW.act, if_pos rfl, ← HT0.out, ← Hkq.out]; rfl, (HO0.out.tick (by omega) true).mono (by omega)⟩⟩
  ·have e0 : (d == 0) = false := by simpa using h0
   by_cases h1 : d = 1
   ·subst h1
    go_wp2_with fail
    refine (sendA1 HA.out hO (by omega)).mono ?_; rintro e w2 ⟨rfl, h2⟩; have HA2 := Lib.hid h2; clear h2
    go_wp2_with fail
    go_meet
    case rel => exact ⟨a0, a1, _, HA2.out, Lib.hid ⟨by rw [TW.act, if_neg (by decide), if_pos rfl], (hO.send (by omega) true).mono (by omega)⟩⟩
   ·have e1 : (d == 1) = false := by simpa using h1
    by_cases h234 : d = 2 ∨ d = 3 ∨ d = 4
    ·skip
     have H234 := Lib.hid h234; have HA3 := Lib.hid (HAB.out)
     go_upto_if 54 with fail
     go_cut [54] from 55 to 57 (fun t54 wx => t54 = .bool true ∧ wx = (w.alloc (.cells #[.int .i64 d, .int .i64 at_, .int .i64 nn] 37)))
     case first =>
      by_cases h2 : d = 2
      ·subst h2
       go_wp2_with fail
       go_meet
       case rel => exact ⟨rfl, rfl⟩
      ·have e2 : (d == 2) = false := by simpa using h2
       by_cases h3 : d = 3
       ·subst h3
        go_wp2_with fail
        go_meet
        case rel => exact ⟨rfl, rfl⟩
       ·have h4 : d = 4 := by have := H234.out; omega
        subst h4
        go_wp2_with fail
        go_meet
        case rel => exact ⟨rfl, rfl⟩
     case rest =>
      obtain ⟨rfl, rfl⟩ := hcut; obtain ⟨b0, b1, v0, v1, W0, W1, BB, bs, bt, q1, q2, q3, q4, h⟩ := HA3.out; obtain ⟨AV, cV, hv, hcV, hcV2, hasV⟩ := sep_rwoForm (i := 6) h rfl; subst hv; have HQW := Lib.hid (And.intro q1 (And.intro q2 (And.intro q3 q4))); have hlw : W1.length = (T.way true).length := by rw [← q2, List.length_map]
      have kk := cA (v := .slice AV W1.length cV) (i := 0) h rfl 7 rfl; clear q1 q2 q3 q4
      by_cases hw : T.way true = []
      ·have e0 : ((W1.length : Int) == 0) = true := by rw [hlw, hw]; rfl
       have e00 : (W1.length == 0) = true := by rw [hlw, hw]; rfl
       have HW := Lib.hid hw; clear hw hasV h
       go_wp2_with fail
       refine bodyPost_ret (results_none rfl _ _ _) rfl ?_; exact ⟨rfl, true, k, a0, a1, by rw [act_none H234.out HW.out]; exact HA3.out.pop, by rw [act_none H234.out HW.out]; exact hO.mono (by omega)⟩
      ·have hpos : 0 < W1.length := by rw [hlw]; exact List.length_pos_iff.2 hw
       obtain ⟨nl, Hnl⟩ : ∃ y, Hid (W1.length = y) := ⟨_, Lib.hid rfl⟩; obtain ⟨bw, ow, rfl, _, _⟩ := hasV.at_ (k := 0) (by rw [frRow_len]; omega); rw [Hnl.out] at h hcV kk hlw hpos; have e0 : (nl == 0) = false := by simp; omega
       have e00 : ((nl : Int) == 0) = false := by simp; omega
       obtain ⟨jj, Hjj⟩ : ∃ y, Hid (k % nl = y) := ⟨_, Lib.hid rfl⟩; have hjn : jj < nl := by rw [← Hjj.out]; exact Nat.mod_lt _ hpos
       have er : Int.tmod (k : Int) (nl : Int) = (jj : Int) := by rw [← Hjj.out]; rfl
       have er2 : (k : Int) % (nl : Int) = (jj : Int) := by rw [← Hjj.out]; rfl
       obtain ⟨p, hp⟩ : ∃ p, W1[jj]? = some p := ⟨_, List.getElem?_eq_getElem (by rw [Hnl.out]; exact hjn)⟩; have hpB : (p.2, p.1.body) ∈ BB := by
        have hm : (p.2, p.1.body) ∈ fB_ W1 := List.mem_map.2 ⟨_, List.mem_of_getElem? hp, rfl⟩; exact HQW.out.2.2.2 _ hm
       obtain ⟨AU, cU, hu, _, _, hasU⟩ := sep_bodsAt (i := 7) h rfl hpB; have hfw : (T.way true)[jj]? = some p.1 := by rw [← HQW.out.2.1, List.getElem?_map, hp]; rfl
       have hfo := hO.frs true p.1 (List.mem_of_getElem? hfw); have HJW : Hid (k % (T.way true).length = jj) := Lib.hid (by rw [← hlw]; exact Hjj.out); obtain ⟨⟨kind, ffr, fto, finc, fconn, pinc, pconn, fack, fseq, body⟩, u⟩ := p; simp only at hu; subst hu; obtain ⟨fF, HfF⟩ : ∃ y, Hid ((⟨kind, ffr, fto, finc, fconn, pinc, pconn, fack, fseq, body⟩ : Fr) = y) := ⟨_, Lib.hid rfl⟩; have HFW : Hid ((T.way true)[jj]? = some fF) := Lib.hid (by rw [← HfF.out]; exact hfw); have HFO : Hid (FrOk B fF) := Lib.hid (by rw [← HfF.out]; exact hfo); have hbl : body.length ≤ 448 := hfo.2.2.2.2; have HS4 := Lib.hid (show Sep w0 (w.alloc (.cells #[.int .i64 d, .int .i64 at_, .int .i64 nn] 37)) (Ce g 34 #[.pointer (some ⟨a0, 0, none⟩), .pointer (some ⟨a1, 0, none⟩), .int .u64 (((T.l false).si : Nat) : Int), .int .u64 (((T.l true).si : Nat) : Int), .int .u64 ((T.now false : Nat) : Int), .int .u64 ((T.now true : Nat) : Int), v0, .slice (some ⟨bw, ow, none⟩) nl cV, .map (some bs), .map (some bt), .int .i64 ((T.n : Nat) : Int), .bool false] :: Ce a0 72 ((T.l false).cells b0) :: BoxT b0 (T.l false).box :: Ce a1 72 ((T.l true).cells b1) :: BoxT b1 (T.l true).box :: RwO 51 10 v0 W0.length (fR_ W0) :: RwO 51 10 (.slice (some ⟨bw, ow, none⟩) nl cV) nl (fR_ W1) :: Bods BB :: MapT bs T.sent :: MapT bt T.told :: Ce w.heap.size 37 #[.int .i64 d, .int .i64 at_, .int .i64 nn] :: Qs) by unfold TWL at h; rw [Hnl.out] at h; exact h); have hr := sep_rwoHas (i := 6) HS4.out rfl; have kf0 := hK4 hr (frRow_at (r := 0) (v := .int .i64 kind) hp (by omega)); rw [Nat.add_zero] at kf0; have kf1 := hK4 hr (frRow_at (r := 1) (v := .int .i64 ffr) hp (by omega)); rw [← Nat.add_assoc] at kf1; have kf2 := hK4 hr (frRow_at (r := 2) (v := .int .i64 fto) hp (by omega)); rw [← Nat.add_assoc] at kf2; have kf3 := hK4 hr (frRow_at (r := 3) (v := .int .u64 (finc : Int)) hp (by omega)); rw [← Nat.add_assoc] at kf3; have kf4 := hK4 hr (frRow_at (r := 4) (v := .int .u64 (fconn : Int)) hp (by omega)); rw [← Nat.add_assoc] at kf4; have kf5 := hK4 hr (frRow_at (r := 5) (v := .int .u64 (pinc : Int)) hp (by omega)); rw [← Nat.add_assoc] at kf5; have kf6 := hK4 hr (frRow_at (r := 6) (v := .int .u64 (pconn : Int)) hp (by omega)); rw [← Nat.add_assoc] at kf6; have kf7 := hK4 hr (frRow_at (r := 7) (v := .int .u64 (fack : Int)) hp (by omega)); rw [← Nat.add_assoc] at kf7; have kf8 := hK4 hr (frRow_at (r := 8) (v := .int .u64 (fseq : Int)) hp (by omega)); rw [← Nat.add_assoc] at kf8; have kf9 := hK4 hr (frRow_at (r := 9) (v := .slice AU body.length cU) hp (by omega)); rw [← Nat.add_assoc] at kf9; have HU := Lib.hid hasU; have HHP := Lib.hid hp; have HLW := Lib.hid hlw; have hnb : nl ≤ B := by rw [hlw]; exact hO.way true
       clear hr hasV hw h hp hpB hfo hfw hasU hlw
       go_wp2_with fail
       refine (own5_any _ _ ⟨kind, ffr, fto, finc, fconn, pinc, pconn, fack, fseq, body⟩ AU cU HU.out (Nat.le_refl _) (by simp only; omega)).mono ?_; rintro e w3 ⟨AZ, cZ, rfl, hoN, hbN⟩; simp only [Fr.cells]; clear kk kf0 kf1 kf2 kf3 kf4 kf5 kf6 kf7 kf8 kf9 er er2 e0 e00; have HA4 := Lib.hid (HA3.out.grow hbN); have HA5 := Lib.hid (((HA3.out.by_ hbN hoN).ce #[.int .i64 kind, .int .i64 ffr, .int .i64 fto, .int .u64 (finc : Int), .int .u64 (fconn : Int), .int .u64 (pinc : Int), .int .u64 (pconn : Int), .int .u64 (fack : Int), .int .u64 (fseq : Int), .slice AZ body.length cZ] 51).swap); have HS5 := Lib.hid (show Sep w0 (w3.alloc (.cells #[.int .i64 kind, .int .i64 ffr, .int .i64 fto, .int .u64 (finc : Int), .int .u64 (fconn : Int), .int .u64 (pinc : Int), .int .u64 (pconn : Int), .int .u64 (fack : Int), .int .u64 (fseq : Int), .slice AZ body.length cZ] 51)) (Ce g 34 #[.pointer (some ⟨a0, 0, none⟩), .pointer (some ⟨a1, 0, none⟩), .int .u64 (((T.l false).si : Nat) : Int), .int .u64 (((T.l true).si : Nat) : Int), .int .u64 ((T.now false : Nat) : Int), .int .u64 ((T.now true : Nat) : Int), v0, .slice (some ⟨bw, ow, none⟩) nl cV, .map (some bs), .map (some bt), .int .i64 ((T.n : Nat) : Int), .bool false] :: Ce a0 72 ((T.l false).cells b0) :: BoxT b0 (T.l false).box :: Ce a1 72 ((T.l true).cells b1) :: BoxT b1 (T.l true).box :: RwO 51 10 v0 W0.length (fR_ W0) :: RwO 51 10 (.slice (some ⟨bw, ow, none⟩) nl cV) nl (fR_ W1) :: Bods BB :: MapT bs T.sent :: MapT bt T.told :: By (.slice AZ body.length cZ) body :: Ce (w3.heap.size) 51 #[.int .i64 kind, .int .i64 ffr, .int .i64 fto, .int .u64 (finc : Int), .int .u64 (fconn : Int), .int .u64 (pinc : Int), .int .u64 (pconn : Int), .int .u64 (fack : Int), .int .u64 (fseq : Int), .slice AZ body.length cZ] :: Ce w.heap.size 37 #[.int .i64 d, .int .i64 at_, .int .i64 nn] :: Qs) from (show Sep w0 (w3.alloc (.cells #[.int .i64 kind, .int .i64 ffr, .int .i64 fto, .int .u64 (finc : Int), .int .u64 (fconn : Int), .int .u64 (pinc : Int), .int .u64 (pconn : Int), .int .u64 (fack : Int), .int .u64 (fseq : Int), .slice AZ body.length cZ] 51)) (Ce w3.heap.size 51 #[.int .i64 kind, .int .i64 ffr, .int .i64 fto, .int .u64 (finc : Int), .int .u64 (fconn : Int), .int .u64 (pinc : Int), .int .u64 (pconn : Int), .int .u64 (fack : Int), .int .u64 (fseq : Int), .slice AZ body.length cZ] :: By (.slice AZ body.length cZ) body :: Ce g 34 #[.pointer (some ⟨a0, 0, none⟩), .pointer (some ⟨a1, 0, none⟩), .int .u64 (((T.l false).si : Nat) : Int), .int .u64 (((T.l true).si : Nat) : Int), .int .u64 ((T.now false : Nat) : Int), .int .u64 ((T.now true : Nat) : Int), v0, .slice (some ⟨bw, ow, none⟩) nl cV, .map (some bs), .map (some bt), .int .i64 ((T.n : Nat) : Int), .bool false] :: Ce a0 72 ((T.l false).cells b0) :: BoxT b0 (T.l false).box :: Ce a1 72 ((T.l true).cells b1) :: BoxT b1 (T.l true).box :: RwO 51 10 v0 W0.length (fR_ W0) :: RwO 51 10 (.slice (some ⟨bw, ow, none⟩) nl cV) nl (fR_ W1) :: Bods BB :: MapT bs T.sent :: MapT bt T.told :: Ce w.heap.size 37 #[.int .i64 d, .int .i64 at_, .int .i64 nn] :: Qs) from sep_ceF (HS4.out.add (F := fun k => (Value.slice AZ body.length cZ).ownBlock = some k) hbN ⟨own_mono hoN (Nat.zero_le _), fun k => Iff.rfl⟩ (By.loc _ _) fun k hk => (hoN.lt k hk).1).lastFront _ _) |> fun h => ((((((((((((h).tF 0 rfl).tF 1 rfl).tF 11 rfl).tF 11 rfl).tF 11 rfl).tF 11 rfl).tF 11 rfl).tF 11 rfl).tF 11 rfl).tF 11 rfl).tF 11 rfl).tF 11 rfl)
       have HZ := Lib.hid (sep_ce (Sep.nil w3) #[.int .i64 0, .int .i64 0, .int .i64 0, .int .u64 0, .int .u64 0, .int .u64 0, .int .u64 0, .int .u64 0, .int .u64 0, .slice none 0 0] 51); have zf0 := cA (i := 0) HZ.out rfl 0 rfl; have yf0 := cFz (i := 0) HZ.out rfl 0; have zf1 := cA (i := 0) HZ.out rfl 1 rfl; have yf1 := cFz (i := 0) HZ.out rfl 1; have zf2 := cA (i := 0) HZ.out rfl 2 rfl; have yf2 := cFz (i := 0) HZ.out rfl 2; have zf3 := cA (i := 0) HZ.out rfl 3 rfl; have yf3 := cFz (i := 0) HZ.out rfl 3; have zf4 := cA (i := 0) HZ.out rfl 4 rfl; have yf4 := cFz (i := 0) HZ.out rfl 4; have zf5 := cA (i := 0) HZ.out rfl 5 rfl; have yf5 := cFz (i := 0) HZ.out rfl 5; have zf6 := cA (i := 0) HZ.out rfl 6 rfl; have yf6 := cFz (i := 0) HZ.out rfl 6; have zf7 := cA (i := 0) HZ.out rfl 7 rfl; have yf7 := cFz (i := 0) HZ.out rfl 7; have zf8 := cA (i := 0) HZ.out rfl 8 rfl; have yf8 := cFz (i := 0) HZ.out rfl 8; have zf9 := cA (i := 0) HZ.out rfl 9 rfl; have yf9 := cFz (i := 0) HZ.out rfl 9; have kd := HA5.out.q2 0 (v := .int .i64 d) rfl; obtain ⟨T0, HT0⟩ : ∃ x, Hid ((if d = 3 then T else ({ T with way := atB T.way true ((T.way true).eraseIdx jj) } : TW)) = x) := ⟨_, Lib.hid rfl⟩; have HO0 : Hid (T0.Ok B) := Lib.hid (by
        rw [← HT0.out]; split
        ·exact hO
        ·exact hO.lose true jj)
       go_upto_if 87 with fail
       go_cut [] from 88 to 112 (fun wx => TwA a0 a1 w0 wx g T0 (By (.slice AZ body.length cZ) body :: Ce (w3.heap.size) 51 #[.int .i64 kind, .int .i64 ffr, .int .i64 fto, .int .u64 (finc : Int), .int .u64 (fconn : Int), .int .u64 (pinc : Int), .int .u64 (pconn : Int), .int .u64 (fack : Int), .int .u64 (fseq : Int), .slice AZ body.length cZ] :: Ce w.heap.size 37 #[.int .i64 d, .int .i64 at_, .int .i64 nn] :: Qs))
       case first =>
        by_cases h3 : d = 3
        ·subst h3; have HT3 : Hid (T = T0) := Lib.hid (by rw [← HT0.out, if_pos rfl])
         go_wp2_with fail
         go_meet
         case rel =>
          rw [← HT3.out]; exact HA5.out
        ·have e3 : (d != 3) = true := by simpa using h3
         have H3 := Lib.hid h3; have hjn2 : jj + 1 ≤ nl := hjn; have hone := frRow_oneB (LP := W1) (i := 7) HS5.out rfl (fun x hx => HQW.out.2.2.2 _ hx); have HX1 : Hid (∀ u ∈ (fR_ W1).take (jj * 10), u.oneCell' = true) := Lib.hid (fun u hu => hone u (List.mem_of_mem_take hu)); have HX2 : Hid (∀ u ∈ (fR_ W1).drop ((jj + 1) * 10), u.oneCell' = true) := Lib.hid (fun u hu => hone u (List.mem_of_mem_drop hu)); obtain ⟨jk, Hjk⟩ : ∃ y, Hid (jj + 1 = y) := ⟨_, Lib.hid rfl⟩; obtain ⟨SB, HSB2⟩ : ∃ y, Hid ((if cV = jj + 1 then (some ⟨bw, ow, none⟩ : Option Addr) else (some (⟨bw, ow, none⟩ : Addr)).map (·.add ((jj + 1) * 10))) = y) := ⟨_, Lib.hid rfl⟩; obtain ⟨n2, Hn2⟩ : ∃ y, Hid (nl - (jj + 1) = y) := ⟨_, Lib.hid rfl⟩; obtain ⟨c2, Hc2⟩ : ∃ y, Hid (cV - (jj + 1) = y) := ⟨_, Lib.hid rfl⟩; obtain ⟨nn2, HN2⟩ : ∃ y, Hid (jj + n2 = y) := ⟨_, Lib.hid rfl⟩; have hfl : (fR_ W1).length = nl * 10 := by rw [frRow_len, Hnl.out]
         have HL1 : Hid (((fR_ W1).take (jj * 10)).length = jj * 10) := Lib.hid (by rw [List.length_take, hfl]; omega); have HL2 : Hid (((fR_ W1).drop ((jj + 1) * 10)).length = n2 * 10) := Lib.hid (by rw [List.length_drop, hfl, ← Hn2.out, Nat.sub_mul]); have HR1 : Hid (∀ W, (Instr.slice 30 (.slice (some ⟨bw, ow, none⟩) nl cV) none (some (.int .i64 (jj : Int))) none).run Try.prog W = .ok (.slice (some ⟨bw, ow, none⟩) jj cV) W) := Lib.hid (fun W => run_toF W _ nl cV jj (by omega)); have HR2 : Hid (∀ W, (Instr.slice 30 (.slice (some ⟨bw, ow, none⟩) nl cV) (some (.int .i64 (jk : Int))) none none).run Try.prog W = .ok (.slice SB n2 c2) W) := Lib.hid (fun W => by
          have hq := run_fromF W (some ⟨bw, ow, none⟩) nl cV (jj + 1) hjn2; rw [HSB2.out, Hn2.out, Hc2.out, Hjk.out] at hq; exact hq)
         have HH2 : Hid (∀ W, OwnO W 51 10 (.slice (some ⟨bw, ow, none⟩) nl cV) nl (fR_ W1) → Has W W.heap.size SB ((fR_ W1).drop ((jj + 1) * 10))) := Lib.hid (fun W ho => by
          obtain ⟨A', c', e', _, _, hh⟩ := ownO_form (ownO_from ho hjn2).1; rw [HSB2.out] at e'; simp only [Value.slice.injEq] at e'; rw [e'.1]; exact hh)
         have ejk : IntKind.i64.wrap ((jj : Int) + 1) = (jk : Int) := by rw [IntKind.wrap_i64, ← Hjk.out]; omega
         have hn2 : n2 ≤ 1000000 := by rw [← Hn2.out]; omega
         have hjb : jj ≤ 1000000 := by omega
         have HKW : ∀ (dn : Nat → Bool) (xv : Nat → Value) (W : World), (if dn 25 = true then ∃ v, Sep w0 W (Rw 51 10 v nn2 (((fR_ W1).take (jj * 10)) ++ ((fR_ W1).drop ((jj + 1) * 10))) :: Ce g 34 #[.pointer (some ⟨a0, 0, none⟩), .pointer (some ⟨a1, 0, none⟩), .int .u64 (((T.l false).si : Nat) : Int), .int .u64 (((T.l true).si : Nat) : Int), .int .u64 ((T.now false : Nat) : Int), .int .u64 ((T.now true : Nat) : Int), v0, v, .map (some bs), .map (some bt), .int .i64 ((T.n : Nat) : Int), .bool false] :: Ce a0 72 ((T.l false).cells b0) :: BoxT b0 (T.l false).box :: Ce a1 72 ((T.l true).cells b1) :: BoxT b1 (T.l true).box :: RwO 51 10 v0 W0.length (fR_ W0) :: RwO 51 10 (.slice (some ⟨bw, ow, none⟩) nl cV) nl (fR_ W1) :: Bods BB :: MapT bs T.sent :: MapT bt T.told :: By (.slice AZ body.length cZ) body :: Ce (w3.heap.size) 51 #[.int .i64 kind, .int .i64 ffr, .int .i64 fto, .int .u64 (finc : Int), .int .u64 (fconn : Int), .int .u64 (pinc : Int), .int .u64 (pconn : Int), .int .u64 (fack : Int), .int .u64 (fseq : Int), .slice AZ body.length cZ] :: Ce w.heap.size 37 #[.int .i64 d, .int .i64 at_, .int .i64 nn] :: Qs) else if dn 21 = true then Sep w0 W (Rw 51 10 (xv 21) nn2 (((fR_ W1).take (jj * 10)) ++ ((fR_ W1).drop ((jj + 1) * 10))) :: Ce g 34 #[.pointer (some ⟨a0, 0, none⟩), .pointer (some ⟨a1, 0, none⟩), .int .u64 (((T.l false).si : Nat) : Int), .int .u64 (((T.l true).si : Nat) : Int), .int .u64 ((T.now false : Nat) : Int), .int .u64 ((T.now true : Nat) : Int), v0, .slice (some ⟨bw, ow, none⟩) nl cV, .map (some bs), .map (some bt), .int .i64 ((T.n : Nat) : Int), .bool false] :: Ce a0 72 ((T.l false).cells b0) :: BoxT b0 (T.l false).box :: Ce a1 72 ((T.l true).cells b1) :: BoxT b1 (T.l true).box :: RwO 51 10 v0 W0.length (fR_ W0) :: RwO 51 10 (.slice (some ⟨bw, ow, none⟩) nl cV) nl (fR_ W1) :: Bods BB :: MapT bs T.sent :: MapT bt T.told :: By (.slice AZ body.length cZ) body :: Ce (w3.heap.size) 51 #[.int .i64 kind, .int .i64 ffr, .int .i64 fto, .int .u64 (finc : Int), .int .u64 (fconn : Int), .int .u64 (pinc : Int), .int .u64 (pconn : Int), .int .u64 (fack : Int), .int .u64 (fseq : Int), .slice AZ body.length cZ] :: Ce w.heap.size 37 #[.int .i64 d, .int .i64 at_, .int .i64 nn] :: Qs) else if dn 11 = true then Sep w0 W (Rw 51 10 (xv 11) jj ((fR_ W1).take (jj * 10)) :: Ce g 34 #[.pointer (some ⟨a0, 0, none⟩), .pointer (some ⟨a1, 0, none⟩), .int .u64 (((T.l false).si : Nat) : Int), .int .u64 (((T.l true).si : Nat) : Int), .int .u64 ((T.now false : Nat) : Int), .int .u64 ((T.now true : Nat) : Int), v0, .slice (some ⟨bw, ow, none⟩) nl cV, .map (some bs), .map (some bt), .int .i64 ((T.n : Nat) : Int), .bool false] :: Ce a0 72 ((T.l false).cells b0) :: BoxT b0 (T.l false).box :: Ce a1 72 ((T.l true).cells b1) :: BoxT b1 (T.l true).box :: RwO 51 10 v0 W0.length (fR_ W0) :: RwO 51 10 (.slice (some ⟨bw, ow, none⟩) nl cV) nl (fR_ W1) :: Bods BB :: MapT bs T.sent :: MapT bt T.told :: By (.slice AZ body.length cZ) body :: Ce (w3.heap.size) 51 #[.int .i64 kind, .int .i64 ffr, .int .i64 fto, .int .u64 (finc : Int), .int .u64 (fconn : Int), .int .u64 (pinc : Int), .int .u64 (pconn : Int), .int .u64 (fack : Int), .int .u64 (fseq : Int), .slice AZ body.length cZ] :: Ce w.heap.size 37 #[.int .i64 d, .int .i64 at_, .int .i64 nn] :: Qs) else if dn 2 = true then Sep w0 W (Rw 51 10 (xv 2) 0 [] :: Ce g 34 #[.pointer (some ⟨a0, 0, none⟩), .pointer (some ⟨a1, 0, none⟩), .int .u64 (((T.l false).si : Nat) : Int), .int .u64 (((T.l true).si : Nat) : Int), .int .u64 ((T.now false : Nat) : Int), .int .u64 ((T.now true : Nat) : Int), v0, .slice (some ⟨bw, ow, none⟩) nl cV, .map (some bs), .map (some bt), .int .i64 ((T.n : Nat) : Int), .bool false] :: Ce a0 72 ((T.l false).cells b0) :: BoxT b0 (T.l false).box :: Ce a1 72 ((T.l true).cells b1) :: BoxT b1 (T.l true).box :: RwO 51 10 v0 W0.length (fR_ W0) :: RwO 51 10 (.slice (some ⟨bw, ow, none⟩) nl cV) nl (fR_ W1) :: Bods BB :: MapT bs T.sent :: MapT bt T.told :: By (.slice AZ body.length cZ) body :: Ce (w3.heap.size) 51 #[.int .i64 kind, .int .i64 ffr, .int .i64 fto, .int .u64 (finc : Int), .int .u64 (fconn : Int), .int .u64 (pinc : Int), .int .u64 (pconn : Int), .int .u64 (fack : Int), .int .u64 (fseq : Int), .slice AZ body.length cZ] :: Ce w.heap.size 37 #[.int .i64 d, .int .i64 at_, .int .i64 nn] :: Qs) else Sep w0 W (Ce g 34 #[.pointer (some ⟨a0, 0, none⟩), .pointer (some ⟨a1, 0, none⟩), .int .u64 (((T.l false).si : Nat) : Int), .int .u64 (((T.l true).si : Nat) : Int), .int .u64 ((T.now false : Nat) : Int), .int .u64 ((T.now true : Nat) : Int), v0, .slice (some ⟨bw, ow, none⟩) nl cV, .map (some bs), .map (some bt), .int .i64 ((T.n : Nat) : Int), .bool false] :: Ce a0 72 ((T.l false).cells b0) :: BoxT b0 (T.l false).box :: Ce a1 72 ((T.l true).cells b1) :: BoxT b1 (T.l true).box :: RwO 51 10 v0 W0.length (fR_ W0) :: RwO 51 10 (.slice (some ⟨bw, ow, none⟩) nl cV) nl (fR_ W1) :: Bods BB :: MapT bs T.sent :: MapT bt T.told :: By (.slice AZ body.length cZ) body :: Ce (w3.heap.size) 51 #[.int .i64 kind, .int .i64 ffr, .int .i64 fto, .int .u64 (finc : Int), .int .u64 (fconn : Int), .int .u64 (pinc : Int), .int .u64 (pconn : Int), .int .u64 (fack : Int), .int .u64 (fseq : Int), .slice AZ body.length cZ] :: Ce w.heap.size 37 #[.int .i64 d, .int .i64 at_, .int .i64 nn] :: Qs)) → dn 25 = false → W.cell? ⟨g, 7, none⟩ = some (.slice (some ⟨bw, ow, none⟩) nl cV) := fun dn xv W h h0 => by
          rw [if_neg (by simp [h0])] at h; split at h
          ·exact cA (i := 1) h rfl 7 rfl
          split at h
          ·exact cA (i := 1) h rfl 7 rfl
          split at h
          ·exact cA (i := 1) h rfl 7 rfl
          ·exact cA (i := 0) h rfl 7 rfl
         clear hone hfl h3 hjn2 hjn hcV hnb HA5 kd h0 h1 h234 hO hbN hoN
         go_wp2_with fail
         refine wRG (fun dn xv W => if dn 25 = true then ∃ v, Sep w0 W (Rw 51 10 v nn2 (((fR_ W1).take (jj * 10)) ++ ((fR_ W1).drop ((jj + 1) * 10))) :: Ce g 34 #[.pointer (some ⟨a0, 0, none⟩), .pointer (some ⟨a1, 0, none⟩), .int .u64 (((T.l false).si : Nat) : Int), .int .u64 (((T.l true).si : Nat) : Int), .int .u64 ((T.now false : Nat) : Int), .int .u64 ((T.now true : Nat) : Int), v0, v, .map (some bs), .map (some bt), .int .i64 ((T.n : Nat) : Int), .bool false] :: Ce a0 72 ((T.l false).cells b0) :: BoxT b0 (T.l false).box :: Ce a1 72 ((T.l true).cells b1) :: BoxT b1 (T.l true).box :: RwO 51 10 v0 W0.length (fR_ W0) :: RwO 51 10 (.slice (some ⟨bw, ow, none⟩) nl cV) nl (fR_ W1) :: Bods BB :: MapT bs T.sent :: MapT bt T.told :: By (.slice AZ body.length cZ) body :: Ce (w3.heap.size) 51 #[.int .i64 kind, .int .i64 ffr, .int .i64 fto, .int .u64 (finc : Int), .int .u64 (fconn : Int), .int .u64 (pinc : Int), .int .u64 (pconn : Int), .int .u64 (fack : Int), .int .u64 (fseq : Int), .slice AZ body.length cZ] :: Ce w.heap.size 37 #[.int .i64 d, .int .i64 at_, .int .i64 nn] :: Qs) else if dn 21 = true then Sep w0 W (Rw 51 10 (xv 21) nn2 (((fR_ W1).take (jj * 10)) ++ ((fR_ W1).drop ((jj + 1) * 10))) :: Ce g 34 #[.pointer (some ⟨a0, 0, none⟩), .pointer (some ⟨a1, 0, none⟩), .int .u64 (((T.l false).si : Nat) : Int), .int .u64 (((T.l true).si : Nat) : Int), .int .u64 ((T.now false : Nat) : Int), .int .u64 ((T.now true : Nat) : Int), v0, .slice (some ⟨bw, ow, none⟩) nl cV, .map (some bs), .map (some bt), .int .i64 ((T.n : Nat) : Int), .bool false] :: Ce a0 72 ((T.l false).cells b0) :: BoxT b0 (T.l false).box :: Ce a1 72 ((T.l true).cells b1) :: BoxT b1 (T.l true).box :: RwO 51 10 v0 W0.length (fR_ W0) :: RwO 51 10 (.slice (some ⟨bw, ow, none⟩) nl cV) nl (fR_ W1) :: Bods BB :: MapT bs T.sent :: MapT bt T.told :: By (.slice AZ body.length cZ) body :: Ce (w3.heap.size) 51 #[.int .i64 kind, .int .i64 ffr, .int .i64 fto, .int .u64 (finc : Int), .int .u64 (fconn : Int), .int .u64 (pinc : Int), .int .u64 (pconn : Int), .int .u64 (fack : Int), .int .u64 (fseq : Int), .slice AZ body.length cZ] :: Ce w.heap.size 37 #[.int .i64 d, .int .i64 at_, .int .i64 nn] :: Qs) else if dn 11 = true then Sep w0 W (Rw 51 10 (xv 11) jj ((fR_ W1).take (jj * 10)) :: Ce g 34 #[.pointer (some ⟨a0, 0, none⟩), .pointer (some ⟨a1, 0, none⟩), .int .u64 (((T.l false).si : Nat) : Int), .int .u64 (((T.l true).si : Nat) : Int), .int .u64 ((T.now false : Nat) : Int), .int .u64 ((T.now true : Nat) : Int), v0, .slice (some ⟨bw, ow, none⟩) nl cV, .map (some bs), .map (some bt), .int .i64 ((T.n : Nat) : Int), .bool false] :: Ce a0 72 ((T.l false).cells b0) :: BoxT b0 (T.l false).box :: Ce a1 72 ((T.l true).cells b1) :: BoxT b1 (T.l true).box :: RwO 51 10 v0 W0.length (fR_ W0) :: RwO 51 10 (.slice (some ⟨bw, ow, none⟩) nl cV) nl (fR_ W1) :: Bods BB :: MapT bs T.sent :: MapT bt T.told :: By (.slice AZ body.length cZ) body :: Ce (w3.heap.size) 51 #[.int .i64 kind, .int .i64 ffr, .int .i64 fto, .int .u64 (finc : Int), .int .u64 (fconn : Int), .int .u64 (pinc : Int), .int .u64 (pconn : Int), .int .u64 (fack : Int), .int .u64 (fseq : Int), .slice AZ body.length cZ] :: Ce w.heap.size 37 #[.int .i64 d, .int .i64 at_, .int .i64 nn] :: Qs) else if dn 2 = true then Sep w0 W (Rw 51 10 (xv 2) 0 [] :: Ce g 34 #[.pointer (some ⟨a0, 0, none⟩), .pointer (some ⟨a1, 0, none⟩), .int .u64 (((T.l false).si : Nat) : Int), .int .u64 (((T.l true).si : Nat) : Int), .int .u64 ((T.now false : Nat) : Int), .int .u64 ((T.now true : Nat) : Int), v0, .slice (some ⟨bw, ow, none⟩) nl cV, .map (some bs), .map (some bt), .int .i64 ((T.n : Nat) : Int), .bool false] :: Ce a0 72 ((T.l false).cells b0) :: BoxT b0 (T.l false).box :: Ce a1 72 ((T.l true).cells b1) :: BoxT b1 (T.l true).box :: RwO 51 10 v0 W0.length (fR_ W0) :: RwO 51 10 (.slice (some ⟨bw, ow, none⟩) nl cV) nl (fR_ W1) :: Bods BB :: MapT bs T.sent :: MapT bt T.told :: By (.slice AZ body.length cZ) body :: Ce (w3.heap.size) 51 #[.int .i64 kind, .int .i64 ffr, .int .i64 fto, .int .u64 (finc : Int), .int .u64 (fconn : Int), .int .u64 (pinc : Int), .int .u64 (pconn : Int), .int .u64 (fack : Int), .int .u64 (fseq : Int), .slice AZ body.length cZ] :: Ce w.heap.size 37 #[.int .i64 d, .int .i64 at_, .int .i64 nn] :: Qs) else Sep w0 W (Ce g 34 #[.pointer (some ⟨a0, 0, none⟩), .pointer (some ⟨a1, 0, none⟩), .int .u64 (((T.l false).si : Nat) : Int), .int .u64 (((T.l true).si : Nat) : Int), .int .u64 ((T.now false : Nat) : Int), .int .u64 ((T.now true : Nat) : Int), v0, .slice (some ⟨bw, ow, none⟩) nl cV, .map (some bs), .map (some bt), .int .i64 ((T.n : Nat) : Int), .bool false] :: Ce a0 72 ((T.l false).cells b0) :: BoxT b0 (T.l false).box :: Ce a1 72 ((T.l true).cells b1) :: BoxT b1 (T.l true).box :: RwO 51 10 v0 W0.length (fR_ W0) :: RwO 51 10 (.slice (some ⟨bw, ow, none⟩) nl cV) nl (fR_ W1) :: Bods BB :: MapT bs T.sent :: MapT bt T.told :: By (.slice AZ body.length cZ) body :: Ce (w3.heap.size) 51 #[.int .i64 kind, .int .i64 ffr, .int .i64 fto, .int .u64 (finc : Int), .int .u64 (fconn : Int), .int .u64 (pinc : Int), .int .u64 (pconn : Int), .int .u64 (fack : Int), .int .u64 (fseq : Int), .slice AZ body.length cZ] :: Ce w.heap.size 37 #[.int .i64 d, .int .i64 at_, .int .i64 nn] :: Qs)) (fun _ _ => True) [xP_ g 0, xV_ (.int .i64 1), fun v _ => True, xP_ g 0, xV_ (.int .i64 1), xP_ g 0, xP_ g 6, xP_ g 7, xV_ (.slice (some ⟨bw, ow, none⟩) nl cV), xV_ (.int .i64 (jj : Int)), xV_ (.slice (some ⟨bw, ow, none⟩) jj cV), fun v _ => True, xP_ g 0, xV_ (.int .i64 1), xP_ g 0, xP_ g 6, xP_ g 7, xV_ (.slice (some ⟨bw, ow, none⟩) nl cV), xV_ (.int .i64 (jj : Int)), xV_ (.int .i64 (jk : Int)), xV_ (.slice SB n2 c2), fun v _ => True, xP_ g 0, xP_ g 6, xP_ g 7, fun v _ => True] (fun xv => by simpa using HS5.out.drew) ?_ ?_
         ·refine Ep 1 0 g 0 ?_
          refine Ei 2 4 (.int .i64 1) ?_
          refine EC 3 rfl (fun i k W F a b c e f H K h => ?_) ?_
          ·have q11 := c 11 uE; have q21 := c 21 (uM 11 uE); have q25 := c 25 (uM 21 (uM 11 uE)); rw [if_neg (by simp [q25]), if_neg (by simp [q21]), if_neg (by simp [q11]), if_neg (by simp [b])] at f; have hS := f; clear f c b e a H; refine oP rfl ?_; go_simp; have hs : Sep w0 (W.alloc (.cells #[] 51)) (Rw 51 10 (.slice (some ⟨W.heap.size, 0, none⟩) 0 0) 0 [] :: Ce g 34 #[.pointer (some ⟨a0, 0, none⟩), .pointer (some ⟨a1, 0, none⟩), .int .u64 (((T.l false).si : Nat) : Int), .int .u64 (((T.l true).si : Nat) : Int), .int .u64 ((T.now false : Nat) : Int), .int .u64 ((T.now true : Nat) : Int), v0, .slice (some ⟨bw, ow, none⟩) nl cV, .map (some bs), .map (some bt), .int .i64 ((T.n : Nat) : Int), .bool false] :: Ce a0 72 ((T.l false).cells b0) :: BoxT b0 (T.l false).box :: Ce a1 72 ((T.l true).cells b1) :: BoxT b1 (T.l true).box :: RwO 51 10 v0 W0.length (fR_ W0) :: RwO 51 10 (.slice (some ⟨bw, ow, none⟩) nl cV) nl (fR_ W1) :: Bods BB :: MapT bs T.sent :: MapT bt T.told :: By (.slice AZ body.length cZ) body :: Ce (w3.heap.size) 51 #[.int .i64 kind, .int .i64 ffr, .int .i64 fto, .int .u64 (finc : Int), .int .u64 (fconn : Int), .int .u64 (pinc : Int), .int .u64 (pconn : Int), .int .u64 (fack : Int), .int .u64 (fseq : Int), .slice AZ body.length cZ] :: Ce w.heap.size 37 #[.int .i64 d, .int .i64 at_, .int .i64 nn] :: Qs) := sep_rwEmpty hS; exact h.out _ _ trivial trivial (by simpa [upB, upd, q11, q21, q25] using hs)
          refine Ep 4 0 g 0 ?_
          refine Ei 5 4 (.int .i64 1) ?_
          refine Ee 6 91 3 ?_
          refine Ee 7 93 5 ?_
          refine Eee 8 92 4 94 6 ?_
          refine EC 9 rfl (fun g h W F a b c d e H K f => ?_) ?_
          ·have f95 := gE (a 95) (by kernel_rfl) (H 7) (by kernel_rfl); have kk := HKW g h W e (c 25 (uM 21 (uM 11 (uM 10 uE)))); clear H c b d a; refine oP rfl ?_; go_simp; exact f.out _ _ rfl trivial e
          refine Ei 10 6 (.int .i64 (jj : Int)) ?_
          refine Eeek 11 96 8 97 9 (fun _ _ W _ => HR1.out W) ?_
          refine EC 12 rfl (fun k o W F a b c e f H K h => ?_) ?_
          ·have f90 : F.tmps.getD 90 undef = o 2 := (a 90).trans (by kernel_rfl); have f98 := gE (a 98) (by kernel_rfl) (H 10) (by kernel_rfl); have q2 := (H 2 uE).1; have q21 := c 21 uE; have q25 := c 25 (uM 21 uE); rw [if_neg (by simp [q25]), if_neg (by simp [q21]), if_neg (by simp [b]), if_pos q2] at f; have hS := f; clear f c b e a H; refine oP rfl ?_; refine sep_opAppW rowFrames (i := 0) (s := .tmp 90) (x := .tmp 98) (m := jj) (news := ((fR_ W1).take (jj * 10))) (by rfl) f90 f98 hS rfl HL1.out ((sep_rwoHas (i := 7) hS rfl).take _) HX1.out (by unfold maxLen; omega) (by omega) ?_; intro v W' hs0; have hs : Sep w0 W' (Rw 51 10 v jj ((fR_ W1).take (jj * 10)) :: Ce g 34 #[.pointer (some ⟨a0, 0, none⟩), .pointer (some ⟨a1, 0, none⟩), .int .u64 (((T.l false).si : Nat) : Int), .int .u64 (((T.l true).si : Nat) : Int), .int .u64 ((T.now false : Nat) : Int), .int .u64 ((T.now true : Nat) : Int), v0, .slice (some ⟨bw, ow, none⟩) nl cV, .map (some bs), .map (some bt), .int .i64 ((T.n : Nat) : Int), .bool false] :: Ce a0 72 ((T.l false).cells b0) :: BoxT b0 (T.l false).box :: Ce a1 72 ((T.l true).cells b1) :: BoxT b1 (T.l true).box :: RwO 51 10 v0 W0.length (fR_ W0) :: RwO 51 10 (.slice (some ⟨bw, ow, none⟩) nl cV) nl (fR_ W1) :: Bods BB :: MapT bs T.sent :: MapT bt T.told :: By (.slice AZ body.length cZ) body :: Ce (w3.heap.size) 51 #[.int .i64 kind, .int .i64 ffr, .int .i64 fto, .int .u64 (finc : Int), .int .u64 (fconn : Int), .int .u64 (pinc : Int), .int .u64 (pconn : Int), .int .u64 (fack : Int), .int .u64 (fseq : Int), .slice AZ body.length cZ] :: Ce w.heap.size 37 #[.int .i64 d, .int .i64 at_, .int .i64 nn] :: Qs) := by simpa using hs0
           exact h.out v W' trivial trivial (by simpa [upB, upd, q21, q25] using hs)
          refine Ep 13 0 g 0 ?_
          refine Ei 14 4 (.int .i64 1) ?_
          refine Ee 15 100 12 ?_
          refine Ee 16 102 14 ?_
          refine Eee 17 101 13 103 15 ?_
          refine EC 18 rfl (fun g h W F a b c d e H K f => ?_) ?_
          ·have f104 := gE (a 104) (by kernel_rfl) (H 16) (by kernel_rfl); have kk := HKW g h W e (c 25 (uM 21 (uM 20 uE))); clear H c b d a; refine oP rfl ?_; go_simp; exact f.out _ _ rfl trivial e
          refine Ei 19 6 (.int .i64 (jj : Int)) ?_
          refine Ee 20 106 18 ?_
          refine Eeek 21 105 17 107 19 (fun _ _ W _ => HR2.out W) ?_
          refine EC 22 rfl (fun j k W F a b c e f H K h => ?_) ?_
          ·have f99 : F.tmps.getD 99 undef = k 11 := (a 99).trans (by kernel_rfl); have f108 := gE (a 108) (by kernel_rfl) (H 20) (by kernel_rfl); have q11 := (H 11 uE).1; have q25 := c 25 uE; rw [if_neg (by simp [q25]), if_neg (by simp [b]), if_pos q11] at f; have hS := f; clear f c b e a H; refine oP rfl ?_; refine sep_opAppW rowFrames (i := 0) (s := .tmp 99) (x := .tmp 108) (m := n2) (news := ((fR_ W1).drop ((jj + 1) * 10))) (by rfl) f99 f108 hS rfl HL2.out (HH2.out W (sep_rwoOwn (i := 7) hS rfl)) HX2.out (by unfold maxLen; omega) (by omega) ?_; intro v W' hs0; rw [HN2.out] at hs0; have hs : Sep w0 W' (Rw 51 10 v nn2 (((fR_ W1).take (jj * 10)) ++ ((fR_ W1).drop ((jj + 1) * 10))) :: Ce g 34 #[.pointer (some ⟨a0, 0, none⟩), .pointer (some ⟨a1, 0, none⟩), .int .u64 (((T.l false).si : Nat) : Int), .int .u64 (((T.l true).si : Nat) : Int), .int .u64 ((T.now false : Nat) : Int), .int .u64 ((T.now true : Nat) : Int), v0, .slice (some ⟨bw, ow, none⟩) nl cV, .map (some bs), .map (some bt), .int .i64 ((T.n : Nat) : Int), .bool false] :: Ce a0 72 ((T.l false).cells b0) :: BoxT b0 (T.l false).box :: Ce a1 72 ((T.l true).cells b1) :: BoxT b1 (T.l true).box :: RwO 51 10 v0 W0.length (fR_ W0) :: RwO 51 10 (.slice (some ⟨bw, ow, none⟩) nl cV) nl (fR_ W1) :: Bods BB :: MapT bs T.sent :: MapT bt T.told :: By (.slice AZ body.length cZ) body :: Ce (w3.heap.size) 51 #[.int .i64 kind, .int .i64 ffr, .int .i64 fto, .int .u64 (finc : Int), .int .u64 (fconn : Int), .int .u64 (pinc : Int), .int .u64 (pconn : Int), .int .u64 (fack : Int), .int .u64 (fseq : Int), .slice AZ body.length cZ] :: Ce w.heap.size 37 #[.int .i64 d, .int .i64 at_, .int .i64 nn] :: Qs) := hs0; exact h.out v W' trivial trivial (by simpa [upB, upd, q25] using hs)
          refine Ee 23 88 0 ?_
          refine Ee 24 110 22 ?_
          refine Eee 25 89 1 111 23 ?_
          refine EC 26 rfl (fun j k W F a b c e f H K h => ?_) ?_
          ·have f109 : F.tmps.getD 109 undef = k 21 := (a 109).trans (by kernel_rfl); have f112 := gE (a 112) (by kernel_rfl) (H 24) (by kernel_rfl); have q21 := (H 21 uE).1; rw [if_neg (by simp [b]), if_pos q21] at f; have hS := f; clear f c b e a H; refine oP rfl ?_; obtain ⟨A2, c3, e2, _⟩ := sep_rwForm (i := 0) hS rfl; have hc3 := cA (i := 1) hS rfl 7 rfl; have hf3 := cFz (i := 1) hS rfl 7; rw [e2] at hS; have hs0 := cS (i := 1) hS rfl 7 (.slice A2 nn2 c3); have hs : ∃ v, Sep w0 (W.setCell ⟨g, 7, none⟩ (.slice A2 nn2 c3)) (Rw 51 10 v nn2 (((fR_ W1).take (jj * 10)) ++ ((fR_ W1).drop ((jj + 1) * 10))) :: Ce g 34 #[.pointer (some ⟨a0, 0, none⟩), .pointer (some ⟨a1, 0, none⟩), .int .u64 (((T.l false).si : Nat) : Int), .int .u64 (((T.l true).si : Nat) : Int), .int .u64 ((T.now false : Nat) : Int), .int .u64 ((T.now true : Nat) : Int), v0, v, .map (some bs), .map (some bt), .int .i64 ((T.n : Nat) : Int), .bool false] :: Ce a0 72 ((T.l false).cells b0) :: BoxT b0 (T.l false).box :: Ce a1 72 ((T.l true).cells b1) :: BoxT b1 (T.l true).box :: RwO 51 10 v0 W0.length (fR_ W0) :: RwO 51 10 (.slice (some ⟨bw, ow, none⟩) nl cV) nl (fR_ W1) :: Bods BB :: MapT bs T.sent :: MapT bt T.told :: By (.slice AZ body.length cZ) body :: Ce (w3.heap.size) 51 #[.int .i64 kind, .int .i64 ffr, .int .i64 fto, .int .u64 (finc : Int), .int .u64 (fconn : Int), .int .u64 (pinc : Int), .int .u64 (pconn : Int), .int .u64 (fack : Int), .int .u64 (fseq : Int), .slice AZ body.length cZ] :: Ce w.heap.size 37 #[.int .i64 d, .int .i64 at_, .int .i64 nn] :: Qs) := ⟨_, hs0⟩; clear hs0; go_simp; exact h.out undef _ trivial trivial (by simpa [upB, upd] using hs)
          exact EN
         ·intro dn xv W hI H; have qe : dn 25 = true := (H 25 (of_decide_eq_true (by kernel_rfl))).1; rw [if_pos qe] at hI; have hS := hI; clear H hI qe; simp only [putAll, Act.put, List.setIfInBounds_toArray, List.set_cons_zero, List.set_cons_succ, Nat.reduceAdd]; obtain ⟨v, hS⟩ := hS; have hS2 := sep_rwoOf (i := 0) hS rfl; have HS6 := Lib.hid (show Sep w0 W (Ce g 34 #[.pointer (some ⟨a0, 0, none⟩), .pointer (some ⟨a1, 0, none⟩), .int .u64 (((T.l false).si : Nat) : Int), .int .u64 (((T.l true).si : Nat) : Int), .int .u64 ((T.now false : Nat) : Int), .int .u64 ((T.now true : Nat) : Int), v0, v, .map (some bs), .map (some bt), .int .i64 ((T.n : Nat) : Int), .bool false] :: Ce a0 72 ((T.l false).cells b0) :: BoxT b0 (T.l false).box :: Ce a1 72 ((T.l true).cells b1) :: BoxT b1 (T.l true).box :: RwO 51 10 v0 W0.length (fR_ W0) :: RwO 51 10 v nn2 (((fR_ W1).take (jj * 10)) ++ ((fR_ W1).drop ((jj + 1) * 10))) :: Bods BB :: MapT bs T.sent :: MapT bt T.told :: By (.slice AZ body.length cZ) body :: Ce (w3.heap.size) 51 #[.int .i64 kind, .int .i64 ffr, .int .i64 fto, .int .u64 (finc : Int), .int .u64 (fconn : Int), .int .u64 (pinc : Int), .int .u64 (pconn : Int), .int .u64 (fack : Int), .int .u64 (fseq : Int), .slice AZ body.length cZ] :: Ce w.heap.size 37 #[.int .i64 d, .int .i64 at_, .int .i64 nn] :: Qs) from ((((((((hS2.drop 7)).tF 0 rfl).tF 6 rfl).tF 6 rfl).tF 6 rfl).tF 6 rfl).tF 6 rfl).tF 6 rfl); clear hS hS2 HKW ejk
          go_wp2_with fail
          go_meet
          case rel =>
           rw [← HT0.out, if_neg H3.out]; refine ⟨b0, b1, v0, v, W0, W1.eraseIdx jj, BB, bs, bt, ?_, ?_, ?_, ?_, ?_⟩
           ·exact HQW.out.1
           ·rw [map_erase, HQW.out.2.1]; rfl
           ·exact HQW.out.2.2.1
           ·exact fun y hy => HQW.out.2.2.2 y (frBods_erase hy)
           ·have h9 := HS6.out; have hl9 : nn2 = (W1.eraseIdx jj).length := by
             have e1 := Hnl.out; have e2 := Hn2.out; have e3 := HN2.out; have e4 := (List.getElem?_eq_some_iff.1 HHP.out).1; rw [List.length_eraseIdx, if_pos e4]; omega
            rw [hl9, ← frRow_erase] at h9; exact h9
       case rest =>
        have HA6 := Lib.hid hcut; have kd := HA6.out.q2 0 (v := .int .i64 d) rfl
        by_cases h4 : d = 4
        ·subst h4; have HR4 : Hid (T.act 4 true k = T0.trim) := Lib.hid (by
          have h := act_mid (T := T) (d := 4) (.inr (.inr rfl)) HJW.out HFW.out; dsimp only at h; rw [HT0.out, if_pos rfl] at h; exact h)
         go_wp2_with fail
         go_meet
         case rel => exact ⟨a0, a1, T0, HA6.out.pop.pop.pop, Lib.hid ⟨HR4.out, HO0.out.mono (by omega)⟩⟩
        ·have e4 : (d != 4) = true := by simpa using h4
         have H4 := Lib.hid h4; have HF : Hid (∀ W, TwA a0 a1 w0 W g T0 (By (.slice AZ body.length cZ) body :: Ce (w3.heap.size) 51 #[.int .i64 kind, .int .i64 ffr, .int .i64 fto, .int .u64 (finc : Int), .int .u64 (fconn : Int), .int .u64 (pinc : Int), .int .u64 (pconn : Int), .int .u64 (fack : Int), .int .u64 (fseq : Int), .slice AZ body.length cZ] :: Ce w.heap.size 37 #[.int .i64 d, .int .i64 at_, .int .i64 nn] :: Qs) → W.cell? ⟨w3.heap.size, 0, none⟩ = some (.int .i64 kind) ∧ W.cell? ⟨w3.heap.size, 1, none⟩ = some (.int .i64 ffr) ∧ W.cell? ⟨w3.heap.size, 2, none⟩ = some (.int .i64 fto) ∧ W.cell? ⟨w3.heap.size, 3, none⟩ = some (.int .u64 (finc : Int)) ∧ W.cell? ⟨w3.heap.size, 4, none⟩ = some (.int .u64 (fconn : Int)) ∧ W.cell? ⟨w3.heap.size, 5, none⟩ = some (.int .u64 (pinc : Int)) ∧ W.cell? ⟨w3.heap.size, 6, none⟩ = some (.int .u64 (pconn : Int)) ∧ W.cell? ⟨w3.heap.size, 7, none⟩ = some (.int .u64 (fack : Int)) ∧ W.cell? ⟨w3.heap.size, 8, none⟩ = some (.int .u64 (fseq : Int)) ∧ W.cell? ⟨w3.heap.size, 9, none⟩ = some (.slice AZ body.length cZ)) := Lib.hid (fun W hq => ⟨hq.q1 0 rfl, hq.q1 1 rfl, hq.q1 2 rfl, hq.q1 3 rfl, hq.q1 4 rfl, hq.q1 5 rfl, hq.q1 6 rfl, hq.q1 7 rfl, hq.q1 8 rfl, hq.q1 9 rfl⟩); have HC1 := Lib.hid (fun (W : World) (hS : TwA a0 a1 w0 W g T0 (By (.slice AZ body.length cZ) body :: Ce (w3.heap.size) 51 #[.int .i64 kind, .int .i64 ffr, .int .i64 fto, .int .u64 (finc : Int), .int .u64 (fconn : Int), .int .u64 (pinc : Int), .int .u64 (pconn : Int), .int .u64 (fack : Int), .int .u64 (fseq : Int), .slice AZ body.length cZ] :: Ce w.heap.size 37 #[.int .i64 d, .int .i64 at_, .int .i64 nn] :: Qs)) => show Calls Try.prog 15 #[.pointer (some ⟨a1, 0, none⟩), .int .u64 ((T0.now true : Nat) : Int), .agg #[.int .i64 kind, .int .i64 ffr, .int .i64 fto, .int .u64 (finc : Int), .int .u64 (fconn : Int), .int .u64 (pinc : Int), .int .u64 (pconn : Int), .int .u64 (fack : Int), .int .u64 (fseq : Int), .slice AZ body.length cZ]] W (fun e w' => ∃ v, e = .returned v ∧ MidA a0 a1 v w0 w' g (T0.withL true ((T0.l true).take (T0.now true) fF)) ((T0.l true).takeF (T0.now true) fF) ((T0.l true).takeE (T0.now true) fF) (By (.slice AZ body.length cZ) body :: Ce (w3.heap.size) 51 #[.int .i64 kind, .int .i64 ffr, .int .i64 fto, .int .u64 (finc : Int), .int .u64 (fconn : Int), .int .u64 (pinc : Int), .int .u64 (pconn : Int), .int .u64 (fack : Int), .int .u64 (fseq : Int), .slice AZ body.length cZ] :: Ce w.heap.size 37 #[.int .i64 d, .int .i64 at_, .int .i64 nn] :: Qs)) from by
          have hb := HFO.out; rw [← HfF.out] at hb ⊢; exact takeA1 (f := ⟨kind, ffr, fto, finc, fconn, pinc, pconn, fack, fseq, body⟩) (A := AZ) (c := cZ) hS (reads_by rfl) HO0.out (by omega) (by have := hb.2.2.2.2; unfold maxLen; simp only at this ⊢; omega) (by have := hb.2.2.1; simp only at this ⊢; omega) (by have := hb.2.2.2.1; simp only at this ⊢; omega))
         have HC2 := Lib.hid (fun (W : World) (v : Value) (hS : MidA a0 a1 v w0 W g (T0.withL true ((T0.l true).take (T0.now true) fF)) ((T0.l true).takeF (T0.now true) fF) ((T0.l true).takeE (T0.now true) fF) (By (.slice AZ body.length cZ) body :: Ce (w3.heap.size) 51 #[.int .i64 kind, .int .i64 ffr, .int .i64 fto, .int .u64 (finc : Int), .int .u64 (fconn : Int), .int .u64 (pinc : Int), .int .u64 (pconn : Int), .int .u64 (fack : Int), .int .u64 (fseq : Int), .slice AZ body.length cZ] :: Ce w.heap.size 37 #[.int .i64 d, .int .i64 at_, .int .i64 nn] :: Qs)) => show Calls Try.prog 31 #[.pointer (some ⟨g, 0, none⟩), .int .i64 1, v] W (fun e w' => e = .returned (.tuple #[]) ∧ TwA a0 a1 w0 w' g (T0.take true fF) (By (.slice AZ body.length cZ) body :: Ce (w3.heap.size) 51 #[.int .i64 kind, .int .i64 ffr, .int .i64 fto, .int .u64 (finc : Int), .int .u64 (fconn : Int), .int .u64 (pinc : Int), .int .u64 (pconn : Int), .int .u64 (fack : Int), .int .u64 (fseq : Int), .slice AZ body.length cZ] :: Ce w.heap.size 37 #[.int .i64 d, .int .i64 at_, .int .i64 nn] :: Qs)) from by
          have hn := HO0.out.now true; have hk := takeF_ok (HO0.out.num true) (HO0.out.ids true) (now := T0.now true) (by omega) (f := fF) ⟨HFO.out.1, HFO.out.2.1⟩; exact ansA1 hS (HO0.out.withL true ((HO0.out.num true).take (now := T0.now true) (by omega) fF) (ids_take (HO0.out.ids true) (T0.now true) ⟨HFO.out.1, HFO.out.2.1⟩)) (by omega) (by omega) (by omega))
         clear h4 hcut
         go_wp2_with fail
         refine wRG (fun dn xv W => if dn 16 = true then TwA a0 a1 w0 W g (T0.take true fF) (By (.slice AZ body.length cZ) body :: Ce (w3.heap.size) 51 #[.int .i64 kind, .int .i64 ffr, .int .i64 fto, .int .u64 (finc : Int), .int .u64 (fconn : Int), .int .u64 (pinc : Int), .int .u64 (pconn : Int), .int .u64 (fack : Int), .int .u64 (fseq : Int), .slice AZ body.length cZ] :: Ce w.heap.size 37 #[.int .i64 d, .int .i64 at_, .int .i64 nn] :: Qs) else if dn 15 = true then MidA a0 a1 (xv 15) w0 W g (T0.withL true ((T0.l true).take (T0.now true) fF)) ((T0.l true).takeF (T0.now true) fF) ((T0.l true).takeE (T0.now true) fF) (By (.slice AZ body.length cZ) body :: Ce (w3.heap.size) 51 #[.int .i64 kind, .int .i64 ffr, .int .i64 fto, .int .u64 (finc : Int), .int .u64 (fconn : Int), .int .u64 (pinc : Int), .int .u64 (pconn : Int), .int .u64 (fack : Int), .int .u64 (fseq : Int), .slice AZ body.length cZ] :: Ce w.heap.size 37 #[.int .i64 d, .int .i64 at_, .int .i64 nn] :: Qs) else TwA a0 a1 w0 W g T0 (By (.slice AZ body.length cZ) body :: Ce (w3.heap.size) 51 #[.int .i64 kind, .int .i64 ffr, .int .i64 fto, .int .u64 (finc : Int), .int .u64 (fconn : Int), .int .u64 (pinc : Int), .int .u64 (pconn : Int), .int .u64 (fack : Int), .int .u64 (fseq : Int), .slice AZ body.length cZ] :: Ce w.heap.size 37 #[.int .i64 d, .int .i64 at_, .int .i64 nn] :: Qs)) (fun _ _ => True) [xP_ g 0, xV_ (.int .i64 1), xP_ g 0, xV_ (.int .i64 1), xP_ g 0, xP_ g 0, xP_ g 1, xP_ a1 0, xP_ g 0, xV_ (.int .i64 1), xP_ g 0, xP_ g 4, xP_ g 5, xV_ (.int .u64 ((T0.now true : Nat) : Int)), xV_ (.agg #[.int .i64 kind, .int .i64 ffr, .int .i64 fto, .int .u64 (finc : Int), .int .u64 (fconn : Int), .int .u64 (pinc : Int), .int .u64 (pconn : Int), .int .u64 (fack : Int), .int .u64 (fseq : Int), .slice AZ body.length cZ]), fun v _ => True, fun v _ => True] (fun xv => by simpa using HA6.out.drew) ?_ ?_
         ·refine Ep 1 0 g 0 ?_
          refine Ei 2 4 (.int .i64 1) ?_
          refine Ep 3 0 g 0 ?_
          refine Ei 4 4 (.int .i64 1) ?_
          refine Ee 5 118 2 ?_
          refine Ee 6 120 4 ?_
          refine Eee 7 119 3 121 5 ?_
          refine EC 8 rfl (fun g h W F a b c d e H K f => ?_) ?_
          ·have f122 := gE (a 122) (by kernel_rfl) (H 6) (by kernel_rfl); have q1 := c 15 uE; have q2 := c 16 (uM 15 uE); have hq := e; rw [if_neg (by simp [q2]), if_neg (by simp [q1])] at hq; have kk := hq.l1; clear H c b d a; refine oP rfl ?_; go_simp; exact f.out _ _ rfl trivial e
          refine Ep 9 0 g 0 ?_
          refine Ei 10 4 (.int .i64 1) ?_
          refine Ee 11 124 8 ?_
          refine Ee 12 126 10 ?_
          refine Eee 13 125 9 127 11 ?_
          refine EC 14 rfl (fun g h W F a b c d e H K f => ?_) ?_
          ·have f128 := gE (a 128) (by kernel_rfl) (H 12) (by kernel_rfl); have q1 := c 15 uE; have q2 := c 16 (uM 15 uE); have hq := e; rw [if_neg (by simp [q2]), if_neg (by simp [q1])] at hq; have kk := hq.t1; clear H c b d a; refine oP rfl ?_; go_simp; exact f.out _ _ rfl trivial e
          refine EC 15 rfl (fun g h W F a b c d e H K f => ?_) ?_
          ·have f7 : F.tmps.getD 7 undef = .pointer (some ⟨w3.heap.size, 0, none⟩) := (a 7).trans (by kernel_rfl); have q1 := c 15 uE; have q2 := c 16 (uM 15 uE); have hq := e; rw [if_neg (by simp [q2]), if_neg (by simp [q1])] at hq; obtain ⟨kf0, kf1, kf2, kf3, kf4, kf5, kf6, kf7, kf8, kf9⟩ := HF.out W hq; clear H c b d a; refine oP rfl ?_; go_simp; exact f.out _ _ rfl trivial e
          refine EC 16 rfl (fun h i W F a b c d f H K g => ?_) ?_
          ·have f123 := gE (a 123) (by kernel_rfl) (H 7) (by kernel_rfl); have f129 := gE (a 129) (by kernel_rfl) (H 13) (by kernel_rfl); have f130 := gE (a 130) (by kernel_rfl) (H 14) (by kernel_rfl); have q16 := c 16 uE; rw [if_neg (by simp [q16]), if_neg (by simp [b])] at f; have hS := f; clear f c b d a H; refine oP rfl ?_; go_simp; refine (HC1.out W hS).mono ?_; rintro e W' ⟨v, rfl, hs⟩; exact g.out v W' trivial trivial (by simpa [upB, upd, q16] using hs)
          refine EC 17 rfl (fun h i W F a b c d f H K g => ?_) ?_
          ·have f116 := gE (a 116) (by kernel_rfl) (H 0) (by kernel_rfl); have f117 := gE (a 117) (by kernel_rfl) (H 1) (by kernel_rfl); have f131 : F.tmps.getD 131 undef = i 15 := (a 131).trans (by kernel_rfl); have q15 := (H 15 uE).1; rw [if_neg (by simp [b]), if_pos q15] at f; have hS := f; clear f c b d a H; refine oP rfl ?_; go_simp; refine (HC2.out W _ hS).mono ?_; rintro e W' ⟨rfl, hs⟩; exact g.out _ W' trivial trivial (by simpa [upB, upd] using hs)
          exact EN
         ·intro dn xv W hI H; have qe : dn 16 = true := (H 16 (of_decide_eq_true (by kernel_rfl))).1; rw [if_pos qe] at hI; have hS := hI; clear H hI qe; simp only [putAll, Act.put, List.setIfInBounds_toArray, List.set_cons_zero, List.set_cons_succ, Nat.reduceAdd]
          go_wp2_with fail
          go_meet
          case rel => exact ⟨a0, a1, _, hS.pop.pop.pop, Lib.hid ⟨by rw [act_mid H234.out HJW.out HFW.out, HT0.out]; simp only; rw [if_neg H4.out], (HO0.out.take (by omega) true HFO.out).mono (by omega)⟩⟩
    ·have e2 : (d == 2) = false := by simp; omega
     have e3 : (d == 3) = false := by simp; omega
     have e4 : (d == 4) = false := by simp; omega
     by_cases h5 : d = 5
     ·subst h5
      go_wp2_with fail
      refine (lifeA1 HA.out hO (by omega)).mono ?_; rintro e w2 ⟨rfl, a, h2⟩; have HA2 := Lib.hid h2; clear h2
      go_wp2_with fail
      go_meet
      case rel => exact ⟨_, _, _, HA2.out, Lib.hid ⟨by rw [TW.act, if_neg (by decide), if_neg (by decide), if_neg (by decide), if_pos rfl], (hO.life true).mono (by omega)⟩⟩
     ·have e5 : (d == 5) = false := by simpa using h5
      go_wp2_with fail
      go_meet
      case rel => exact ⟨a0, a1, T, HA.out, Lib.hid ⟨by rw [TW.act, if_neg h0, if_neg h1, if_neg h234, if_neg h5], hO.mono (by omega)⟩⟩
 case rest =>
  obtain ⟨c0, c1, T1, hA, HR⟩ := hcut; have HA1 := Lib.hid (show TwA c0 c1 w0 wc g (T1.trimTo 0) Qs by rw [trimTo_0]; exact hA); clear hA HA HAB HSB k0 k1 k2 hO
  go_wp2_with fail
  go_loopw [8] (fun iv wr => ∃ m : Nat, m ≤ 2 ∧ iv = .int .i64 (m : Int) ∧ Hid (TwA c0 c1 w0 wr g (T1.trimTo m) Qs)) (fun iv _ => 2 - (intOf iv).toNat)
  case atStart => exact ⟨0, by omega, rfl, HA1⟩
  case round =>
   obtain ⟨m, hm, rfl, HM⟩ := hrel
   rcases (show m = 0 ∨ m = 1 ∨ m = 2 by omega) with e | e | e
   ·subst e; obtain ⟨b0, b1, v0, v1, W0, W1, BB, bs, bt, q1, q2, q3, q4, h⟩ := HM.out; obtain ⟨AV, cV, hv, hcV, hcV2, _⟩ := sep_rwoForm (i := 5) h rfl; subst hv; obtain ⟨nl, Hnl⟩ : ∃ y, Hid (W0.length = y) := ⟨_, Lib.hid rfl⟩; rw [Hnl.out] at hcV; have HS2 := Lib.hid (show Sep w0 wr (Ce g 34 #[.pointer (some ⟨c0, 0, none⟩), .pointer (some ⟨c1, 0, none⟩), .int .u64 ((((T1.trimTo 0).l false).si : Nat) : Int), .int .u64 ((((T1.trimTo 0).l true).si : Nat) : Int), .int .u64 (((T1.trimTo 0).now false : Nat) : Int), .int .u64 (((T1.trimTo 0).now true : Nat) : Int), .slice AV nl cV, v1, .map (some bs), .map (some bt), .int .i64 (((T1.trimTo 0).n : Nat) : Int), .bool false] :: (Ce c0 72 (((T1.trimTo 0).l false).cells b0) :: BoxT b0 ((T1.trimTo 0).l false).box :: Ce c1 72 (((T1.trimTo 0).l true).cells b1) :: BoxT b1 ((T1.trimTo 0).l true).box :: RwO 51 10 (.slice AV nl cV) nl (fR_ W0) :: RwO 51 10 v1 W1.length (fR_ W1) :: Bods BB :: MapT bs (T1.trimTo 0).sent :: MapT bt (T1.trimTo 0).told :: Qs)) by rw [← Hnl.out]; exact h); have HQ := Lib.hid (And.intro q1 (And.intro q2 (And.intro q3 q4))); have hnl : nl = ((T1.trimTo 0).way false).length := by rw [← Hnl.out, ← q1, List.length_map]
    have hnb : nl ≤ B + 20 := by rw [hnl]; exact HR.out.2.way false
    have HNL := Lib.hid hnl; clear h q1 q2 q3 q4 hnl; have kk := cA (i := 0) HS2.out rfl 6 rfl
    by_cases h3 : 300 < nl
    ·have e3 : decide (300 < (nl : Int)) = true := by simp; omega
     obtain ⟨nd, Hnd⟩ : ∃ y, Hid (nl - 300 = y) := ⟨_, Lib.hid rfl⟩; have hnd : nd ≤ nl := by rw [← Hnd.out]; omega
     have esub : IntKind.i64.wrap ((nl : Int) - 300) = (nd : Int) := by rw [IntKind.wrap_i64]; have := Hnd.out; omega
     obtain ⟨SA, HSA⟩ : ∃ y, Hid ((if cV = nd then AV else AV.map (·.add (nd * 10))) = y) := ⟨_, Lib.hid rfl⟩; obtain ⟨sn, Hsn⟩ : ∃ y, Hid (nl - nd = y) := ⟨_, Lib.hid rfl⟩; obtain ⟨sc, Hsc⟩ : ∃ y, Hid (cV - nd = y) := ⟨_, Lib.hid rfl⟩; have HRS : Hid (∀ W, (Instr.slice 30 (.slice AV nl cV) (some (.int .i64 (nd : Int))) none none).run Try.prog W = .ok (.slice SA sn sc) W) := Lib.hid (fun W => by rw [run_fromF W AV nl cV nd hnd, HSA.out, Hsn.out, Hsc.out]); have HPUT : Hid (∀ W, Sep w0 W (Ce g 34 #[.pointer (some ⟨c0, 0, none⟩), .pointer (some ⟨c1, 0, none⟩), .int .u64 ((((T1.trimTo 0).l false).si : Nat) : Int), .int .u64 ((((T1.trimTo 0).l true).si : Nat) : Int), .int .u64 (((T1.trimTo 0).now false : Nat) : Int), .int .u64 (((T1.trimTo 0).now true : Nat) : Int), .slice AV nl cV, v1, .map (some bs), .map (some bt), .int .i64 (((T1.trimTo 0).n : Nat) : Int), .bool false] :: (Ce c0 72 (((T1.trimTo 0).l false).cells b0) :: BoxT b0 ((T1.trimTo 0).l false).box :: Ce c1 72 (((T1.trimTo 0).l true).cells b1) :: BoxT b1 ((T1.trimTo 0).l true).box :: RwO 51 10 (.slice AV nl cV) nl (fR_ W0) :: RwO 51 10 v1 W1.length (fR_ W1) :: Bods BB :: MapT bs (T1.trimTo 0).sent :: MapT bt (T1.trimTo 0).told :: Qs)) → Sep w0 (W.setCell ⟨g, 6, none⟩ (.slice SA sn sc)) (Ce g 34 #[.pointer (some ⟨c0, 0, none⟩), .pointer (some ⟨c1, 0, none⟩), .int .u64 ((((T1.trimTo 0).l false).si : Nat) : Int), .int .u64 ((((T1.trimTo 0).l true).si : Nat) : Int), .int .u64 (((T1.trimTo 0).now false : Nat) : Int), .int .u64 (((T1.trimTo 0).now true : Nat) : Int), .slice SA sn sc, v1, .map (some bs), .map (some bt), .int .i64 (((T1.trimTo 0).n : Nat) : Int), .bool false] :: (Ce c0 72 (((T1.trimTo 0).l false).cells b0) :: BoxT b0 ((T1.trimTo 0).l false).box :: Ce c1 72 (((T1.trimTo 0).l true).cells b1) :: BoxT b1 ((T1.trimTo 0).l true).box :: RwO 51 10 (.slice SA sn sc) sn ((fR_ W0).drop (nd * 10)) :: RwO 51 10 v1 W1.length (fR_ W1) :: Bods BB :: MapT bs (T1.trimTo 0).sent :: MapT bt (T1.trimTo 0).told :: Qs))) := Lib.hid (fun W hS => by
      have h1 := sep_rwoFrom (i := 5) (cS (i := 0) hS rfl 6 (.slice SA sn sc)) rfl hnd; rw [HSA.out, Hsn.out, Hsc.out] at h1; exact h1)
     clear hnd
     go_wp2_with fail
     refine wRG (fun dn xv W => if dn 14 = true then Sep w0 W (Ce g 34 #[.pointer (some ⟨c0, 0, none⟩), .pointer (some ⟨c1, 0, none⟩), .int .u64 ((((T1.trimTo 0).l false).si : Nat) : Int), .int .u64 ((((T1.trimTo 0).l true).si : Nat) : Int), .int .u64 (((T1.trimTo 0).now false : Nat) : Int), .int .u64 (((T1.trimTo 0).now true : Nat) : Int), .slice SA sn sc, v1, .map (some bs), .map (some bt), .int .i64 (((T1.trimTo 0).n : Nat) : Int), .bool false] :: (Ce c0 72 (((T1.trimTo 0).l false).cells b0) :: BoxT b0 ((T1.trimTo 0).l false).box :: Ce c1 72 (((T1.trimTo 0).l true).cells b1) :: BoxT b1 ((T1.trimTo 0).l true).box :: RwO 51 10 (.slice SA sn sc) sn ((fR_ W0).drop (nd * 10)) :: RwO 51 10 v1 W1.length (fR_ W1) :: Bods BB :: MapT bs (T1.trimTo 0).sent :: MapT bt (T1.trimTo 0).told :: Qs)) else Sep w0 W (Ce g 34 #[.pointer (some ⟨c0, 0, none⟩), .pointer (some ⟨c1, 0, none⟩), .int .u64 ((((T1.trimTo 0).l false).si : Nat) : Int), .int .u64 ((((T1.trimTo 0).l true).si : Nat) : Int), .int .u64 (((T1.trimTo 0).now false : Nat) : Int), .int .u64 (((T1.trimTo 0).now true : Nat) : Int), .slice AV nl cV, v1, .map (some bs), .map (some bt), .int .i64 (((T1.trimTo 0).n : Nat) : Int), .bool false] :: (Ce c0 72 (((T1.trimTo 0).l false).cells b0) :: BoxT b0 ((T1.trimTo 0).l false).box :: Ce c1 72 (((T1.trimTo 0).l true).cells b1) :: BoxT b1 ((T1.trimTo 0).l true).box :: RwO 51 10 (.slice AV nl cV) nl (fR_ W0) :: RwO 51 10 v1 W1.length (fR_ W1) :: Bods BB :: MapT bs (T1.trimTo 0).sent :: MapT bt (T1.trimTo 0).told :: Qs))) (fun _ _ => True) [xP_ g 0, xV_ (.int .i64 0), xP_ g 0, xV_ (.int .i64 0), xP_ g 0, xP_ g 6, xP_ g 6, xV_ (.slice AV nl cV), xV_ (.int .i64 (nl : Int)), xV_ (.int .i64 (nd : Int)), xV_ (.slice SA sn sc), xP_ g 0, xP_ g 6, xP_ g 6, fun v _ => True] (fun xv => by simpa using HS2.out.drew) ?_ ?_
     ·refine Ep 1 0 g 0 ?_
      refine Ei 2 8 (.int .i64 0) ?_
      refine Ep 3 0 g 0 ?_
      refine Ei 4 8 (.int .i64 0) ?_
      refine Ee 5 153 2 ?_
      refine Ee 6 155 4 ?_
      refine Eee 7 154 3 156 5 ?_
      refine EC 8 rfl (fun g h W F a b c d e H K f => ?_) ?_
      ·have f157 := gE (a 157) (by kernel_rfl) (H 6) (by kernel_rfl); have q14 := c 14 (uM 10 uE); have hq := e; rw [if_neg (by simp [q14])] at hq; have kk := cA (i := 0) hq rfl 6 rfl; clear H c b d a; refine oP rfl ?_; go_simp; exact f.out _ _ rfl trivial e
      refine Ei 9 9 (.int .i64 (nl : Int)) ?_
      refine Ee 10 159 8 ?_
      refine Eeek 11 158 7 160 9 (fun _ _ W _ => HRS.out W) ?_
      refine Ee 12 151 0 ?_
      refine Ee 13 162 11 ?_
      refine Eee 14 152 1 163 12 ?_
      refine EC 15 rfl (fun h j W F a b c d e H K f => ?_) ?_
      ·have f161 := gE (a 161) (by kernel_rfl) (H 10) (by kernel_rfl); have f164 := gE (a 164) (by kernel_rfl) (H 13) (by kernel_rfl); rw [if_neg (by simp [b])] at e; have hS := e; clear e c b d a H; refine oP rfl ?_; have yy := cFz (i := 0) hS rfl 6; have kk := cA (i := 0) hS rfl 6 rfl; have hs : Sep w0 (W.setCell ⟨g, 6, none⟩ (.slice SA sn sc)) (Ce g 34 #[.pointer (some ⟨c0, 0, none⟩), .pointer (some ⟨c1, 0, none⟩), .int .u64 ((((T1.trimTo 0).l false).si : Nat) : Int), .int .u64 ((((T1.trimTo 0).l true).si : Nat) : Int), .int .u64 (((T1.trimTo 0).now false : Nat) : Int), .int .u64 (((T1.trimTo 0).now true : Nat) : Int), .slice SA sn sc, v1, .map (some bs), .map (some bt), .int .i64 (((T1.trimTo 0).n : Nat) : Int), .bool false] :: (Ce c0 72 (((T1.trimTo 0).l false).cells b0) :: BoxT b0 ((T1.trimTo 0).l false).box :: Ce c1 72 (((T1.trimTo 0).l true).cells b1) :: BoxT b1 ((T1.trimTo 0).l true).box :: RwO 51 10 (.slice SA sn sc) sn ((fR_ W0).drop (nd * 10)) :: RwO 51 10 v1 W1.length (fR_ W1) :: Bods BB :: MapT bs (T1.trimTo 0).sent :: MapT bt (T1.trimTo 0).told :: Qs)) := HPUT.out W hS; go_simp; exact f.out undef _ trivial trivial (by simpa [upB, upd] using hs)
      exact EN
     ·intro dn xv W hI H; have qe : dn 14 = true := (H 14 (of_decide_eq_true (by kernel_rfl))).1; rw [if_pos qe] at hI; have hS := hI; clear H hI qe; simp only [putAll, Act.put, List.setIfInBounds_toArray, List.set_cons_zero, List.set_cons_succ, Nat.reduceAdd]; have HS3 := Lib.hid hS; clear hS
      go_wp2_with fail
      go_roundw
      case rel =>
       refine ⟨1, by omega, rfl, Lib.hid ⟨b0, b1, .slice SA sn sc, v1, W0.drop nd, W1, BB, bs, bt, ?_, ?_, ?_, ?_, ?_⟩⟩
       ·rw [List.map_drop, HQ.out.1]; exact trim_nd T1 false HNL.out Hnd.out
       ·exact HQ.out.2.1
       ·exact fun y hy => HQ.out.2.2.1 y (frBods_drop hy)
       ·exact HQ.out.2.2.2
       ·have h1 := HS3.out; rw [← frRow_drop, show sn = (W0.drop nd).length by rw [List.length_drop, Hnl.out, Hsn.out]] at h1; rw [show sn = (W0.drop nd).length by rw [List.length_drop, Hnl.out, Hsn.out]]; exact h1
      case measure => simp [intOf]
    ·have e3 : decide (300 < (nl : Int)) = false := by simp; omega
     have HM2 : Hid (TwA c0 c1 w0 wr g (T1.trimTo 1) Qs) := Lib.hid (by
      rw [trimTo_step0 T1 (by have h4 := HNL.out; rw [show (T1.trimTo 0).way false = T1.way false by simp [TW.trimTo]] at h4; omega)]; exact HM.out)
     go_wp2_with fail
     go_roundw
     case rel => exact ⟨1, by omega, rfl, HM2⟩
     case measure => simp [intOf]
   ·subst e; obtain ⟨b0, b1, v0, v1, W0, W1, BB, bs, bt, q1, q2, q3, q4, h⟩ := HM.out; obtain ⟨AV, cV, hv, hcV, hcV2, _⟩ := sep_rwoForm (i := 6) h rfl; subst hv; obtain ⟨nl, Hnl⟩ : ∃ y, Hid (W1.length = y) := ⟨_, Lib.hid rfl⟩; rw [Hnl.out] at hcV; have HS2 := Lib.hid (show Sep w0 wr (Ce g 34 #[.pointer (some ⟨c0, 0, none⟩), .pointer (some ⟨c1, 0, none⟩), .int .u64 ((((T1.trimTo 1).l false).si : Nat) : Int), .int .u64 ((((T1.trimTo 1).l true).si : Nat) : Int), .int .u64 (((T1.trimTo 1).now false : Nat) : Int), .int .u64 (((T1.trimTo 1).now true : Nat) : Int), v0, .slice AV nl cV, .map (some bs), .map (some bt), .int .i64 (((T1.trimTo 1).n : Nat) : Int), .bool false] :: (Ce c0 72 (((T1.trimTo 1).l false).cells b0) :: BoxT b0 ((T1.trimTo 1).l false).box :: Ce c1 72 (((T1.trimTo 1).l true).cells b1) :: BoxT b1 ((T1.trimTo 1).l true).box :: RwO 51 10 v0 W0.length (fR_ W0) :: RwO 51 10 (.slice AV nl cV) nl (fR_ W1) :: Bods BB :: MapT bs (T1.trimTo 1).sent :: MapT bt (T1.trimTo 1).told :: Qs)) by rw [← Hnl.out]; exact h); have HQ := Lib.hid (And.intro q1 (And.intro q2 (And.intro q3 q4))); have hnl : nl = ((T1.trimTo 1).way true).length := by rw [← Hnl.out, ← q2, List.length_map]
    have hnb : nl ≤ B + 20 := by rw [hnl]; exact HR.out.2.way true
    have HNL := Lib.hid hnl; clear h q1 q2 q3 q4 hnl; have kk := cA (i := 0) HS2.out rfl 7 rfl
    by_cases h3 : 300 < nl
    ·have e3 : decide (300 < (nl : Int)) = true := by simp; omega
     obtain ⟨nd, Hnd⟩ : ∃ y, Hid (nl - 300 = y) := ⟨_, Lib.hid rfl⟩; have hnd : nd ≤ nl := by rw [← Hnd.out]; omega
     have esub : IntKind.i64.wrap ((nl : Int) - 300) = (nd : Int) := by rw [IntKind.wrap_i64]; have := Hnd.out; omega
     obtain ⟨SA, HSA⟩ : ∃ y, Hid ((if cV = nd then AV else AV.map (·.add (nd * 10))) = y) := ⟨_, Lib.hid rfl⟩; obtain ⟨sn, Hsn⟩ : ∃ y, Hid (nl - nd = y) := ⟨_, Lib.hid rfl⟩; obtain ⟨sc, Hsc⟩ : ∃ y, Hid (cV - nd = y) := ⟨_, Lib.hid rfl⟩; have HRS : Hid (∀ W, (Instr.slice 30 (.slice AV nl cV) (some (.int .i64 (nd : Int))) none none).run Try.prog W = .ok (.slice SA sn sc) W) := Lib.hid (fun W => by rw [run_fromF W AV nl cV nd hnd, HSA.out, Hsn.out, Hsc.out]); have HPUT : Hid (∀ W, Sep w0 W (Ce g 34 #[.pointer (some ⟨c0, 0, none⟩), .pointer (some ⟨c1, 0, none⟩), .int .u64 ((((T1.trimTo 1).l false).si : Nat) : Int), .int .u64 ((((T1.trimTo 1).l true).si : Nat) : Int), .int .u64 (((T1.trimTo 1).now false : Nat) : Int), .int .u64 (((T1.trimTo 1).now true : Nat) : Int), v0, .slice AV nl cV, .map (some bs), .map (some bt), .int .i64 (((T1.trimTo 1).n : Nat) : Int), .bool false] :: (Ce c0 72 (((T1.trimTo 1).l false).cells b0) :: BoxT b0 ((T1.trimTo 1).l false).box :: Ce c1 72 (((T1.trimTo 1).l true).cells b1) :: BoxT b1 ((T1.trimTo 1).l true).box :: RwO 51 10 v0 W0.length (fR_ W0) :: RwO 51 10 (.slice AV nl cV) nl (fR_ W1) :: Bods BB :: MapT bs (T1.trimTo 1).sent :: MapT bt (T1.trimTo 1).told :: Qs)) → Sep w0 (W.setCell ⟨g, 7, none⟩ (.slice SA sn sc)) (Ce g 34 #[.pointer (some ⟨c0, 0, none⟩), .pointer (some ⟨c1, 0, none⟩), .int .u64 ((((T1.trimTo 1).l false).si : Nat) : Int), .int .u64 ((((T1.trimTo 1).l true).si : Nat) : Int), .int .u64 (((T1.trimTo 1).now false : Nat) : Int), .int .u64 (((T1.trimTo 1).now true : Nat) : Int), v0, .slice SA sn sc, .map (some bs), .map (some bt), .int .i64 (((T1.trimTo 1).n : Nat) : Int), .bool false] :: (Ce c0 72 (((T1.trimTo 1).l false).cells b0) :: BoxT b0 ((T1.trimTo 1).l false).box :: Ce c1 72 (((T1.trimTo 1).l true).cells b1) :: BoxT b1 ((T1.trimTo 1).l true).box :: RwO 51 10 v0 W0.length (fR_ W0) :: RwO 51 10 (.slice SA sn sc) sn ((fR_ W1).drop (nd * 10)) :: Bods BB :: MapT bs (T1.trimTo 1).sent :: MapT bt (T1.trimTo 1).told :: Qs))) := Lib.hid (fun W hS => by
      have h1 := sep_rwoFrom (i := 6) (cS (i := 0) hS rfl 7 (.slice SA sn sc)) rfl hnd; rw [HSA.out, Hsn.out, Hsc.out] at h1; exact h1)
     clear hnd
     go_wp2_with fail
     refine wRG (fun dn xv W => if dn 14 = true then Sep w0 W (Ce g 34 #[.pointer (some ⟨c0, 0, none⟩), .pointer (some ⟨c1, 0, none⟩), .int .u64 ((((T1.trimTo 1).l false).si : Nat) : Int), .int .u64 ((((T1.trimTo 1).l true).si : Nat) : Int), .int .u64 (((T1.trimTo 1).now false : Nat) : Int), .int .u64 (((T1.trimTo 1).now true : Nat) : Int), v0, .slice SA sn sc, .map (some bs), .map (some bt), .int .i64 (((T1.trimTo 1).n : Nat) : Int), .bool false] :: (Ce c0 72 (((T1.trimTo 1).l false).cells b0) :: BoxT b0 ((T1.trimTo 1).l false).box :: Ce c1 72 (((T1.trimTo 1).l true).cells b1) :: BoxT b1 ((T1.trimTo 1).l true).box :: RwO 51 10 v0 W0.length (fR_ W0) :: RwO 51 10 (.slice SA sn sc) sn ((fR_ W1).drop (nd * 10)) :: Bods BB :: MapT bs (T1.trimTo 1).sent :: MapT bt (T1.trimTo 1).told :: Qs)) else Sep w0 W (Ce g 34 #[.pointer (some ⟨c0, 0, none⟩), .pointer (some ⟨c1, 0, none⟩), .int .u64 ((((T1.trimTo 1).l false).si : Nat) : Int), .int .u64 ((((T1.trimTo 1).l true).si : Nat) : Int), .int .u64 (((T1.trimTo 1).now false : Nat) : Int), .int .u64 (((T1.trimTo 1).now true : Nat) : Int), v0, .slice AV nl cV, .map (some bs), .map (some bt), .int .i64 (((T1.trimTo 1).n : Nat) : Int), .bool false] :: (Ce c0 72 (((T1.trimTo 1).l false).cells b0) :: BoxT b0 ((T1.trimTo 1).l false).box :: Ce c1 72 (((T1.trimTo 1).l true).cells b1) :: BoxT b1 ((T1.trimTo 1).l true).box :: RwO 51 10 v0 W0.length (fR_ W0) :: RwO 51 10 (.slice AV nl cV) nl (fR_ W1) :: Bods BB :: MapT bs (T1.trimTo 1).sent :: MapT bt (T1.trimTo 1).told :: Qs))) (fun _ _ => True) [xP_ g 0, xV_ (.int .i64 1), xP_ g 0, xV_ (.int .i64 1), xP_ g 0, xP_ g 6, xP_ g 7, xV_ (.slice AV nl cV), xV_ (.int .i64 (nl : Int)), xV_ (.int .i64 (nd : Int)), xV_ (.slice SA sn sc), xP_ g 0, xP_ g 6, xP_ g 7, fun v _ => True] (fun xv => by simpa using HS2.out.drew) ?_ ?_
     ·refine Ep 1 0 g 0 ?_
      refine Ei 2 8 (.int .i64 1) ?_
      refine Ep 3 0 g 0 ?_
      refine Ei 4 8 (.int .i64 1) ?_
      refine Ee 5 153 2 ?_
      refine Ee 6 155 4 ?_
      refine Eee 7 154 3 156 5 ?_
      refine EC 8 rfl (fun g h W F a b c d e H K f => ?_) ?_
      ·have f157 := gE (a 157) (by kernel_rfl) (H 6) (by kernel_rfl); have q14 := c 14 (uM 10 uE); have hq := e; rw [if_neg (by simp [q14])] at hq; have kk := cA (i := 0) hq rfl 7 rfl; clear H c b d a; refine oP rfl ?_; go_simp; exact f.out _ _ rfl trivial e
      refine Ei 9 9 (.int .i64 (nl : Int)) ?_
      refine Ee 10 159 8 ?_
      refine Eeek 11 158 7 160 9 (fun _ _ W _ => HRS.out W) ?_
      refine Ee 12 151 0 ?_
      refine Ee 13 162 11 ?_
      refine Eee 14 152 1 163 12 ?_
      refine EC 15 rfl (fun h j W F a b c d e H K f => ?_) ?_
      ·have f161 := gE (a 161) (by kernel_rfl) (H 10) (by kernel_rfl); have f164 := gE (a 164) (by kernel_rfl) (H 13) (by kernel_rfl); rw [if_neg (by simp [b])] at e; have hS := e; clear e c b d a H; refine oP rfl ?_; have yy := cFz (i := 0) hS rfl 7; have kk := cA (i := 0) hS rfl 7 rfl; have hs : Sep w0 (W.setCell ⟨g, 7, none⟩ (.slice SA sn sc)) (Ce g 34 #[.pointer (some ⟨c0, 0, none⟩), .pointer (some ⟨c1, 0, none⟩), .int .u64 ((((T1.trimTo 1).l false).si : Nat) : Int), .int .u64 ((((T1.trimTo 1).l true).si : Nat) : Int), .int .u64 (((T1.trimTo 1).now false : Nat) : Int), .int .u64 (((T1.trimTo 1).now true : Nat) : Int), v0, .slice SA sn sc, .map (some bs), .map (some bt), .int .i64 (((T1.trimTo 1).n : Nat) : Int), .bool false] :: (Ce c0 72 (((T1.trimTo 1).l false).cells b0) :: BoxT b0 ((T1.trimTo 1).l false).box :: Ce c1 72 (((T1.trimTo 1).l true).cells b1) :: BoxT b1 ((T1.trimTo 1).l true).box :: RwO 51 10 v0 W0.length (fR_ W0) :: RwO 51 10 (.slice SA sn sc) sn ((fR_ W1).drop (nd * 10)) :: Bods BB :: MapT bs (T1.trimTo 1).sent :: MapT bt (T1.trimTo 1).told :: Qs)) := HPUT.out W hS; go_simp; exact f.out undef _ trivial trivial (by simpa [upB, upd] using hs)
      exact EN
     ·intro dn xv W hI H; have qe : dn 14 = true := (H 14 (of_decide_eq_true (by kernel_rfl))).1; rw [if_pos qe] at hI; have hS := hI; clear H hI qe; simp only [putAll, Act.put, List.setIfInBounds_toArray, List.set_cons_zero, List.set_cons_succ, Nat.reduceAdd]; have HS3 := Lib.hid hS; clear hS
      go_wp2_with fail
      go_roundw
      case rel =>
       refine ⟨2, by omega, rfl, Lib.hid ⟨b0, b1, v0, .slice SA sn sc, W0, W1.drop nd, BB, bs, bt, ?_, ?_, ?_, ?_, ?_⟩⟩
       ·exact HQ.out.1
       ·rw [List.map_drop, HQ.out.2.1]; exact trim_nd T1 true HNL.out Hnd.out
       ·exact HQ.out.2.2.1
       ·exact fun y hy => HQ.out.2.2.2 y (frBods_drop hy)
       ·have h1 := HS3.out; rw [← frRow_drop, show sn = (W1.drop nd).length by rw [List.length_drop, Hnl.out, Hsn.out]] at h1; rw [show sn = (W1.drop nd).length by rw [List.length_drop, Hnl.out, Hsn.out]]; exact h1
      case measure => simp [intOf]
    ·have e3 : decide (300 < (nl : Int)) = false := by simp; omega
     have HM2 : Hid (TwA c0 c1 w0 wr g (T1.trimTo 2) Qs) := Lib.hid (by
      rw [trimTo_step1 T1 (by have h4 := HNL.out; rw [show (T1.trimTo 1).way true = T1.way true by simp [TW.trimTo]] at h4; omega)]; exact HM.out)
     go_wp2_with fail
     go_roundw
     case rel => exact ⟨2, by omega, rfl, HM2⟩
     case measure => simp [intOf]
   ·subst e
    go_wp2_with fail
    go_end0
    refine ⟨rfl, true, k, c0, c1, ?_, ?_⟩
    ·rw [HR.out.1, ← trimTo_2]; exact HM.out
    ·rw [HR.out.1]; exact HR.out.2.trim
/-- an act, whatever it is -/
theorem actA {w0 w : World} {Qs : List SP} {g a0 a1 B : Nat} {T : TW} (h : TwA a0 a1 w0 w g T Qs) (hO : T.Ok B) (hB : B ≤ 1000000) (d at_ nn : Int) :
  Calls Try.prog 10 #[.pointer (some ⟨g, 0, none⟩), .agg #[.int .i64 d, .int .i64 at_, .int .i64 nn]] w fun e w' => e = .returned (.tuple #[]) ∧ ActP w0 w' g T d Qs B := by
 obtain ⟨k, hk, hb⟩ := and_low at_ 1 (by omega)
 rcases (show k = 0 ∨ k = 1 by omega) with rfl | rfl
 ·exact act0 h hO hB d at_ nn hb
 ·exact act1 h hO hB d at_ nn hb
end Go.Proofs.Ytngegjboenfmeaa
/- A link's Tick whose answer is put into a cell; what ticks without a word do to a link. -/
namespace Go.Proofs.Ytngegjboenfmeaa
open Go Go.RowKit
set_option linter.unusedVariables false
set_option linter.unusedSimpArgs false
set_option maxRecDepth 100000

def TckPre (la : Nat) (s : LS) (bx : Value) (R : List SP) : List SP := Ce la 72 (s.cells bx) :: BoxT bx s.box :: R
def TckPost (la : Nat) (s : LS) (vF vE bx' : Value) (LP : List (Fr × Value)) (LE : List (Ev × Value)) (R : List SP) : List SP :=
 Rw 51 10 vF LP.length (fR_ LP) :: Bods (fB_ LP) :: Rw 49 4 vE LE.length (eR_ LE) :: Bods (eB_ LE) :: Ce la 72 (s.cells bx') :: BoxT bx' s.box :: R
def TckSt (la : Nat) (s : LS) (now : Nat) (bx : Value) (R : List SP) (d12 d13 d14 : Bool) (x12 x13 : Value) (w0 W : World) : Prop :=
 if d14 = true then ∃ a vF vE bx' LP LE, x13 = .pointer (some ⟨a, 0, none⟩) ∧ LP.map Prod.fst = s.tickF now ∧ LE.map Prod.fst = s.tickE now ∧ Sep w0 W (Ce a 43 #[vF, vE] :: TckPost la (s.tick now) vF vE bx' LP LE R)
 else if d12 = true then ∃ vF vE bx' LP LE, x12 = .agg #[vF, vE] ∧ LP.map Prod.fst = s.tickF now ∧ LE.map Prod.fst = s.tickE now ∧
  (if d13 = true then ∃ a, x13 = .pointer (some ⟨a, 0, none⟩) ∧ Sep w0 W (Ce a 43 #[.slice none 0 0, .slice none 0 0] :: TckPost la (s.tick now) vF vE bx' LP LE R)
  else Sep w0 W (TckPost la (s.tick now) vF vE bx' LP LE R))
 else if d13 = true then ∃ a, x13 = .pointer (some ⟨a, 0, none⟩) ∧ Sep w0 W (Ce a 43 #[.slice none 0 0, .slice none 0 0] :: TckPre la s bx R)
 else Sep w0 W (TckPre la s bx R)
section
variable {la : Nat} {s : LS} {now : Nat} {bx : Value} {R : List SP} {d12 d13 d14 : Bool} {x12 x13 : Value} {w0 W W' : World}
theorem TckSt.rst (h : TckSt la s now bx R d12 d13 d14 x12 x13 w0 W) : Sep w0 W R := by
 unfold TckSt at h; split at h
 ·obtain ⟨a, vF, vE, bx', LP, LE, _, _, _, h⟩ := h; exact h.popF.popF.popF.popF.popF.popF.popF
 split at h
 ·obtain ⟨vF, vE, bx', LP, LE, _, _, _, h⟩ := h; split at h
  ·obtain ⟨a, _, h⟩ := h; exact h.popF.popF.popF.popF.popF.popF.popF
  ·exact h.popF.popF.popF.popF.popF.popF
 split at h
 ·obtain ⟨a, _, h⟩ := h; exact h.popF.popF.popF
 ·exact h.popF.popF
theorem TckSt.start (h : Sep w0 W (TckPre la s bx R)) : TckSt la s now bx R false false false x12 x13 w0 W := by
 simpa [TckSt] using h
theorem TckSt.made (h : TckSt la s now bx R d12 false false x12 x13 w0 W) :
  TckSt la s now bx R d12 true false x12 (.pointer (some ⟨W.heap.size, 0, none⟩)) w0 (W.alloc (.cells #[.slice none 0 0, .slice none 0 0] 43)) := by
 unfold TckSt at h ⊢; rw [if_neg (by simp)] at h ⊢; split at h
 ·rw [if_pos ‹_›]; obtain ⟨vF, vE, bx', LP, LE, e1, e2, e3, h⟩ := h; rw [if_neg (by simp)] at h; refine ⟨vF, vE, bx', LP, LE, e1, e2, e3, ?_⟩; rw [if_pos rfl]; exact ⟨_, rfl, sep_ceF h _ _⟩
 ·rw [if_neg ‹_›, if_pos rfl]; rw [if_neg (by simp)] at h; exact ⟨_, rfl, sep_ceF h _ _⟩
theorem TckSt.call (h : TckSt la s now bx R false d13 false x12 x13 w0 W) (hs : s.Num) (hc : s.conn + 1 < 18446744073709551616) (hn : now < 18446744073709551616) :
  Calls Try.prog 14 #[.pointer (some ⟨la, 0, none⟩), .int .u64 (now : Int)] W fun e W' => ∃ v, e = .returned v ∧ TckSt la s now bx R true d13 false v x13 w0 W' := by
 unfold TckSt at h; rw [if_neg (by simp), if_neg (by simp)] at h; cases d13 with
 | false =>
  rw [if_neg (by simp)] at h; refine (tickG h hs hc hn).mono ?_; rintro e W' ⟨vF, vE, bx', LP, LE, rfl, e1, e2, h2⟩; refine ⟨_, rfl, ?_⟩; unfold TckSt; rw [if_neg (by simp), if_pos rfl]; refine ⟨vF, vE, bx', LP, LE, rfl, e1, e2, ?_⟩; rw [if_neg (by simp)]; exact h2
 | true =>
  rw [if_pos rfl] at h; obtain ⟨a, e0, h⟩ := h; have h1 : Sep w0 W (Ce la 72 (s.cells bx) :: BoxT bx s.box :: Ce a 43 #[.slice none 0 0, .slice none 0 0] :: R) := (h.tF 2 rfl).tF 2 rfl; refine (tickG h1 hs hc hn).mono ?_; rintro e W' ⟨vF, vE, bx', LP, LE, rfl, e1, e2, h2⟩; refine ⟨_, rfl, ?_⟩; unfold TckSt; rw [if_neg (by simp), if_pos rfl]; refine ⟨vF, vE, bx', LP, LE, rfl, e1, e2, ?_⟩; rw [if_pos rfl]; exact ⟨a, e0, h2.tF 6 rfl⟩
theorem TckSt.stored (h : TckSt la s now bx R true true false x12 x13 w0 W) :
  ∃ a Af kf cf Ae ke ce, x13 = .pointer (some ⟨a, 0, none⟩) ∧ x12 = .agg #[.slice Af kf cf, .slice Ae ke ce] ∧ W.frozen? ⟨a, 0, none⟩ = false ∧ W.frozen? ⟨a, 1, none⟩ = false ∧ W.cell? ⟨a, 0, none⟩ = some (.slice none 0 0) ∧ W.cell? ⟨a, 1, none⟩ = some (.slice none 0 0) ∧
   TckSt la s now bx R true true true x12 x13 w0 ((W.setCell ⟨a, 0, none⟩ (.slice Af kf cf)).setCell ⟨a, 1, none⟩ (.slice Ae ke ce)) := by
 unfold TckSt at h; rw [if_neg (by simp), if_pos rfl] at h; obtain ⟨vF, vE, bx', LP, LE, e1, e2, e3, h⟩ := h; rw [if_pos rfl] at h; obtain ⟨a, e5, h⟩ := h; obtain ⟨Af, cf, rfl, _⟩ := sep_rwForm (i := 1) h rfl; obtain ⟨Ae, ce, rfl, _⟩ := sep_rwForm (i := 3) h rfl; refine ⟨a, Af, _, cf, Ae, _, ce, e5, e1, cFz (i := 0) h rfl 0, cFz (i := 0) h rfl 1, cA (i := 0) h rfl 0 rfl, cA (i := 0) h rfl 1 rfl, ?_⟩; unfold TckSt; rw [if_pos rfl]; exact ⟨a, _, _, bx', LP, LE, e5, e2, e3, cS (i := 0) (cS (i := 0) h rfl 0 (.slice Af LP.length cf)) rfl 1 (.slice Ae LE.length ce)⟩
theorem TckSt.done (h : TckSt la s now bx R d12 d13 true x12 x13 w0 W) :
  ∃ a vF vE bx' LP LE, x13 = .pointer (some ⟨a, 0, none⟩) ∧ LP.map Prod.fst = s.tickF now ∧ LE.map Prod.fst = s.tickE now ∧ Sep w0 W (Ce a 43 #[vF, vE] :: TckPost la (s.tick now) vF vE bx' LP LE R) := by
 unfold TckSt at h
 rwa [if_pos rfl] at h
end
/-- how a link stands k ticks behind s, if it heard nothing, dn being how often it told that it is down -/
def TkI (s : LS) (n0 k : Nat) (s' : LS) (dn : Nat) : Prop := s'.Num ∧ s'.si = s.si ∧ ((s.up = true ∧ s'.up = true ∧ s'.conn = s.conn ∧ s'.heard = s.heard ∧ dn = 0 ∧ k < 4) ∨ (s'.up = false ∧ s.up = true ∧ s'.conn = s.conn + 1 ∧ dn = 1) ∨ (s'.up = false ∧ s.up = false ∧ s'.conn = s.conn ∧ dn = 0))
end Go.Proofs.Ytngegjboenfmeaa
/- A link that hears nothing more goes down, and comes up by nothing that was on its way. -/
namespace Go.Proofs.Ytngegjboenfmeaa
open Go Go.RowKit Go.Shelf
set_option linter.unusedVariables false
set_option maxRecDepth 100000
set_option linter.unusedSimpArgs false

/-- acts as an argument's cells -/
def actRow (L : List (Int × Int × Int)) : List Value := L.flatMap fun a => [.int .i64 a.1, .int .i64 a.2.1, .int .i64 a.2.2]
end Go.Proofs.Ytngegjboenfmeaa
/- Acts out of the argument: rows of three whole numbers each, opened. -/
namespace Go.Proofs.Ytngegjboenfmeaa
open Go Go.RowKit Go.ChangeShapes Go.WideShapes Go.ChangeAt Go.Deep
set_option linter.unusedVariables false
set_option maxRecDepth 100000
theorem actRow_len (L : List (Int × Int × Int)) : (actRow L).length = L.length * 3 := by
 induction L with
 | nil => rfl
 | cons a L ih =>
  show ([_, _, _] ++ actRow L).length = _; rw [List.length_append, ih]; show 3 + L.length * 3 = (L.length + 1) * 3; omega
section
variable {H : Type} {enc : TypeId × Value → H} {P : Program} {w : World}
theorem arg_acts {r : Reach} {b0 : Nat} {t e i : TypeId} {f0 f1 f2 : Field} {v : Value} {d : DataW H} {p : List MemPlace} (ht : P.underlying t = some (.slice e)) (he : P.underlying e = some (.struct #[f0, f1, f2])) (hi : P.underlying i = some (.int .i64)) (hc : P.cellsOf e = 3) (hci : P.cellsOf i = 1) (hby : P.bytesOf e = 24)
  (hf0 : f0.type = i ∧ f0.offset = 0) (hf1 : f1.type = i ∧ f1.offset = 1) (hf2 : f2.type = i ∧ f2.offset = 2)
  (hv : Value.okWide P w r b0 t v) (h : DataW.Trod enc P w 0 (fun _ => true) true t v d p) (hw : ∀ n ∈ d.weights P t, n ≤ reachBytes) :
  ∃ (A : Option Addr) (c : Nat) (l : List (Int × Int × Int)), v = .slice A l.length c ∧ l.length ≤ c ∧ c ≤ maxLen ∧ l.length ≤ 140737488355328 ∧ Has w w.heap.size A (actRow l) := by
 obtain ⟨a0, n0, c0, rfl⟩ := okWide_slice ht hv; obtain ⟨fuel, hf⟩ := h; have hf' : DataW.trod enc P w 0 (fun _ => true) true fuel t [.slice a0 n0 c0] = some (d, p) := by simpa [Value.cells] using hf
 rcases open_slice ht hf' with ⟨hcs, _⟩ | ⟨a, len, cap, m, n, D, Pl, hcs, _, hl, hm, hmm, hx, hel⟩
 ·exact ⟨none, 0, [], by simpa using hcs, by simp, by unfold maxLen; omega, by simp, Has.nil⟩
 ·simp only [if_true] at hmm; simp only [Prod.mk.injEq] at hx; obtain ⟨hx, _⟩ := hx; subst hmm; obtain ⟨ls, hls, hp⟩ := choose_list len (fun k (x : Int × Int × Int) => w.cell? (a.add (k * 3)) = some (.int .i64 x.1) ∧ w.cell? (a.add (k * 3 + 1)) = some (.int .i64 x.2.1) ∧ w.cell? (a.add (k * 3 + 2)) = some (.int .i64 x.2.2)) (fun k hk => by
   obtain ⟨cs', hc1, ht1⟩ := hel k (by omega); obtain ⟨_, hlen, hcell⟩ := World.cells?_some hc1; obtain ⟨xs, nx, _, _, _, hxl, hxx⟩ := DataW.trod_struct he ht1; rw [hc] at hlen hcell hc1; simp only [List.size_toArray, List.length_cons, List.length_nil, Nat.reduceAdd] at hxl
   match cs', hlen, xs, hxl with
   | [u0, u1, u2], _, [x0, x1, x2], _ =>
    have h0 := hxx 0 f0 rfl; have h1 := hxx 1 f1 rfl; have h2 := hxx 2 f2 rfl; rw [hf0.1, hf0.2, hci] at h0; rw [hf1.1, hf1.2, hci] at h1; rw [hf2.1, hf2.2, hci] at h2; obtain ⟨z0, e0, _, _⟩ := DataW.trod_int hi (show DataW.trod enc P w 0 (fun _ => true) true nx i [u0] = some x0 from h0); obtain ⟨z1, e1, _, _⟩ := DataW.trod_int hi (show DataW.trod enc P w 0 (fun _ => true) true nx i [u1] = some x1 from h1); obtain ⟨z2, e2, _, _⟩ := DataW.trod_int hi (show DataW.trod enc P w 0 (fun _ => true) true nx i [u2] = some x2 from h2); simp only [List.cons.injEq, and_true] at e0 e1 e2; have c0 := hcell 0 (by omega); have c1 := hcell 1 (by omega); have c2 := hcell 2 (by omega); rw [add_add] at c0 c1 c2; refine ⟨(z0, z1, z2), ?_, ?_, ?_⟩
    ·rw [Nat.add_zero] at c0; rw [c0, e0]; rfl
    ·rw [c1, e1]; rfl
    ·rw [c2, e2]; rfl)
  refine ⟨some a, m, ls, by rw [hls]; simpa using hcs, by omega, hm, ?_, ?_⟩
  ·rw [hx] at hw; have := hw ((len + (m - len)) * 24) (by simp [DataW.weights, ht, hby]); unfold reachBytes at this; omega
  ·refine has_of_cells fun j u hu => ?_
   have hlen2 : (actRow ls).length = ls.length * 3 := actRow_len ls; have hj : j < ls.length * 3 := by
    rcases Nat.lt_or_ge j (ls.length * 3) with h' | h'
    ·exact h'
    ·rw [List.getElem?_eq_none (by rw [hlen2]; exact h')] at hu; cases hu
   obtain ⟨k, hk⟩ : ∃ k, k = j / 3 := ⟨_, rfl⟩; have hk2 : k < ls.length := by omega
   have hpk := hp k _ (List.getElem?_eq_getElem hk2); have hat : ∀ r, r < 3 → (actRow ls)[k * 3 + r]? = [Value.int .i64 (ls[k]).1, .int .i64 (ls[k]).2.1, .int .i64 (ls[k]).2.2][r]? := fun r hr => by
    rw [actRow, flat_at (n := 3) (fun _ => rfl) ls k _ r (List.getElem?_eq_getElem hk2) hr]
   obtain ⟨r, hr⟩ : ∃ r, j = k * 3 + r := ⟨j - k * 3, by omega⟩; have hr3 : r < 3 := by omega
   subst hr; rw [hat r hr3] at hu
   match r, hr3 with
   | 0, _ => have h0 := hpk.1; rw [Nat.add_zero]; rw [h0]; exact hu
   | 1, _ => rw [hpk.2.1]; exact hu
   | 2, _ => rw [hpk.2.2]; exact hu
end
end Go.Proofs.Ytngegjboenfmeaa
/- The statements' sign of life of layer 12, by the general contracts. -/
namespace Go.Proofs.Ytngegjboenfmeaa
open Go Go.RowKit
set_option linter.unusedVariables false
set_option maxRecDepth 100000
set_option linter.unusedSimpArgs false

theorem one_of {α β : Type} {LP : List (α × β)} {f : α} (h : LP.map Prod.fst = [f]) : ∃ u, LP = [(f, u)] := by
 match LP, h with
 | [(x, u)], h =>
  simp only [List.map_cons, List.map_nil, List.cons.injEq, and_true] at h; subst h; exact ⟨u, rfl⟩
def aw1 : Fr := ⟨1, 1, 2, 1, 1, 0, 0, 0, 0, []⟩
def aw2 : Fr := ⟨1, 2, 1, 1, 1, 1, 1, 0, 0, []⟩
def awL2 : LS := (newLk true 1).take 1 aw1
def awL1 : LS := ((newLk false 1).tick 1).take 1 aw2
theorem aw_t : (newLk false 1).tickF 1 = [aw1] := by rfl
theorem aw_f2 : (newLk true 1).takeF 1 aw1 = [aw2] := by rfl
theorem aw_f1 : (((newLk false 1).tick 1).takeF 1 aw2).length = 1 ∧ ((newLk false 1).tick 1).takeE 1 aw2 = [⟨1, 2, 1, []⟩] := by exact ⟨rfl, rfl⟩
theorem aw_up : awL1.up = true ∧ awL2.up = false ∧ awL1.sn = 1 ∧ awL2.sn = 2 := by exact ⟨rfl, rfl, rfl, rfl⟩
set_option maxHeartbeats 6400000 in
theorem awakeG (w : World) : Calls Try.prog 8 #[] w fun e w' => e = .returned (.bool true) ∧ Below w.heap.size w w' := by
 go_enter Try.func8, Try.ntmps8
 go_wp2_with fail
 refine (newLink_any _ 1 1 2 (by omega) (by omega) (by omega) (by omega) (by omega) (by omega) (by omega)).mono ?_; rintro e w1 ⟨g1, rfl, hg1, hh1, hb1⟩; have HS1 := Lib.hid (sep_boxNil (show Sep w w1 (Ce g1 72 ((newLk false 1).cells (.slice none 0 0)) :: []) from ((Sep.nil w).add (F := fun k => k = g1) hb1 ⟨hh1, fun k => Iff.rfl⟩ (Ce.loc _ _ _) (fun k hk => by rw [hk]; exact hg1)).lastFront)); clear hg1 hh1 hb1
 go_wp2_with fail
 refine (newLink_any _ 2 1 1 (by omega) (by omega) (by omega) (by omega) (by omega) (by omega) (by omega)).mono ?_; rintro e w2 ⟨g2, rfl, hg2, hh2, hb2⟩; have h2 := sep_boxNil ((HS1.out.add (F := fun k => k = g2) hb2 ⟨hh2, fun k => Iff.rfl⟩ (Ce.loc _ _ _) (fun k hk => by rw [hk]; exact hg2)).lastFront); have HS2 := Lib.hid (show Sep w w2 (Ce g1 72 ((newLk false 1).cells (.slice none 0 0)) :: BoxT (.slice none 0 0) (newLk false 1).box :: Ce g2 72 ((newLk true 1).cells (.slice none 0 0)) :: BoxT (.slice none 0 0) [] :: []) from ((((h2).tF 0 rfl).tF 1 rfl).tF 2 rfl).tF 3 rfl); clear HS1 hg2 hh2 hb2 h2
 go_wp2_with fail
 refine (tickG (now := 1) HS2.out (newLk_num false 1) (by decide) (by decide)).mono ?_; rintro e w3 ⟨vF, vE, bx1, LP, LE, rfl, e1, e2, h3⟩; rw [aw_t] at e1; obtain ⟨u1, rfl⟩ := one_of e1; obtain ⟨A1, c1, rfl, _, _, hx1⟩ := sep_rwForm (i := 0) h3 rfl; obtain ⟨AE, cE, rfl, _, _, _⟩ := sep_rwForm (i := 2) h3 rfl; obtain ⟨b1, o1, rfl, _, _⟩ := hx1.at_ (k := 0) (by simp [fR_, Fr.cellsV]); obtain ⟨AU, cU, rfl, _, _, _⟩ := sep_bodsAt (i := 1) h3 rfl (u := u1) (l := []) (by simp [fB_, aw1]); obtain ⟨ne, Hne⟩ : ∃ x, Hid (LE.length = x) := ⟨_, Lib.hid rfl⟩; rw [Hne.out] at h3 ⊢; have HS4 := Lib.hid (sep_ceF h3 #[.slice (some ⟨b1, o1, none⟩) 1 c1, .slice AE ne cE] 43); clear HS2 h3 hx1 e1 e2; have kx := cA (i := 0) HS4.out rfl 0 rfl; have p0 : World.cell? _ ⟨b1, o1 + 0, none⟩ = some (.int .i64 1) := hK4 (rH (i := 1) HS4.out rfl) rfl; have p1 : World.cell? _ ⟨b1, o1 + 1, none⟩ = some (.int .i64 1) := hK4 (rH (i := 1) HS4.out rfl) rfl; have p2 : World.cell? _ ⟨b1, o1 + 2, none⟩ = some (.int .i64 2) := hK4 (rH (i := 1) HS4.out rfl) rfl; have p3 : World.cell? _ ⟨b1, o1 + 3, none⟩ = some (.int .u64 1) := hK4 (rH (i := 1) HS4.out rfl) rfl; have p4 : World.cell? _ ⟨b1, o1 + 4, none⟩ = some (.int .u64 1) := hK4 (rH (i := 1) HS4.out rfl) rfl; have p5 : World.cell? _ ⟨b1, o1 + 5, none⟩ = some (.int .u64 0) := hK4 (rH (i := 1) HS4.out rfl) rfl; have p6 : World.cell? _ ⟨b1, o1 + 6, none⟩ = some (.int .u64 0) := hK4 (rH (i := 1) HS4.out rfl) rfl; have p7 : World.cell? _ ⟨b1, o1 + 7, none⟩ = some (.int .u64 0) := hK4 (rH (i := 1) HS4.out rfl) rfl; have p8 : World.cell? _ ⟨b1, o1 + 8, none⟩ = some (.int .u64 0) := hK4 (rH (i := 1) HS4.out rfl) rfl; have p9 : World.cell? _ ⟨b1, o1 + 9, none⟩ = some (.slice AU 0 cU) := hK4 (rH (i := 1) HS4.out rfl) rfl; rw [Nat.add_zero] at p0
 go_wp2_with fail
 clear kx p0 p1 p2 p3 p4 p5 p6 p7 p8 p9; have h5 := HS4.out; refine (takeG (s := newLk true 1) (f := aw1) (now := 1) (A := AU) (c := cU) (X := Bods (fB_ [(aw1, .slice AU ([] : List UInt8).length cU)])) (Qs := Ce w3.heap.size 43 #[.slice (some ⟨b1, o1, none⟩) 1 c1, .slice AE ne cE] :: Rw 51 10 (.slice (some ⟨b1, o1, none⟩) 1 c1) 1 (fR_ [(aw1, .slice AU ([] : List UInt8).length cU)]) :: Rw 49 4 (.slice AE ne cE) ne (eR_ LE) :: Bods (eB_ LE) :: Ce g1 72 (((newLk false 1).tick 1).cells bx1) :: BoxT bx1 ((newLk false 1).tick 1).box :: []) ((((((((((h5).tF 6 rfl).tF 6 rfl).tF 6 rfl).tF 6 rfl).tF 5 rfl).tF 5 rfl).tF 6 rfl).tF 8 rfl).tF 8 rfl) (reads_bods (c := cU) (by simp [fB_, aw1])) (newLk_num true 1) (by unfold maxLen; decide) (by decide) (by decide) (by decide)).mono ?_; rintro e w5 ⟨vF2, vE2, bx2, LP2, LE2, rfl, e1, e2, h6⟩; rw [aw_f2] at e1; obtain ⟨u2, rfl⟩ := one_of e1; obtain ⟨A2, c2, rfl, _, _, hx2⟩ := sep_rwForm (i := 0) h6 rfl; obtain ⟨AE2, cE2, rfl, _, _, _⟩ := sep_rwForm (i := 2) h6 rfl; obtain ⟨b2, o2, rfl, _, _⟩ := hx2.at_ (k := 0) (by simp [fR_, Fr.cellsV]); obtain ⟨AU2, cU2, rfl, _, _, _⟩ := sep_bodsAt (i := 1) h6 rfl (u := u2) (l := []) (by simp [fB_, aw2]); obtain ⟨ne2, Hne2⟩ : ∃ x, Hid (LE2.length = x) := ⟨_, Lib.hid rfl⟩; rw [Hne2.out] at h6 ⊢; have HS7 := Lib.hid (sep_ceF h6 #[.slice (some ⟨b2, o2, none⟩) 1 c2, .slice AE2 ne2 cE2] 43); clear HS4 h5 h6 hx2 e1 e2; have kx := cA (i := 0) HS7.out rfl 0 rfl; have p0 : World.cell? _ ⟨b2, o2 + 0, none⟩ = some (.int .i64 1) := hK4 (rH (i := 1) HS7.out rfl) rfl; have p1 : World.cell? _ ⟨b2, o2 + 1, none⟩ = some (.int .i64 2) := hK4 (rH (i := 1) HS7.out rfl) rfl; have p2 : World.cell? _ ⟨b2, o2 + 2, none⟩ = some (.int .i64 1) := hK4 (rH (i := 1) HS7.out rfl) rfl; have p3 : World.cell? _ ⟨b2, o2 + 3, none⟩ = some (.int .u64 1) := hK4 (rH (i := 1) HS7.out rfl) rfl; have p4 : World.cell? _ ⟨b2, o2 + 4, none⟩ = some (.int .u64 1) := hK4 (rH (i := 1) HS7.out rfl) rfl; have p5 : World.cell? _ ⟨b2, o2 + 5, none⟩ = some (.int .u64 1) := hK4 (rH (i := 1) HS7.out rfl) rfl; have p6 : World.cell? _ ⟨b2, o2 + 6, none⟩ = some (.int .u64 1) := hK4 (rH (i := 1) HS7.out rfl) rfl; have p7 : World.cell? _ ⟨b2, o2 + 7, none⟩ = some (.int .u64 0) := hK4 (rH (i := 1) HS7.out rfl) rfl; have p8 : World.cell? _ ⟨b2, o2 + 8, none⟩ = some (.int .u64 0) := hK4 (rH (i := 1) HS7.out rfl) rfl; have p9 : World.cell? _ ⟨b2, o2 + 9, none⟩ = some (.slice AU2 0 cU2) := hK4 (rH (i := 1) HS7.out rfl) rfl; rw [Nat.add_zero] at p0
 go_wp2_with fail
 clear kx p0 p1 p2 p3 p4 p5 p6 p7 p8 p9; have h8 := HS7.out; refine (takeG (s := (newLk false 1).tick 1) (f := aw2) (now := 1) (A := AU2) (c := cU2) (X := Bods (fB_ [(aw2, .slice AU2 ([] : List UInt8).length cU2)])) (Qs := Ce w5.heap.size 43 #[.slice (some ⟨b2, o2, none⟩) 1 c2, .slice AE2 ne2 cE2] :: Rw 51 10 (.slice (some ⟨b2, o2, none⟩) 1 c2) 1 (fR_ [(aw2, .slice AU2 ([] : List UInt8).length cU2)]) :: Rw 49 4 (.slice AE2 ne2 cE2) ne2 (eR_ LE2) :: Bods (eB_ LE2) :: Ce g2 72 (((newLk true 1).take 1 aw1).cells bx2) :: BoxT bx2 ((newLk true 1).take 1 aw1).box :: Bods (fB_ [(aw1, .slice AU ([] : List UInt8).length cU)]) :: Ce w3.heap.size 43 #[.slice (some ⟨b1, o1, none⟩) 1 c1, .slice AE ne cE] :: Rw 51 10 (.slice (some ⟨b1, o1, none⟩) 1 c1) 1 (fR_ [(aw1, .slice AU ([] : List UInt8).length cU)]) :: Rw 49 4 (.slice AE ne cE) ne (eR_ LE) :: Bods (eB_ LE) :: []) (((((((((((((((h8).tF 11 rfl).tF 11 rfl).tF 11 rfl).tF 11 rfl).tF 11 rfl).tF 11 rfl).tF 11 rfl).tF 11 rfl).tF 11 rfl).tF 10 rfl).tF 10 rfl).tF 11 rfl).tF 13 rfl).tF 13 rfl) (reads_bods (c := cU2) (by simp [fB_, aw2])) ((newLk_num false 1).tick (by decide)) (by unfold maxLen; decide) (by decide) (by decide) (by decide)).mono ?_; rintro e w8 ⟨vF3, vE3, bx3, LP3, LE3, rfl, e1, e2, h9⟩; rw [aw_f1.2] at e2; obtain ⟨u3, rfl⟩ := one_of e2; obtain ⟨A3, c3, rfl, _, _, _⟩ := sep_rwForm (i := 0) h9 rfl; obtain ⟨AE3, cE3, rfl, _, _, hx3⟩ := sep_rwForm (i := 2) h9 rfl; obtain ⟨b3, o3, rfl, _, _⟩ := hx3.at_ (k := 0) (by simp [eR_, Ev.cellsV]); obtain ⟨AV3, cV3, rfl, _, _, _⟩ := sep_bodsAt (i := 3) h9 rfl (u := u3) (l := []) (by simp [eB_]); have hl3 : LP3.length = 1 := by
  have h := congrArg List.length e1; rw [List.length_map, aw_f1.1] at h; exact h
 rw [hl3] at h9 ⊢; have HS10 := Lib.hid (sep_ceF h9 #[.slice A3 1 c3, .slice (some ⟨b3, o3, none⟩) 1 cE3] 43); clear HS7 h8 h9 hx3 e1 e2 hl3; have kx := cA (i := 0) HS10.out rfl 0 rfl; have ky := cA (i := 0) HS10.out rfl 1 rfl; have p0 : World.cell? _ ⟨b3, o3 + 0, none⟩ = some (.int .i64 1) := hK4 (rH (i := 3) HS10.out rfl) rfl; have p1 : World.cell? _ ⟨b3, o3 + 1, none⟩ = some (.int .i64 2) := hK4 (rH (i := 3) HS10.out rfl) rfl; have p2 : World.cell? _ ⟨b3, o3 + 2, none⟩ = some (.int .u64 1) := hK4 (rH (i := 3) HS10.out rfl) rfl; have p3 : World.cell? _ ⟨b3, o3 + 3, none⟩ = some (.slice AV3 0 cV3) := hK4 (rH (i := 3) HS10.out rfl) rfl; rw [Nat.add_zero] at p0
 go_wp2_with fail
 clear kx ky p0 p1 p2 p3; refine (up_any _ g1 awL1.sn awL1.up (by rw [aw_up.2.2.1]; decide) (cA (i := 5) HS10.out rfl 3 rfl) (cA (i := 5) HS10.out rfl 9 rfl)).mono ?_; rintro e w11 ⟨rfl, hb11⟩; have HS11 := Lib.hid (HS10.out.grow hb11); rw [aw_up.1]; clear hb11 HS10
 go_wp2_with fail
 refine (up_any _ g2 awL2.sn awL2.up (by rw [aw_up.2.2.2]; decide) (cA (i := 12) HS11.out rfl 3 rfl) (cA (i := 12) HS11.out rfl 9 rfl)).mono ?_; rintro e w12 ⟨rfl, hb12⟩; have HS12 := Lib.hid (HS11.out.grow hb12); rw [aw_up.2.1]; clear hb12 HS11
 go_wp2_with fail
 go_ret
 exact ⟨rfl, HS12.out.bel⟩
end Go.Proofs.Ytngegjboenfmeaa
/- Whatever two links do, what is told by a pair is what was sent by it: the walk of LinkOrder. -/
namespace Go.Proofs.Ytngegjboenfmeaa
open Go Go.RowKit Go.Shelf
set_option linter.unusedVariables false
set_option maxRecDepth 100000
set_option linter.unusedSimpArgs false

theorem right_any {w0 w : World} {g a0 a1 : Nat} {T : TW} {B : Nat} (h : TwA a0 a1 w0 w g T []) (ho : T.Ord) (hk : T.Ok B) (hB : B ≤ 1000000000) :
  Calls Try.prog 11 #[.pointer (some ⟨g, 0, none⟩)] w fun e w' => e = .returned (.bool true) ∧ Below w.heap.size w w' := by
 obtain ⟨b0, b1, v0, v1, W0, W1, BB, bs, bt, q1, q2, q3, q4, h⟩ := h; obtain ⟨Fs, hs, _⟩ := h.upd (i := 8) rfl; obtain ⟨Ft, ht, _⟩ := h.upd (i := 9) rfl; exact right_core w g bs bt T.sent T.told Fs Ft (cA (i := 0) h rfl 8 rfl) (cA (i := 0) h rfl 9 rfl) (cA (i := 0) h rfl 11 rfl) (lt_of_heap (cH (i := 0) h rfl)) hs ht ho.pre (fun q => Nat.le_trans (hk.told q) hB)
end Go.Proofs.Ytngegjboenfmeaa
/- Behind whatever happened two links come up by one another, stay so, and all that is sent is told: the walk of LinkGoes. -/
namespace Go.Proofs.Ytngegjboenfmeaa
open Go Go.RowKit Go.Shelf
set_option linter.unusedVariables false
set_option maxRecDepth 100000
set_option linter.unusedSimpArgs false

set_option maxHeartbeats 12800000 in
theorem goes_any (w : World) (A0 : Option Addr) (cc : Nat) (L : List (Int × Int × Int)) (bodies : Int) (h : Has w w.heap.size A0 (actRow L)) (hm : L.length ≤ 140737488355328) :
  Calls Try.prog 7 #[.slice A0 L.length cc, .int .i64 bodies] w fun e w' => e = .returned (.bool true) ∧ Below w.heap.size w w' := by
 have HST := Lib.hid h; clear h
 by_cases h1 : 1500 < L.length
 ·have e1 : decide (1500 < (L.length : Int)) = true := by simp; omega
  go_enter Try.func7, Try.ntmps7
  go_wp2_with fail
  refine (awakeG _).mono ?_; rintro e w' ⟨rfl, hb⟩
  go_wp2_with fail
  go_ret
  exact ⟨rfl, hb⟩
 have e1 : decide (1500 < (L.length : Int)) = false := by simp; omega
 by_cases h2 : bodies < 0
 ·have e2 : decide (bodies < 0) = true := decide_eq_true h2; go_enter Try.func7, Try.ntmps7
  go_wp2_with fail
  refine (awakeG _).mono ?_; rintro e w' ⟨rfl, hb⟩
  go_wp2_with fail
  go_ret
  exact ⟨rfl, hb⟩
 have e2 : decide (bodies < 0) = false := decide_eq_false h2
 by_cases h3 : 200 < bodies
 ·have e3 : decide (200 < bodies) = true := decide_eq_true h3; go_enter Try.func7, Try.ntmps7
  go_wp2_with fail
  refine (awakeG _).mono ?_; rintro e w' ⟨rfl, hb⟩
  go_wp2_with fail
  go_ret
  exact ⟨rfl, hb⟩
 have e3 : decide (200 < bodies) = false := decide_eq_false h3; go_enter Try.func7, Try.ntmps7
 go_wp2_with fail
 refine (begin_any _).mono ?_; rintro e w1 ⟨g, c0, c1, rfl, hA⟩; have HA := Lib.hid hA; clear hA
 go_wp2_with fail
 go_loopw [6] (fun iv wr => ∃ (k a0 a1 : Nat) (T : TW), k ≤ L.length ∧ iv = .int .i64 (k : Int) ∧ Hid (TwA a0 a1 w wr g T []) ∧ Hid (R0 k T)) (fun iv _ => L.length - (intOf iv).toNat)
 case atStart => exact ⟨0, c0, c1, TW.start, Nat.zero_le _, rfl, HA, Lib.hid r0_start⟩
 case round =>
  obtain ⟨k, a0, a1, T, hk, rfl, HM, HI⟩ := hrel; have kb := HM.out.bad
  by_cases hkl : k < L.length
  ·have elt : decide (k < L.length) = true := decide_eq_true hkl; obtain ⟨p, hp⟩ : ∃ p, L[k]? = some p := ⟨_, List.getElem?_eq_getElem hkl⟩; obtain ⟨d, ax, nx⟩ := p; have hh := has_bel HM.out.bel HST.out; have c0 : (actRow L)[k * 3 + 0]? = some (.int .i64 d) := by rw [actRow, flat_at (n := 3) (fun _ => rfl) L k _ 0 hp (by omega)]; rfl
   have c1 : (actRow L)[k * 3 + 1]? = some (.int .i64 ax) := by rw [actRow, flat_at (n := 3) (fun _ => rfl) L k _ 1 hp (by omega)]; rfl
   have c2 : (actRow L)[k * 3 + 2]? = some (.int .i64 nx) := by rw [actRow, flat_at (n := 3) (fun _ => rfl) L k _ 2 hp (by omega)]; rfl
   obtain ⟨ba, oa, rfl, _, _⟩ := hh _ _ c0; have f0 := hK4 hh c0; have f1 := hK4 hh c1; have f2 := hK4 hh c2; rw [Nat.add_zero] at f0; rw [← Nat.add_assoc] at f1 f2; clear c0 c1 c2 hp hh
   go_wp2_with fail
   refine (actA HM.out HI.out.ok (by omega) d ax nx).mono ?_; rintro e w2 ⟨rfl, i, kk, b0, b1, h2, h3⟩; have HM2 := Lib.hid h2; have HI2 : Hid (R0 (k + 1) (T.act d i kk)) := Lib.hid (r0_act HI.out (by omega) d i kk h3); clear h2 h3 kb
   go_wp2_with fail
   go_roundw
   case rel => exact ⟨k + 1, b0, b1, _, by omega, by go_num, HM2, HI2⟩
   case measure => simp [intOf]; omega
  ·have elt : decide (k < L.length) = false := decide_eq_false hkl; have hb := r0_phi HI.out
   go_wp2_with fail
   refine (calm_any HM.out HI.out.gl HI.out.ok (by omega) (by omega)).mono ?_; rintro e w2 ⟨rfl, q, U, hq, hcalm, hways, hU⟩; have HM2 := Lib.hid hU; have HI2 : Hid (R1 0 U) := Lib.hid (r1_start HI.out (by omega) hq hcalm hways); clear hq hcalm hways hU kb hb elt hkl
   go_wp2_with fail
   go_loopw [7] (fun iv wr => ∃ (m : Nat) (T : TW), m ≤ 6 ∧ iv = .int .i64 (m : Int) ∧ Hid (TwA a0 a1 w wr g T []) ∧ Hid (R1 m T)) (fun iv _ => 6 - (intOf iv).toNat)
   case atStart => exact ⟨0, U, by omega, rfl, HM2, HI2⟩
   case round =>
    clear HM HI HM2 HI2; obtain ⟨m, T, hm, rfl, HM, HI⟩ := hrel
    by_cases hm6 : m < 6
    ·have elt : decide (m < 6) = true := decide_eq_true hm6; have elt2 : decide ((m : Int) < 6) = true := decide_eq_true (by omega)
     go_wp2_with fail
     refine (turn_any HM.out HI.out.gl HI.out.ok (by omega) (by rw [HI.out.w]; omega)).mono ?_; rintro e w3 ⟨rfl, V, hT, hV⟩; have HM3 := Lib.hid hV; have HI3 : Hid (R1 (m + 1) V) := Lib.hid (r1_turn HI.out (by omega) hT); clear hT hV
     go_wp2_with fail
     go_roundw
     case rel => exact ⟨m + 1, V, by omega, by go_num, HM3, HI3⟩
     case measure => simp [intOf]; omega
    ·have elt : decide (m < 6) = false := decide_eq_false hm6; have elt2 : decide ((m : Int) < 6) = false := decide_eq_false (by omega); have HIE : Hid (R1 6 T) := Lib.hid (by rw [show (6 : Nat) = m by omega]; exact HI.out); clear HI
     go_wp2_with fail
     refine (joined_any HM.out HIE.out.ok (HIE.out.js (by omega))).mono ?_; rintro e w3 ⟨rfl, hb3⟩; have HM3 := Lib.hid (HM.out.grow hb3); clear hb3 HM elt elt2 hm6 hm
     go_wp2_with fail
     refine (ofA0 HM3.out HIE.out.ok).mono ?_; rintro e w4 ⟨rfl, hb4⟩; have HM4 := Lib.hid (HM3.out.grow hb4); obtain ⟨p0, Hp0⟩ : ∃ y, Hid (T.pr false = y) := ⟨_, Lib.hid rfl⟩; have HI4 : Hid (R2 p0 0 T) := Lib.hid (by rw [← Hp0.out]; exact r2_start HIE.out); rw [Hp0.out]; unfold prV; clear hb4 HM3; have HM5 := Lib.hid (HM4.out.ce #[.int .i64 p0.1, .int .u64 (p0.2.1 : Int), .int .u64 (p0.2.2.1 : Int), .int .u64 (p0.2.2.2.1 : Int), .int .u64 (p0.2.2.2.2 : Int)] 81); obtain ⟨c8, H8⟩ : ∃ y, Hid (w4.heap.size = y) := ⟨_, Lib.hid rfl⟩; have HM6 : Hid (TwA a0 a1 w (w4.alloc (.cells #[.int .i64 p0.1, .int .u64 (p0.2.1 : Int), .int .u64 (p0.2.2.1 : Int), .int .u64 (p0.2.2.2.1 : Int), .int .u64 (p0.2.2.2.2 : Int)] 81)) g T [Ce c8 81 #[.int .i64 p0.1, .int .u64 (p0.2.1 : Int), .int .u64 (p0.2.2.1 : Int), .int .u64 (p0.2.2.2.1 : Int), .int .u64 (p0.2.2.2.2 : Int)]]) := Lib.hid (by rw [← H8.out]; exact HM5.out)
     go_wp2_with fail
     rw [H8.out]; clear HM4 HM5
     go_loopw [9] (fun iv wr => ∃ (i : Nat) (T : TW), (i : Int) ≤ bodies ∧ iv = .int .i64 (i : Int) ∧ Hid (TwA a0 a1 w wr g T [Ce c8 81 #[.int .i64 p0.1, .int .u64 (p0.2.1 : Int), .int .u64 (p0.2.2.1 : Int), .int .u64 (p0.2.2.2.1 : Int), .int .u64 (p0.2.2.2.2 : Int)]]) ∧ Hid (R2 p0 i T)) (fun iv _ => bodies.toNat - (intOf iv).toNat)
     case atStart => exact ⟨0, T, by omega, rfl, HM6, HI4⟩
     case round =>
      clear HM6 HI4 HIE Hp0; obtain ⟨i, T, hib, rfl, HM, HI⟩ := hrel
      by_cases hil : (i : Int) < bodies
      ·have elt : decide ((i : Int) < bodies) = true := decide_eq_true hil; have ea := and_1 i (by omega)
       rcases (show i % 2 = 0 ∨ i % 2 = 1 by omega) with e | e
       ·have ea1 : bits .and .i64 (i : Int) 1 = 0 := by rw [ea, e]; rfl
        clear ea e; have HS0 : Hid (R2s p0 i (T.send false)) := Lib.hid (r2_send HI.out (by omega) false)
        go_wp2_with fail
        refine (sendA0 HM.out HI.out.ok (by omega)).mono ?_; rintro e w3 ⟨rfl, h3⟩; have HM3 := Lib.hid h3; clear h3
        by_cases h19 : i % 20 = 19
        ·have e19 : Int.tmod (i : Int) 20 = 19 := by rw [Int.tmod_eq_emod_of_nonneg (by omega)]; omega
         have e19' : ((i : Int) % 20) = 19 := by omega
         go_wp2_with fail
         refine (turn_any HM3.out HS0.out.gl HS0.out.ok (by omega) (by have := HS0.out.w; omega)).mono ?_; rintro e w4 ⟨rfl, V, hT, hV⟩; have HM4 := Lib.hid hV; have HI4 : Hid (R2 p0 (i + 1) V) := Lib.hid (r2_turn HS0.out (by omega) hT); clear hT hV
         go_wp2_with fail
         go_roundw
         case rel => exact ⟨i + 1, V, by omega, by go_num, HM4, HI4⟩
         case measure => simp [intOf]; omega
        ·have e19 : (Int.tmod (i : Int) 20 == 19) = false := by rw [Int.tmod_eq_emod_of_nonneg (by omega)]; simp; omega
         have e19' : (((i : Int) % 20) == 19) = false := by simp; omega
         have e19'' : ((i % 20) == 19) = false := by simp; omega
         have HI4 : Hid (R2 p0 (i + 1) (T.send false)) := Lib.hid (r2_next HS0.out (by omega) h19); have H19 := Lib.hid h19; clear h19
         go_wp2_with fail
         go_roundw
         case rel => exact ⟨i + 1, _, by omega, by go_num, HM3, HI4⟩
         case measure => simp [intOf]; omega
       ·have ea1 : bits .and .i64 (i : Int) 1 = 1 := by rw [ea, e]; rfl
        clear ea e; have HS0 : Hid (R2s p0 i (T.send true)) := Lib.hid (r2_send HI.out (by omega) true)
        go_wp2_with fail
        refine (sendA1 HM.out HI.out.ok (by omega)).mono ?_; rintro e w3 ⟨rfl, h3⟩; have HM3 := Lib.hid h3; clear h3
        by_cases h19 : i % 20 = 19
        ·have e19 : Int.tmod (i : Int) 20 = 19 := by rw [Int.tmod_eq_emod_of_nonneg (by omega)]; omega
         have e19' : ((i : Int) % 20) = 19 := by omega
         go_wp2_with fail
         refine (turn_any HM3.out HS0.out.gl HS0.out.ok (by omega) (by have := HS0.out.w; omega)).mono ?_; rintro e w4 ⟨rfl, V, hT, hV⟩; have HM4 := Lib.hid hV; have HI4 : Hid (R2 p0 (i + 1) V) := Lib.hid (r2_turn HS0.out (by omega) hT); clear hT hV
         go_wp2_with fail
         go_roundw
         case rel => exact ⟨i + 1, V, by omega, by go_num, HM4, HI4⟩
         case measure => simp [intOf]; omega
        ·have e19 : (Int.tmod (i : Int) 20 == 19) = false := by rw [Int.tmod_eq_emod_of_nonneg (by omega)]; simp; omega
         have e19' : (((i : Int) % 20) == 19) = false := by simp; omega
         have e19'' : ((i % 20) == 19) = false := by simp; omega
         have HI4 : Hid (R2 p0 (i + 1) (T.send true)) := Lib.hid (r2_next HS0.out (by omega) h19); have H19 := Lib.hid h19; clear h19
         go_wp2_with fail
         go_roundw
         case rel => exact ⟨i + 1, _, by omega, by go_num, HM3, HI4⟩
         case measure => simp [intOf]; omega
      ·have elt : decide ((i : Int) < bodies) = false := decide_eq_false hil; have HI2 : Hid (R3 p0 0 T) := Lib.hid (r3_start HI.out (by omega)); have HM2 := HM; clear HI HM hib
       go_wp2_with fail
       go_loopw [11] (fun iv wr => ∃ (m : Nat) (T : TW), m ≤ 28 ∧ iv = .int .i64 (m : Int) ∧ Hid (TwA a0 a1 w wr g T [Ce c8 81 #[.int .i64 p0.1, .int .u64 (p0.2.1 : Int), .int .u64 (p0.2.2.1 : Int), .int .u64 (p0.2.2.2.1 : Int), .int .u64 (p0.2.2.2.2 : Int)]]) ∧ Hid (R3 p0 m T)) (fun iv _ => 28 - (intOf iv).toNat)
       case atStart => exact ⟨0, T, by omega, rfl, HM2, HI2⟩
       case round =>
        clear HM2 HI2; obtain ⟨m, T, hm, rfl, HM, HI⟩ := hrel
        by_cases hm8 : m < 28
        ·have elt : decide (m < 28) = true := decide_eq_true hm8; have elt2 : decide ((m : Int) < 28) = true := decide_eq_true (by omega); have HC1 := Lib.hid (fun (W : World) (hS : TwA a0 a1 w W g T [Ce c8 81 #[.int .i64 p0.1, .int .u64 (p0.2.1 : Int), .int .u64 (p0.2.2.1 : Int), .int .u64 (p0.2.2.2.1 : Int), .int .u64 (p0.2.2.2.2 : Int)]]) => turn_any hS HI.out.gl HI.out.ok (by omega) HI.out.w); have HC2 := Lib.hid (fun (W : World) (V : TW) (hT : Turn T V) (hS : TwA a0 a1 w W g V [Ce c8 81 #[.int .i64 p0.1, .int .u64 (p0.2.1 : Int), .int .u64 (p0.2.2.1 : Int), .int .u64 (p0.2.2.2.1 : Int), .int .u64 (p0.2.2.2.2 : Int)]]) => joined_any hS (r3_turn HI.out hm hT).ok (r3_turn HI.out hm hT).tn.js); have HC3 := Lib.hid (fun (W : World) (V : TW) (hT : Turn T V) (hS : TwA a0 a1 w W g V [Ce c8 81 #[.int .i64 p0.1, .int .u64 (p0.2.1 : Int), .int .u64 (p0.2.2.1 : Int), .int .u64 (p0.2.2.2.1 : Int), .int .u64 (p0.2.2.2.2 : Int)]]) => show Calls Try.prog 28 #[.pointer (some ⟨g, 0, none⟩), .int .i64 0] W (fun e w' => e = .returned (.agg #[.int .i64 p0.1, .int .u64 (p0.2.1 : Int), .int .u64 (p0.2.2.1 : Int), .int .u64 (p0.2.2.2.1 : Int), .int .u64 (p0.2.2.2.2 : Int)]) ∧ Below W.heap.size W w') from by
          have h1 := ofA0 hS (r3_turn HI.out hm hT).ok; rw [(r3_turn HI.out hm hT).pr] at h1; exact h1)
         go_wp2_with fail
         refine wRG (fun dn xv W => if dn 1 = true then TurnP T a0 a1 w g [Ce c8 81 #[.int .i64 p0.1, .int .u64 (p0.2.1 : Int), .int .u64 (p0.2.2.1 : Int), .int .u64 (p0.2.2.2.1 : Int), .int .u64 (p0.2.2.2.2 : Int)]] W else TwA a0 a1 w W g T [Ce c8 81 #[.int .i64 p0.1, .int .u64 (p0.2.1 : Int), .int .u64 (p0.2.2.1 : Int), .int .u64 (p0.2.2.2.1 : Int), .int .u64 (p0.2.2.2.2 : Int)]]) (fun _ _ => True) [xP_ g 0, xV_ (.bool true), xV_ (.bool false), xV_ (.bool false), xP_ g 0, xV_ (.bool true), xV_ (.bool false), xV_ (.bool false), xV_ (.bool false), xP_ g 0, xV_ (.agg #[.int .i64 p0.1, .int .u64 (p0.2.1 : Int), .int .u64 (p0.2.2.1 : Int), .int .u64 (p0.2.2.2.1 : Int), .int .u64 (p0.2.2.2.2 : Int)]), xV_ (.agg #[.int .i64 p0.1, .int .u64 (p0.2.1 : Int), .int .u64 (p0.2.2.1 : Int), .int .u64 (p0.2.2.2.1 : Int), .int .u64 (p0.2.2.2.2 : Int)]), xV_ (.bool false), xV_ (.bool false)] (fun xv => by simpa using HM.out.drew) ?_ ?_
         ·refine Ep 1 5 g 0 ?_
          refine EC 2 rfl (fun h i W F a b c d f H K g => ?_) ?_
          ·have f89 := gE (a 89) (by kernel_rfl) (H 0) (by kernel_rfl); rw [if_neg (by simp [b])] at f; have hS := f; clear f c b d a H; refine oP rfl ?_; go_simp; refine (HC1.out W hS).mono ?_; rintro e W' ⟨rfl, hs⟩; exact g.out _ W' rfl trivial (by simpa [upB, upd] using hs)
          refine Ee 3 90 1 ?_
          refine Ee 4 91 2 ?_
          refine Epeg 5 5 g 0 92 3 ?_
          refine EC 6 rfl (fun i k W F a b c d f H K h => ?_) ?_
          ·have f93 := gE (a 93) (by kernel_rfl) (H 4) (by kernel_rfl); have f92 := gE (a 92) (by kernel_rfl) (H 3) (by kernel_rfl); have q1 := (H 1 (uM 3 (uM 2 uE))).1; rw [if_pos q1] at f; obtain ⟨V, hT, hA⟩ := f; clear H c b d a; refine oG rfl (by kernel_rfl) f92 ?_; go_simp; refine (HC2.out W V hT hA).mono ?_; rintro e W' ⟨rfl, hb⟩; have hs : TurnP T a0 a1 w g [Ce c8 81 #[.int .i64 p0.1, .int .u64 (p0.2.1 : Int), .int .u64 (p0.2.2.1 : Int), .int .u64 (p0.2.2.2.1 : Int), .int .u64 (p0.2.2.2.2 : Int)]] W' := ⟨V, hT, hA.grow hb⟩; exact h.out _ W' rfl trivial (by simpa [upB, upd, q1] using hs)
          refine Eeeg 7 94 5 92 3 ?_
          refine Eee 8 92 3 95 6 ?_
          refine Ee 9 96 7 ?_
          refine Epeg 10 5 g 0 97 8 ?_
          refine EC 11 rfl (fun i k W F a b c d f H K h => ?_) ?_
          ·have f98 := gE (a 98) (by kernel_rfl) (H 9) (by kernel_rfl); have f97 := gE (a 97) (by kernel_rfl) (H 8) (by kernel_rfl); have q1 := (H 1 (uM 8 (uM 7 (uM 3 (uM 2 uE))))).1; rw [if_pos q1] at f; obtain ⟨V, hT, hA⟩ := f; clear H c b d a; refine oG rfl (by kernel_rfl) f97 ?_; go_simp; refine (HC3.out W V hT hA).mono ?_; rintro e W' ⟨rfl, hb⟩; have hs : TurnP T a0 a1 w g [Ce c8 81 #[.int .i64 p0.1, .int .u64 (p0.2.1 : Int), .int .u64 (p0.2.2.1 : Int), .int .u64 (p0.2.2.2.1 : Int), .int .u64 (p0.2.2.2.2 : Int)]] W' := ⟨V, hT, hA.grow hb⟩; exact h.out _ W' rfl trivial (by simpa [upB, upd, q1] using hs)
          refine EC 12 rfl (fun g h W F a b c d e H K f => ?_) ?_
          ·have f8 : F.tmps.getD 8 undef = .pointer (some ⟨c8, 0, none⟩) := (a 8).trans (by kernel_rfl); have f97 := gE (a 97) (by kernel_rfl) (H 8) (by kernel_rfl); have hq := e; have q1 := (H 1 (uM 8 (uM 7 (uM 3 (uM 2 uE))))).1; rw [if_pos q1] at hq; obtain ⟨V, hT, hA⟩ := hq; have kf0 := hA.q0 0 (v := .int .i64 p0.1) rfl; have kf1 := hA.q0 1 (v := .int .u64 (p0.2.1 : Int)) rfl; have kf2 := hA.q0 2 (v := .int .u64 (p0.2.2.1 : Int)) rfl; have kf3 := hA.q0 3 (v := .int .u64 (p0.2.2.2.1 : Int)) rfl; have kf4 := hA.q0 4 (v := .int .u64 (p0.2.2.2.2 : Int)) rfl; clear H c b d a; refine oG rfl (by kernel_rfl) f97 ?_; go_simp; exact f.out _ _ rfl trivial e
          refine Eeeeg 13 99 10 100 11 97 8 ?_
          refine Eee 14 97 8 101 12 ?_
          exact EN
         ·intro dn xv w3 hI H; have q13 : xv 13 = .bool false := (H 13 (of_decide_eq_true (by kernel_rfl))).2; have qe : dn 1 = true := (H 1 (of_decide_eq_true (by kernel_rfl))).1; rw [if_pos qe] at hI; have hS := hI; clear H hI qe; simp only [putAll, Act.put, List.setIfInBounds_toArray, List.set_cons_zero, List.set_cons_succ, Nat.reduceAdd, q13]; clear q13; obtain ⟨V, hT, hV⟩ := hS; have HM3 := Lib.hid hV; have HI3 : Hid (R3 p0 (m + 1) V) := Lib.hid (r3_turn HI.out hm hT); clear hT hV
          go_wp2_with fail
          go_roundw
          case rel => exact ⟨m + 1, V, by omega, by go_num, HM3, HI3⟩
          case measure => simp [intOf]; omega
        ·have elt : decide (m < 28) = false := decide_eq_false hm8; have elt2 : decide ((m : Int) < 28) = false := decide_eq_false (by omega); obtain ⟨bd, Hbd⟩ : ∃ y, Hid (1300000 + 5600 * m = y) := ⟨_, Lib.hid rfl⟩; have hbd : bd ≤ 10000000 := by have := Hbd.out; omega
         have HO : Hid (T.Ok bd) := Lib.hid (by rw [← Hbd.out]; exact HI.out.ok); have HG : Hid T.Gl := Lib.hid HI.out.gl; have HE0 := Lib.hid (tn_end HI.out.tn (by omega) HI.out.gl false); have HE1 := Lib.hid (tn_end HI.out.tn (by omega) HI.out.gl true); have HP0 : Hid (T.pr false = p0) := Lib.hid HI.out.pr; obtain ⟨p1, HP1⟩ : ∃ y, Hid (T.pr true = y) := ⟨_, Lib.hid rfl⟩; clear HI hm hm8
         go_wp2_with fail
         refine (ofA0 HM.out HO.out).mono ?_; rintro e w4 ⟨rfl, hb4⟩; rw [HP0.out]; have HM4 := Lib.hid (HM.out.grow hb4); unfold prV; clear hb4 HM elt elt2
         go_wp2_with fail
         refine (ofA1 HM4.out HO.out).mono ?_; rintro e w5 ⟨rfl, hb5⟩; rw [HP1.out]; have HM5 := Lib.hid (HM4.out.grow hb5); unfold prV; clear hb5 HM4; obtain ⟨c12, H12⟩ : ∃ y, Hid (w5.heap.size = y) := ⟨_, Lib.hid rfl⟩; obtain ⟨c13, H13⟩ : ∃ y, Hid (c12 + 1 = y) := ⟨_, Lib.hid rfl⟩; have HM6 : Hid (TwA a0 a1 w ((w5.alloc (.cells #[.int .i64 p0.1, .int .u64 (p0.2.1 : Int), .int .u64 (p0.2.2.1 : Int), .int .u64 (p0.2.2.2.1 : Int), .int .u64 (p0.2.2.2.2 : Int)] 81)).alloc (.cells #[.int .i64 p1.1, .int .u64 (p1.2.1 : Int), .int .u64 (p1.2.2.1 : Int), .int .u64 (p1.2.2.2.1 : Int), .int .u64 (p1.2.2.2.2 : Int)] 81)) g T [Ce c13 81 #[.int .i64 p1.1, .int .u64 (p1.2.1 : Int), .int .u64 (p1.2.2.1 : Int), .int .u64 (p1.2.2.2.1 : Int), .int .u64 (p1.2.2.2.2 : Int)], Ce c12 81 #[.int .i64 p0.1, .int .u64 (p0.2.1 : Int), .int .u64 (p0.2.2.1 : Int), .int .u64 (p0.2.2.2.1 : Int), .int .u64 (p0.2.2.2.2 : Int)], Ce c8 81 #[.int .i64 p0.1, .int .u64 (p0.2.1 : Int), .int .u64 (p0.2.2.1 : Int), .int .u64 (p0.2.2.2.1 : Int), .int .u64 (p0.2.2.2.2 : Int)]]) := Lib.hid (by
          have h := (HM5.out.ce #[.int .i64 p0.1, .int .u64 (p0.2.1 : Int), .int .u64 (p0.2.2.1 : Int), .int .u64 (p0.2.2.2.1 : Int), .int .u64 (p0.2.2.2.2 : Int)] 81).ce #[.int .i64 p1.1, .int .u64 (p1.2.1 : Int), .int .u64 (p1.2.2.1 : Int), .int .u64 (p1.2.2.2.1 : Int), .int .u64 (p1.2.2.2.2 : Int)] 81; rw [World.size_alloc, H12.out, H13.out] at h; exact h)
         obtain ⟨bs, bt, hM⟩ := HM6.out.m; have HM := Lib.hid hM; clear hM HM5 HM6; obtain ⟨m0, Hm0⟩ : ∃ y, Hid ((T.sent p0).length = y) := ⟨_, Lib.hid rfl⟩; obtain ⟨m1, Hm1⟩ : ∃ y, Hid ((T.sent p1).length = y) := ⟨_, Lib.hid rfl⟩; have hp0 : prOk p0 := by rw [← HP0.out]; exact HO.out.prP false (by omega)
         have hp1 : prOk p1 := by rw [← HP1.out]; exact HO.out.prP true (by omega)
         have HL := fun (W : World) (hS : TwM bs bt a0 a1 w W g T [Ce c13 81 #[.int .i64 p1.1, .int .u64 (p1.2.1 : Int), .int .u64 (p1.2.2.1 : Int), .int .u64 (p1.2.2.2.1 : Int), .int .u64 (p1.2.2.2.2 : Int)], Ce c12 81 #[.int .i64 p0.1, .int .u64 (p0.2.1 : Int), .int .u64 (p0.2.2.1 : Int), .int .u64 (p0.2.2.2.1 : Int), .int .u64 (p0.2.2.2.2 : Int)], Ce c8 81 #[.int .i64 p0.1, .int .u64 (p0.2.1 : Int), .int .u64 (p0.2.2.1 : Int), .int .u64 (p0.2.2.2.1 : Int), .int .u64 (p0.2.2.2.2 : Int)]]) => hS
         have HS0 := Lib.hid (fun (W : World) (hS : TwM bs bt a0 a1 w W g T [Ce c13 81 #[.int .i64 p1.1, .int .u64 (p1.2.1 : Int), .int .u64 (p1.2.2.1 : Int), .int .u64 (p1.2.2.2.1 : Int), .int .u64 (p1.2.2.2.2 : Int)], Ce c12 81 #[.int .i64 p0.1, .int .u64 (p0.2.1 : Int), .int .u64 (p0.2.2.1 : Int), .int .u64 (p0.2.2.2.1 : Int), .int .u64 (p0.2.2.2.2 : Int)], Ce c8 81 #[.int .i64 p0.1, .int .u64 (p0.2.1 : Int), .int .u64 (p0.2.2.1 : Int), .int .u64 (p0.2.2.2.1 : Int), .int .u64 (p0.2.2.2.2 : Int)]]) => show ∃ A c, (Instr.lookup 32 (.map (some bs)) (.agg #[.int .i64 p0.1, .int .u64 (p0.2.1 : Int), .int .u64 (p0.2.2.1 : Int), .int .u64 (p0.2.2.2.1 : Int), .int .u64 (p0.2.2.2.2 : Int)]) false).run Try.prog W = .ok (.slice A m0 c) W from by rw [← Hm0.out]; exact hS.look8 hp0); have HS1 := Lib.hid (fun (W : World) (hS : TwM bs bt a0 a1 w W g T [Ce c13 81 #[.int .i64 p1.1, .int .u64 (p1.2.1 : Int), .int .u64 (p1.2.2.1 : Int), .int .u64 (p1.2.2.2.1 : Int), .int .u64 (p1.2.2.2.2 : Int)], Ce c12 81 #[.int .i64 p0.1, .int .u64 (p0.2.1 : Int), .int .u64 (p0.2.2.1 : Int), .int .u64 (p0.2.2.2.1 : Int), .int .u64 (p0.2.2.2.2 : Int)], Ce c8 81 #[.int .i64 p0.1, .int .u64 (p0.2.1 : Int), .int .u64 (p0.2.2.1 : Int), .int .u64 (p0.2.2.2.1 : Int), .int .u64 (p0.2.2.2.2 : Int)]]) => show ∃ A c, (Instr.lookup 32 (.map (some bs)) (.agg #[.int .i64 p1.1, .int .u64 (p1.2.1 : Int), .int .u64 (p1.2.2.1 : Int), .int .u64 (p1.2.2.2.1 : Int), .int .u64 (p1.2.2.2.2 : Int)]) false).run Try.prog W = .ok (.slice A m1 c) W from by rw [← Hm1.out]; exact hS.look8 hp1); have HT0 := Lib.hid (fun (W : World) (hS : TwM bs bt a0 a1 w W g T [Ce c13 81 #[.int .i64 p1.1, .int .u64 (p1.2.1 : Int), .int .u64 (p1.2.2.1 : Int), .int .u64 (p1.2.2.2.1 : Int), .int .u64 (p1.2.2.2.2 : Int)], Ce c12 81 #[.int .i64 p0.1, .int .u64 (p0.2.1 : Int), .int .u64 (p0.2.2.1 : Int), .int .u64 (p0.2.2.2.1 : Int), .int .u64 (p0.2.2.2.2 : Int)], Ce c8 81 #[.int .i64 p0.1, .int .u64 (p0.2.1 : Int), .int .u64 (p0.2.2.1 : Int), .int .u64 (p0.2.2.2.1 : Int), .int .u64 (p0.2.2.2.2 : Int)]]) => show ∃ A c, (Instr.lookup 32 (.map (some bt)) (.agg #[.int .i64 p0.1, .int .u64 (p0.2.1 : Int), .int .u64 (p0.2.2.1 : Int), .int .u64 (p0.2.2.2.1 : Int), .int .u64 (p0.2.2.2.2 : Int)]) false).run Try.prog W = .ok (.slice A m0 c) W from by
          have h1 := HE0.out.1; rw [HP0.out, Hm0.out] at h1; rw [← h1]; exact hS.look9 hp0)
         have HT1 := Lib.hid (fun (W : World) (hS : TwM bs bt a0 a1 w W g T [Ce c13 81 #[.int .i64 p1.1, .int .u64 (p1.2.1 : Int), .int .u64 (p1.2.2.1 : Int), .int .u64 (p1.2.2.2.1 : Int), .int .u64 (p1.2.2.2.2 : Int)], Ce c12 81 #[.int .i64 p0.1, .int .u64 (p0.2.1 : Int), .int .u64 (p0.2.2.1 : Int), .int .u64 (p0.2.2.2.1 : Int), .int .u64 (p0.2.2.2.2 : Int)], Ce c8 81 #[.int .i64 p0.1, .int .u64 (p0.2.1 : Int), .int .u64 (p0.2.2.1 : Int), .int .u64 (p0.2.2.2.1 : Int), .int .u64 (p0.2.2.2.2 : Int)]]) => show ∃ A c, (Instr.lookup 32 (.map (some bt)) (.agg #[.int .i64 p1.1, .int .u64 (p1.2.1 : Int), .int .u64 (p1.2.2.1 : Int), .int .u64 (p1.2.2.2.1 : Int), .int .u64 (p1.2.2.2.2 : Int)]) false).run Try.prog W = .ok (.slice A m1 c) W from by
          have h1 := HE1.out.1; rw [HP1.out, Hm1.out] at h1; rw [← h1]; exact hS.look9 hp1)
         have HW0 := Lib.hid (fun (W : World) (hS : TwM bs bt a0 a1 w W g T [Ce c13 81 #[.int .i64 p1.1, .int .u64 (p1.2.1 : Int), .int .u64 (p1.2.2.1 : Int), .int .u64 (p1.2.2.2.1 : Int), .int .u64 (p1.2.2.2.2 : Int)], Ce c12 81 #[.int .i64 p0.1, .int .u64 (p0.2.1 : Int), .int .u64 (p0.2.2.1 : Int), .int .u64 (p0.2.2.2.1 : Int), .int .u64 (p0.2.2.2.2 : Int)], Ce c8 81 #[.int .i64 p0.1, .int .u64 (p0.2.1 : Int), .int .u64 (p0.2.2.1 : Int), .int .u64 (p0.2.2.2.1 : Int), .int .u64 (p0.2.2.2.2 : Int)]]) => show Calls Try.prog 23 #[.pointer (some ⟨a0, 0, none⟩)] W (fun e w' => e = .returned (.int .i64 0) ∧ Below W.heap.size W w') from by
          have h1 := waitsA0 hS.a HO.out; rw [HE0.out.2] at h1; exact h1)
         have HW1 := Lib.hid (fun (W : World) (hS : TwM bs bt a0 a1 w W g T [Ce c13 81 #[.int .i64 p1.1, .int .u64 (p1.2.1 : Int), .int .u64 (p1.2.2.1 : Int), .int .u64 (p1.2.2.2.1 : Int), .int .u64 (p1.2.2.2.2 : Int)], Ce c12 81 #[.int .i64 p0.1, .int .u64 (p0.2.1 : Int), .int .u64 (p0.2.2.1 : Int), .int .u64 (p0.2.2.2.1 : Int), .int .u64 (p0.2.2.2.2 : Int)], Ce c8 81 #[.int .i64 p0.1, .int .u64 (p0.2.1 : Int), .int .u64 (p0.2.2.1 : Int), .int .u64 (p0.2.2.2.1 : Int), .int .u64 (p0.2.2.2.2 : Int)]]) => show Calls Try.prog 23 #[.pointer (some ⟨a1, 0, none⟩)] W (fun e w' => e = .returned (.int .i64 0) ∧ Below W.heap.size W w') from by
          have h1 := waitsA1 hS.a HO.out; rw [HE1.out.2] at h1; exact h1)
         have HRT := Lib.hid (fun (W : World) (hS : TwM bs bt a0 a1 w W g T [Ce c13 81 #[.int .i64 p1.1, .int .u64 (p1.2.1 : Int), .int .u64 (p1.2.2.1 : Int), .int .u64 (p1.2.2.2.1 : Int), .int .u64 (p1.2.2.2.2 : Int)], Ce c12 81 #[.int .i64 p0.1, .int .u64 (p0.2.1 : Int), .int .u64 (p0.2.2.1 : Int), .int .u64 (p0.2.2.2.1 : Int), .int .u64 (p0.2.2.2.2 : Int)], Ce c8 81 #[.int .i64 p0.1, .int .u64 (p0.2.1 : Int), .int .u64 (p0.2.2.1 : Int), .int .u64 (p0.2.2.2.1 : Int), .int .u64 (p0.2.2.2.2 : Int)]]) => right_any hS.a.pop.pop.pop HG.out.O HO.out (by omega)); clear hp0 hp1 HL
         go_wp2_with fail
         rw [H12.out, H13.out]; refine wRG (fun dn xv W => TwM bs bt a0 a1 w W g T [Ce c13 81 #[.int .i64 p1.1, .int .u64 (p1.2.1 : Int), .int .u64 (p1.2.2.1 : Int), .int .u64 (p1.2.2.2.1 : Int), .int .u64 (p1.2.2.2.2 : Int)], Ce c12 81 #[.int .i64 p0.1, .int .u64 (p0.2.1 : Int), .int .u64 (p0.2.2.1 : Int), .int .u64 (p0.2.2.2.1 : Int), .int .u64 (p0.2.2.2.2 : Int)], Ce c8 81 #[.int .i64 p0.1, .int .u64 (p0.2.1 : Int), .int .u64 (p0.2.2.1 : Int), .int .u64 (p0.2.2.2.1 : Int), .int .u64 (p0.2.2.2.2 : Int)]]) (fun _ _ => True) [xP_ g 0, xP_ g 0, xP_ g 0, xP_ g 0, xP_ a0 0, xV_ (.int .i64 0), xV_ (.bool true), xV_ (.bool true), xP_ g 0, xP_ g 0, xP_ g 0, xP_ g 1, xP_ a1 0, xV_ (.int .i64 0), xV_ (.bool true), xV_ (.bool true), xV_ (.bool true), xP_ g 0, xP_ g 0, xP_ g 9, xV_ (.map (some bt)), xV_ (.agg #[.int .i64 p0.1, .int .u64 (p0.2.1 : Int), .int .u64 (p0.2.2.1 : Int), .int .u64 (p0.2.2.2.1 : Int), .int .u64 (p0.2.2.2.2 : Int)]), fun v _ => ∃ A c, v = .slice A m0 c, xV_ (.int .i64 (m0 : Int)), xP_ g 0, xP_ g 0, xP_ g 8, xV_ (.map (some bs)), xV_ (.agg #[.int .i64 p0.1, .int .u64 (p0.2.1 : Int), .int .u64 (p0.2.2.1 : Int), .int .u64 (p0.2.2.2.1 : Int), .int .u64 (p0.2.2.2.2 : Int)]), fun v _ => ∃ A c, v = .slice A m0 c, xV_ (.int .i64 (m0 : Int)), xV_ (.bool true), xV_ (.bool true), xV_ (.bool true), xP_ g 0, xP_ g 0, xP_ g 9, xV_ (.map (some bt)), xV_ (.agg #[.int .i64 p1.1, .int .u64 (p1.2.1 : Int), .int .u64 (p1.2.2.1 : Int), .int .u64 (p1.2.2.2.1 : Int), .int .u64 (p1.2.2.2.2 : Int)]), fun v _ => ∃ A c, v = .slice A m1 c, xV_ (.int .i64 (m1 : Int)), xP_ g 0, xP_ g 0, xP_ g 8, xV_ (.map (some bs)), xV_ (.agg #[.int .i64 p1.1, .int .u64 (p1.2.1 : Int), .int .u64 (p1.2.2.1 : Int), .int .u64 (p1.2.2.2.1 : Int), .int .u64 (p1.2.2.2.2 : Int)]), fun v _ => ∃ A c, v = .slice A m1 c, xV_ (.int .i64 (m1 : Int)), xV_ (.bool true), xV_ (.bool true), xV_ (.bool true), xP_ g 0, xV_ (.bool true), xV_ (.bool true), xV_ (.bool true), xV_ (.bool true), xV_ (.bool true), xV_ (.bool true)] (fun xv => by simpa using HM.out.drew) ?_ ?_
         ·refine Ep 1 5 g 0 ?_
          refine Ee 2 107 0 ?_
          refine Ee 3 108 1 ?_
          refine Ee 4 109 2 ?_
          refine Eek 5 110 3 (fun _ _ _ f => f.a.l0) ?_
          refine EC 6 rfl (fun i j W F a b c d f H K h => ?_) ?_
          ·have f111 := gE (a 111) (by kernel_rfl) (H 4) (by kernel_rfl); clear H c b d a; refine oP rfl ?_; go_simp; refine (HW0.out W f).mono ?_; rintro e W' ⟨rfl, hb⟩; have hs : TwM bs bt a0 a1 w W' g T [Ce c13 81 #[.int .i64 p1.1, .int .u64 (p1.2.1 : Int), .int .u64 (p1.2.2.1 : Int), .int .u64 (p1.2.2.2.1 : Int), .int .u64 (p1.2.2.2.2 : Int)], Ce c12 81 #[.int .i64 p0.1, .int .u64 (p0.2.1 : Int), .int .u64 (p0.2.2.1 : Int), .int .u64 (p0.2.2.2.1 : Int), .int .u64 (p0.2.2.2.2 : Int)], Ce c8 81 #[.int .i64 p0.1, .int .u64 (p0.2.1 : Int), .int .u64 (p0.2.2.1 : Int), .int .u64 (p0.2.2.2.1 : Int), .int .u64 (p0.2.2.2.2 : Int)]] := f.grow hb; exact h.out _ W' rfl trivial (by simpa [upB, upd] using hs)
          refine Ee 7 112 5 ?_
          refine Ee 8 113 6 ?_
          refine Epeg 9 5 g 0 114 7 ?_
          refine Eeeg 10 115 8 114 7 ?_
          refine Eeeg 11 116 9 114 7 ?_
          refine Eeeg 12 117 10 114 7 ?_
          refine Eeegk 13 118 11 114 7 (fun _ _ _ f => f.a.l1) ?_
          refine EC 14 rfl (fun i j W F a b c d f H K h => ?_) ?_
          ·have f119 := gE (a 119) (by kernel_rfl) (H 12) (by kernel_rfl); have f114 := gE (a 114) (by kernel_rfl) (H 7) (by kernel_rfl); clear H c b d a; refine oG rfl (by kernel_rfl) f114 ?_; go_simp; refine (HW1.out W f).mono ?_; rintro e W' ⟨rfl, hb⟩; have hs : TwM bs bt a0 a1 w W' g T [Ce c13 81 #[.int .i64 p1.1, .int .u64 (p1.2.1 : Int), .int .u64 (p1.2.2.1 : Int), .int .u64 (p1.2.2.2.1 : Int), .int .u64 (p1.2.2.2.2 : Int)], Ce c12 81 #[.int .i64 p0.1, .int .u64 (p0.2.1 : Int), .int .u64 (p0.2.2.1 : Int), .int .u64 (p0.2.2.2.1 : Int), .int .u64 (p0.2.2.2.2 : Int)], Ce c8 81 #[.int .i64 p0.1, .int .u64 (p0.2.1 : Int), .int .u64 (p0.2.2.1 : Int), .int .u64 (p0.2.2.2.1 : Int), .int .u64 (p0.2.2.2.2 : Int)]] := f.grow hb; exact h.out _ W' rfl trivial (by simpa [upB, upd] using hs)
          refine Eeeg 15 120 13 114 7 ?_
          refine Eee 16 114 7 121 14 ?_
          refine Ee 17 122 15 ?_
          refine Epeg 18 5 g 0 123 16 ?_
          refine Eeeg 19 124 17 123 16 ?_
          refine Eeeg 20 125 18 123 16 ?_
          refine Eeegk 21 126 19 123 16 (fun _ _ _ e => e.m9) ?_
          refine EC 22 rfl (fun h i W F b c d e f H K g => ?_) ?_
          ·have f12 : F.tmps.getD 12 undef = .pointer (some ⟨c12, 0, none⟩) := (b 12).trans (by kernel_rfl); have f123 := gE (b 123) (by kernel_rfl) (H 16) (by kernel_rfl); have hq := f.a; have kf0 := hq.q1 0 (v := .int .i64 p0.1) rfl; have kf1 := hq.q1 1 (v := .int .u64 (p0.2.1 : Int)) rfl; have kf2 := hq.q1 2 (v := .int .u64 (p0.2.2.1 : Int)) rfl; have kf3 := hq.q1 3 (v := .int .u64 (p0.2.2.2.1 : Int)) rfl; have kf4 := hq.q1 4 (v := .int .u64 (p0.2.2.2.2 : Int)) rfl; clear H d c e b; refine oG rfl (by kernel_rfl) f123 ?_; go_simp; exact g.out _ _ rfl trivial f
          refine EC 23 rfl (fun g h W F a b c d e H K f => ?_) ?_
          ·have f127 := gE (a 127) (by kernel_rfl) (H 20) (by kernel_rfl); have f128 := gE (a 128) (by kernel_rfl) (H 21) (by kernel_rfl); have f123 := gE (a 123) (by kernel_rfl) (H 16) (by kernel_rfl); obtain ⟨Aq, cq, hrun⟩ := HT0.out W e; clear H c b d a; refine oG rfl (by kernel_rfl) f123 ?_; go_simp; exact f.out _ _ ⟨Aq, cq, rfl⟩ trivial (by simpa [upB, upd] using e)
          refine EC 24 rfl (fun g h W F a b c d e H K f => ?_) ?_
          ·have h22 := (H 22 uE).2; simp only [Dl] at h22; have f129 : F.tmps.getD 129 undef = h 22 := (a 129).trans (by kernel_rfl); have f123 := gE (a 123) (by kernel_rfl) (H 16) (by kernel_rfl); obtain ⟨Aq, cq, eq⟩ := h22; rw [eq] at f129; clear H c b d a; refine oG rfl (by kernel_rfl) f123 ?_; go_simp; exact f.out _ _ rfl trivial e
          refine Epeg 25 5 g 0 123 16 ?_
          refine Eeeg 26 131 24 123 16 ?_
          refine Eeeg 27 132 25 123 16 ?_
          refine Eeegk 28 133 26 123 16 (fun _ _ _ e => e.m8) ?_
          refine EC 29 rfl (fun h i W F b c d e f H K g => ?_) ?_
          ·have f12 : F.tmps.getD 12 undef = .pointer (some ⟨c12, 0, none⟩) := (b 12).trans (by kernel_rfl); have f123 := gE (b 123) (by kernel_rfl) (H 16) (by kernel_rfl); have hq := f.a; have kf0 := hq.q1 0 (v := .int .i64 p0.1) rfl; have kf1 := hq.q1 1 (v := .int .u64 (p0.2.1 : Int)) rfl; have kf2 := hq.q1 2 (v := .int .u64 (p0.2.2.1 : Int)) rfl; have kf3 := hq.q1 3 (v := .int .u64 (p0.2.2.2.1 : Int)) rfl; have kf4 := hq.q1 4 (v := .int .u64 (p0.2.2.2.2 : Int)) rfl; clear H d c e b; refine oG rfl (by kernel_rfl) f123 ?_; go_simp; exact g.out _ _ rfl trivial f
          refine EC 30 rfl (fun g h W F a b c d e H K f => ?_) ?_
          ·have f134 := gE (a 134) (by kernel_rfl) (H 27) (by kernel_rfl); have f135 := gE (a 135) (by kernel_rfl) (H 28) (by kernel_rfl); have f123 := gE (a 123) (by kernel_rfl) (H 16) (by kernel_rfl); obtain ⟨Aq, cq, hrun⟩ := HS0.out W e; clear H c b d a; refine oG rfl (by kernel_rfl) f123 ?_; go_simp; exact f.out _ _ ⟨Aq, cq, rfl⟩ trivial (by simpa [upB, upd] using e)
          refine EC 31 rfl (fun g h W F a b c d e H K f => ?_) ?_
          ·have h29 := (H 29 uE).2; simp only [Dl] at h29; have f136 : F.tmps.getD 136 undef = h 29 := (a 136).trans (by kernel_rfl); have f123 := gE (a 123) (by kernel_rfl) (H 16) (by kernel_rfl); obtain ⟨Aq, cq, eq⟩ := h29; rw [eq] at f136; clear H c b d a; refine oG rfl (by kernel_rfl) f123 ?_; go_simp; exact f.out _ _ rfl trivial e
          refine Eeeeg 32 130 23 137 30 123 16 ?_
          refine Eee 33 123 16 138 31 ?_
          refine Ee 34 139 32 ?_
          refine Epeg 35 5 g 0 140 33 ?_
          refine Eeeg 36 141 34 140 33 ?_
          refine Eeeg 37 142 35 140 33 ?_
          refine Eeegk 38 143 36 140 33 (fun _ _ _ e => e.m9) ?_
          refine EC 39 rfl (fun h i W F b c d e f H K g => ?_) ?_
          ·have f13 : F.tmps.getD 13 undef = .pointer (some ⟨c13, 0, none⟩) := (b 13).trans (by kernel_rfl); have f140 := gE (b 140) (by kernel_rfl) (H 33) (by kernel_rfl); have hq := f.a; have kf0 := hq.q0 0 (v := .int .i64 p1.1) rfl; have kf1 := hq.q0 1 (v := .int .u64 (p1.2.1 : Int)) rfl; have kf2 := hq.q0 2 (v := .int .u64 (p1.2.2.1 : Int)) rfl; have kf3 := hq.q0 3 (v := .int .u64 (p1.2.2.2.1 : Int)) rfl; have kf4 := hq.q0 4 (v := .int .u64 (p1.2.2.2.2 : Int)) rfl; clear H d c e b; refine oG rfl (by kernel_rfl) f140 ?_; go_simp; exact g.out _ _ rfl trivial f
          refine EC 40 rfl (fun g h W F a b c d e H K f => ?_) ?_
          ·have f144 := gE (a 144) (by kernel_rfl) (H 37) (by kernel_rfl); have f145 := gE (a 145) (by kernel_rfl) (H 38) (by kernel_rfl); have f140 := gE (a 140) (by kernel_rfl) (H 33) (by kernel_rfl); obtain ⟨Aq, cq, hrun⟩ := HT1.out W e; clear H c b d a; refine oG rfl (by kernel_rfl) f140 ?_; go_simp; exact f.out _ _ ⟨Aq, cq, rfl⟩ trivial (by simpa [upB, upd] using e)
          refine EC 41 rfl (fun g h W F a b c d e H K f => ?_) ?_
          ·have h39 := (H 39 uE).2; simp only [Dl] at h39; have f146 : F.tmps.getD 146 undef = h 39 := (a 146).trans (by kernel_rfl); have f140 := gE (a 140) (by kernel_rfl) (H 33) (by kernel_rfl); obtain ⟨Aq, cq, eq⟩ := h39; rw [eq] at f146; clear H c b d a; refine oG rfl (by kernel_rfl) f140 ?_; go_simp; exact f.out _ _ rfl trivial e
          refine Epeg 42 5 g 0 140 33 ?_
          refine Eeeg 43 148 41 140 33 ?_
          refine Eeeg 44 149 42 140 33 ?_
          refine Eeegk 45 150 43 140 33 (fun _ _ _ e => e.m8) ?_
          refine EC 46 rfl (fun h i W F b c d e f H K g => ?_) ?_
          ·have f13 : F.tmps.getD 13 undef = .pointer (some ⟨c13, 0, none⟩) := (b 13).trans (by kernel_rfl); have f140 := gE (b 140) (by kernel_rfl) (H 33) (by kernel_rfl); have hq := f.a; have kf0 := hq.q0 0 (v := .int .i64 p1.1) rfl; have kf1 := hq.q0 1 (v := .int .u64 (p1.2.1 : Int)) rfl; have kf2 := hq.q0 2 (v := .int .u64 (p1.2.2.1 : Int)) rfl; have kf3 := hq.q0 3 (v := .int .u64 (p1.2.2.2.1 : Int)) rfl; have kf4 := hq.q0 4 (v := .int .u64 (p1.2.2.2.2 : Int)) rfl; clear H d c e b; refine oG rfl (by kernel_rfl) f140 ?_; go_simp; exact g.out _ _ rfl trivial f
          refine EC 47 rfl (fun g h W F a b c d e H K f => ?_) ?_
          ·have f151 := gE (a 151) (by kernel_rfl) (H 44) (by kernel_rfl); have f152 := gE (a 152) (by kernel_rfl) (H 45) (by kernel_rfl); have f140 := gE (a 140) (by kernel_rfl) (H 33) (by kernel_rfl); obtain ⟨Aq, cq, hrun⟩ := HS1.out W e; clear H c b d a; refine oG rfl (by kernel_rfl) f140 ?_; go_simp; exact f.out _ _ ⟨Aq, cq, rfl⟩ trivial (by simpa [upB, upd] using e)
          refine EC 48 rfl (fun g h W F a b c d e H K f => ?_) ?_
          ·have h46 := (H 46 uE).2; simp only [Dl] at h46; have f153 : F.tmps.getD 153 undef = h 46 := (a 153).trans (by kernel_rfl); have f140 := gE (a 140) (by kernel_rfl) (H 33) (by kernel_rfl); obtain ⟨Aq, cq, eq⟩ := h46; rw [eq] at f153; clear H c b d a; refine oG rfl (by kernel_rfl) f140 ?_; go_simp; exact f.out _ _ rfl trivial e
          refine Eeeeg 49 147 40 154 47 140 33 ?_
          refine Eee 50 140 33 155 48 ?_
          refine Ee 51 156 49 ?_
          refine Epeg 52 5 g 0 157 50 ?_
          refine EC 53 rfl (fun i j W F a b c d f H K h => ?_) ?_
          ·have f158 := gE (a 158) (by kernel_rfl) (H 51) (by kernel_rfl); have f157 := gE (a 157) (by kernel_rfl) (H 50) (by kernel_rfl); clear H c b d a; refine oG rfl (by kernel_rfl) f157 ?_; go_simp; refine (HRT.out W f).mono ?_; rintro e W' ⟨rfl, hb⟩; have hs : TwM bs bt a0 a1 w W' g T [Ce c13 81 #[.int .i64 p1.1, .int .u64 (p1.2.1 : Int), .int .u64 (p1.2.2.1 : Int), .int .u64 (p1.2.2.2.1 : Int), .int .u64 (p1.2.2.2.2 : Int)], Ce c12 81 #[.int .i64 p0.1, .int .u64 (p0.2.1 : Int), .int .u64 (p0.2.2.1 : Int), .int .u64 (p0.2.2.2.1 : Int), .int .u64 (p0.2.2.2.2 : Int)], Ce c8 81 #[.int .i64 p0.1, .int .u64 (p0.2.1 : Int), .int .u64 (p0.2.2.1 : Int), .int .u64 (p0.2.2.2.1 : Int), .int .u64 (p0.2.2.2.2 : Int)]] := f.grow hb; exact h.out _ W' rfl trivial (by simpa [upB, upd] using hs)
          refine Eee 54 157 50 159 52 ?_
          refine Ee 55 160 53 ?_
          refine EC 56 rfl (fun i j W F a b c d f H K h => ?_) ?_
          ·have f161 := gE (a 161) (by kernel_rfl) (H 54) (by kernel_rfl); clear H c b d a; refine oG rfl (by kernel_rfl) f161 ?_; go_simp; refine (awakeG W).mono ?_; rintro e W' ⟨rfl, hb⟩; have hs : TwM bs bt a0 a1 w W' g T [Ce c13 81 #[.int .i64 p1.1, .int .u64 (p1.2.1 : Int), .int .u64 (p1.2.2.1 : Int), .int .u64 (p1.2.2.2.1 : Int), .int .u64 (p1.2.2.2.2 : Int)], Ce c12 81 #[.int .i64 p0.1, .int .u64 (p0.2.1 : Int), .int .u64 (p0.2.2.1 : Int), .int .u64 (p0.2.2.2.1 : Int), .int .u64 (p0.2.2.2.2 : Int)], Ce c8 81 #[.int .i64 p0.1, .int .u64 (p0.2.1 : Int), .int .u64 (p0.2.2.1 : Int), .int .u64 (p0.2.2.2.1 : Int), .int .u64 (p0.2.2.2.2 : Int)]] := f.grow hb; exact h.out _ W' rfl trivial (by simpa [upB, upd] using hs)
          refine Eee 57 161 54 162 55 ?_
          refine Ee 58 163 56 ?_
          exact EN
         ·intro dn xv w6 hI H; have q56 : xv 56 = .bool true := (H 56 (of_decide_eq_true (by kernel_rfl))).2; have q57 : xv 57 = .bool true := (H 57 (of_decide_eq_true (by kernel_rfl))).2; have hS : TwM bs bt a0 a1 w w6 g T [Ce c13 81 #[.int .i64 p1.1, .int .u64 (p1.2.1 : Int), .int .u64 (p1.2.2.1 : Int), .int .u64 (p1.2.2.2.1 : Int), .int .u64 (p1.2.2.2.2 : Int)], Ce c12 81 #[.int .i64 p0.1, .int .u64 (p0.2.1 : Int), .int .u64 (p0.2.2.1 : Int), .int .u64 (p0.2.2.2.1 : Int), .int .u64 (p0.2.2.2.2 : Int)], Ce c8 81 #[.int .i64 p0.1, .int .u64 (p0.2.1 : Int), .int .u64 (p0.2.2.1 : Int), .int .u64 (p0.2.2.2.1 : Int), .int .u64 (p0.2.2.2.2 : Int)]] := hI; clear H hI; simp only [putAll, Act.put, List.setIfInBounds_toArray, List.set_cons_zero, List.set_cons_succ, Nat.reduceAdd, q56, q57]; clear q56 q57
          go_wp2_with fail
          go_ret
          exact ⟨rfl, hS.a.bel⟩
end Go.Proofs.Ytngegjboenfmeaa
/- 'caucus/caucuslaw12.LinkGoes' returns true at every input, and every argument reads behind the call as it read before it. -/
namespace Go.Proofs.Ytngegjboenfmeaa.linkGoes
open Go.ChangeShapes Go.WideShapes Go.ChangeAt Go.RowKit
set_option linter.unusedVariables false

theorem own : ownKnob Try.prog.godebug = none := by kernel_rfl
theorem laidOut : laidOutB Try.prog = true := by kernel_rfl
theorem readable : ∀ t ∈ Try.f7.params.toList, Try.prog.readableRec t = true ∧ t < Try.prog.types.size := by
 rw [Try.params7]; intro t ht; simp only [List.mem_cons, List.not_mem_nil, or_false] at ht
 rcases ht with rfl | rfl
 all_goals exact ⟨by kernel_rfl, of_decide_eq_true (by kernel_rfl)⟩

set_option maxRecDepth 100000 in
theorem lifted (os : Os) (started : os.Started) (H : Type) (enc : TypeId × Value → H) :
  ReturnsInHanded {} Try.checked os 7 .any (Rows.linkGoesSpec.pre6 enc Try.prog Try.f7 Rows.linkGoesRow.domain false) (Rows.linkGoesSpec.post enc Try.prog Try.f7 false true false false) := by
 refine returnsInHanded_of_change_sized (C := Try.checked) own started (by kernel_rfl) Try.func7
  (ChangeSpec.witness6 (enc := enc) (C := Try.checked) false ⟨#[], #[.slice none 0 0, .int .i64 0], []⟩ 8 (by kernel_rfl) (by kernel_rfl) (by kernel_rfl) (by kernel_rfl)) ?_
 intro W base args ds gs before hval0 hW hcnd hsz0 _; have hval : ∀ (j : Nat) t v, Try.f7.params[j]? = some t → args[j]? = some v → Value.okWide Try.prog W .any base t v := hval0; have hW' := hW; obtain ⟨p, q, hA0, hV, rfl, hfz, hnd⟩ := hW; have hA : DataW.TrodAll enc Try.prog W 0 (fun _ => true) true Try.f7.params.toList args.toList ds p := hA0; have hA' := hA; have hsz : (DataW.weightsEach Try.prog (Try.f7.params.toList ++ Rows.linkGoesSpec.plain.varTypes Try.prog) (ds ++ gs)).all (· ≤ reachBytes) = true := hsz0; rw [Try.params7] at hA hval hsz; obtain ⟨v0, vs0, d0, ds0, p0, q0, hargs, rfl, rfl, h0, r0⟩ := trodAll_cons hA; obtain ⟨v1, vs1, d1, ds1, p1, q1, rfl, rfl, rfl, h1, r1⟩ := trodAll_cons r0; obtain ⟨rfl, rfl, rfl⟩ := trodAll_nil r1; obtain rfl : args = #[v0, v1] := by cases args; simp_all
 obtain ⟨rfl, rfl⟩ := trodVars_none hV; obtain ⟨A0, c0, l0, rfl, hc0, hm0, hr0, hh0⟩ := arg_acts Try.underlying22 Try.underlying37 Try.underlying3 (by kernel_rfl) (by kernel_rfl) (by kernel_rfl) ⟨rfl, rfl⟩ ⟨rfl, rfl⟩ ⟨rfl, rfl⟩ (hval 0 22 v0 rfl rfl) h0 (weights_at hsz 0 rfl rfl); obtain ⟨x1, rfl, rfl, rfl, wx1⟩ := open_int Try.underlying3 (hval 1 3 v1 rfl rfl) h1; refine (goes_any W A0 c0 l0 x1 hh0 hr0).mono fun e W' ⟨he, bel⟩ => ?_
 subst he; exact ⟨_, rfl, _, _, _, [], _, [], hW', trodAll_mk1 (shut_bool Try.underlying4 _), trodAll_stays laidOut bel readable hA', rfl, bel.frame _, fun h => by cases h⟩

theorem over : Rows.linkGoesRow.holds Try.pinned (OpenSpec.ofChange Rows.linkGoesSpec) :=
 OpenClaim.holds_of_wide 7 Try.f7 rfl rfl rfl rfl rfl rfl rfl ⟨rfl, rfl, rfl, rfl, rfl⟩ rfl rfl rfl rfl rfl (by kernel_rfl) Try.func7 (by kernel_rfl)
  (of_decide_eq_true (by kernel_rfl)) (by unfold Func.isWrapper; first | (rw [if_pos (by decide +kernel)]; kernel_rfl) | (rw [if_neg (by decide +kernel)]; exact ⟨rfl, rfl⟩))
  (fun os started H enc _ => lifted os started H enc)

/-- THE STATEMENT -/
theorem proved : Rows.LinkGoesSaid := over
#print axioms proved
end Go.Proofs.Ytngegjboenfmeaa.linkGoes
