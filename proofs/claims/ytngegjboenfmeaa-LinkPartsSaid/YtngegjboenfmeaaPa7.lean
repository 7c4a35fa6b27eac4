/- Part 7 of the texts of a claim: Part OpenA Awk LinkParts LinkPartsCard -/
import Derived.Test.YtngegjboenfmeaaPa1
import Derived.Test.YtngegjboenfmeaaPa2
import Derived.Test.YtngegjboenfmeaaPa3
import Derived.Test.YtngegjboenfmeaaPa4
import Derived.Test.YtngegjboenfmeaaPa5
import Derived.Test.YtngegjboenfmeaaPa6
import Derived.Test.YtngegjboenfmeaaRows
import Derived.WalkKit
import Derived.ProofKit
import Derived.OpenShut
import Derived.ShutString
import Derived.ChangeOld
import Derived.Below
import Derived.SizedLaws
namespace Go.Proofs.Ytngegjboenfmeaa
open Go Go.RowKit Go.Shelf
set_option linter.unusedVariables false
set_option maxRecDepth 100000
set_option linter.unusedSimpArgs false

/-- acts as an argument's cells -/
def actRow (L : List (Int × Int × Int)) : List Value := L.flatMap fun a => [.int .i64 a.1, .int .i64 a.2.1, .int .i64 a.2.2]
set_option maxHeartbeats 12800000 in
theorem parts_any (w : World) (hawake : ∀ W : World, Calls Try.prog 8 #[] W fun e w' => e = .returned (.bool true) ∧ Below W.heap.size W w') (A0 : Option Addr) (cc : Nat) (L : List (Int × Int × Int)) (at_ ticks : Int) (h : Has w w.heap.size A0 (actRow L)) (hm : L.length ≤ maxLen) :
  Calls Try.prog 4 #[.slice A0 L.length cc, .int .i64 at_, .int .i64 ticks] w fun e w' => e = .returned (.bool true) ∧ Below w.heap.size w w' := by
 unfold maxLen at hm; have HAW := Lib.hid hawake; have HST := Lib.hid h; clear h hawake
 by_cases h1 : 1500 < L.length
 ·have e1 : decide (1500 < (L.length : Int)) = true := by simp; omega
  go_enter Try.func4, Try.ntmps4
  go_wp2_with fail
  refine (HAW.out _).mono ?_; rintro e w' ⟨rfl, hb⟩
  go_wp2_with fail
  go_ret
  exact ⟨rfl, hb⟩
 have e1 : decide (1500 < (L.length : Int)) = false := by simp; omega
 by_cases h2 : ticks < 4
 ·have e2 : decide (ticks < 4) = true := decide_eq_true h2; go_enter Try.func4, Try.ntmps4
  go_wp2_with fail
  refine (HAW.out _).mono ?_; rintro e w' ⟨rfl, hb⟩
  go_wp2_with fail
  go_ret
  exact ⟨rfl, hb⟩
 have e2 : decide (ticks < 4) = false := decide_eq_false h2
 by_cases h3 : 100 < ticks
 ·have e3 : decide (100 < ticks) = true := decide_eq_true h3; go_enter Try.func4, Try.ntmps4
  go_wp2_with fail
  refine (HAW.out _).mono ?_; rintro e w' ⟨rfl, hb⟩
  go_wp2_with fail
  go_ret
  exact ⟨rfl, hb⟩
 have e3 : decide (100 < ticks) = false := decide_eq_false h3; obtain ⟨ib, hib, hbit⟩ := and_low at_ 1 (by omega); have HBIT := Lib.hid hbit; clear hbit; go_enter Try.func4, Try.ntmps4
 go_wp2_with fail
 refine (begin_any _).mono ?_; rintro e w1 ⟨g, c0, c1, rfl, hA⟩; have HA := Lib.hid hA; clear hA
 go_wp2_with fail
 go_loopw [8] (fun iv wr => ∃ (k a0 a1 : Nat) (T : TW), k ≤ L.length ∧ iv = .int .i64 (k : Int) ∧ Hid (TwA a0 a1 w wr g T []) ∧ Hid (T.Inv ∧ T.Ok (1 + 20 * k))) (fun iv _ => L.length - (intOf iv).toNat)
 case atStart => exact ⟨0, c0, c1, TW.start, Nat.zero_le _, rfl, HA, Lib.hid ⟨inv_start, start_ok⟩⟩
 case round =>
  obtain ⟨k, a0, a1, T, hk, rfl, HM, HI⟩ := hrel; have kb := HM.out.bad
  by_cases hkl : k < L.length
  ·have elt : decide (k < L.length) = true := decide_eq_true hkl; obtain ⟨p, hp⟩ : ∃ p, L[k]? = some p := ⟨_, List.getElem?_eq_getElem hkl⟩; obtain ⟨d, ax, nx⟩ := p; have hh := has_bel HM.out.bel HST.out; have c0 : (actRow L)[k * 3 + 0]? = some (.int .i64 d) := by rw [actRow, flat_at (n := 3) (fun _ => rfl) L k _ 0 hp (by omega)]; rfl
   have c1 : (actRow L)[k * 3 + 1]? = some (.int .i64 ax) := by rw [actRow, flat_at (n := 3) (fun _ => rfl) L k _ 1 hp (by omega)]; rfl
   have c2 : (actRow L)[k * 3 + 2]? = some (.int .i64 nx) := by rw [actRow, flat_at (n := 3) (fun _ => rfl) L k _ 2 hp (by omega)]; rfl
   obtain ⟨ba, oa, rfl, _, _⟩ := hh _ _ c0; have f0 := hK4 hh c0; have f1 := hK4 hh c1; have f2 := hK4 hh c2; rw [Nat.add_zero] at f0; rw [← Nat.add_assoc] at f1 f2; clear c0 c1 c2 hp hh
   go_wp2_with fail
   refine (actA HM.out HI.out.2 (by omega) d ax nx).mono ?_; rintro e w2 ⟨rfl, i, kk, b0, b1, h2, h3⟩; have HM2 := Lib.hid h2; have HI2 : Hid ((T.act d i kk).Inv ∧ (T.act d i kk).Ok (1 + 20 * (k + 1))) := Lib.hid ⟨inv_act HI.out.1 d i kk, h3.mono (by omega)⟩; clear h2 h3
   go_wp2_with fail
   go_roundw
   case rel => exact ⟨k + 1, b0, b1, _, by omega, by go_num, HM2, HI2⟩
   case measure => simp [intOf]; omega
  ·have elt : decide (k < L.length) = false := decide_eq_false hkl
   rcases (show ib = 0 ∨ ib = 1 by omega) with e | e
   ·subst e; have hbi : bits .and .i64 at_ 1 = 0 := HBIT.out; obtain ⟨b0, b1, v0, v1, W0, W1, BB, bs, bt, q1, q2, q3, q4, h⟩ := HM.out; obtain ⟨AV, cV, hv, hcV, hcV2, hasV⟩ := sep_rwoForm (i := 5) h rfl; subst hv; obtain ⟨WW, HWW⟩ : ∃ y, Hid (W0 = y) := ⟨_, Lib.hid rfl⟩; obtain ⟨nl, Hnl⟩ : ∃ y, Hid (WW.length = y) := ⟨_, Lib.hid rfl⟩; obtain ⟨s, Hs⟩ : ∃ y, Hid (T.l false = y) := ⟨_, Lib.hid rfl⟩; obtain ⟨now0, Hn0⟩ : ∃ y, Hid (T.now false = y) := ⟨_, Lib.hid rfl⟩; have HWay : Hid (WW.map Prod.fst = T.way false) := Lib.hid (by rw [← HWW.out]; exact q1); have HWB : Hid (∀ x ∈ fB_ WW, x ∈ BB) := Lib.hid (by rw [← HWW.out]; exact q3); have h1 : Sep w wr (Ce g 34 (twC (.pointer (some ⟨a0, 0, none⟩)) (.pointer (some ⟨a1, 0, none⟩)) (T.l false).si (T.l true).si (T.now false) (T.now true) (.slice AV W0.length cV) v1 bs bt T.n) :: Ce a0 72 ((T.l false).cells b0) :: BoxT b0 (T.l false).box :: RwO 51 10 (.slice AV W0.length cV) W0.length (fR_ W0) :: Bods BB :: Ce a1 72 ((T.l true).cells b1) :: BoxT b1 (T.l true).box :: RwO 51 10 v1 W1.length (fR_ W1) :: MapT bs T.sent :: MapT bt T.told :: []) := ((((((((h).tF 6 rfl).tF 5 rfl).tF 5 rfl).tF 7 rfl).tF 7 rfl).tF 7 rfl).tF 7 rfl).tF 7 rfl; obtain ⟨RQ, HRQ⟩ : ∃ y : List SP, Hid ((Ce a1 72 ((T.l true).cells b1) :: BoxT b1 (T.l true).box :: RwO 51 10 v1 W1.length (fR_ W1) :: MapT bs T.sent :: MapT bt T.told :: []) = y) := ⟨_, Lib.hid rfl⟩; obtain ⟨i0, Hi0⟩ : ∃ y, Hid ((T.l false).si = y) := ⟨_, Lib.hid rfl⟩; obtain ⟨i1, Hi1⟩ : ∃ y, Hid ((T.l true).si = y) := ⟨_, Lib.hid rfl⟩; obtain ⟨no, Hno⟩ : ∃ y, Hid (T.now true = y) := ⟨_, Lib.hid rfl⟩; obtain ⟨n, Hn⟩ : ∃ y, Hid (T.n = y) := ⟨_, Lib.hid rfl⟩; rw [HWW.out, Hnl.out] at hcV; have HS0 : Hid (Sep w wr (Ce g 34 #[.pointer (some ⟨a0, 0, none⟩), .pointer (some ⟨a1, 0, none⟩), .int .u64 (i0 : Int), .int .u64 (i1 : Int), .int .u64 (now0 : Int), .int .u64 (no : Int), .slice AV nl cV, v1, .map (some bs), .map (some bt), .int .i64 (n : Int), .bool false] :: Ce a0 72 (s.cells b0) :: BoxT b0 s.box :: RwO 51 10 (.slice AV nl cV) nl (fR_ WW) :: Bods BB :: RQ)) := Lib.hid (by
     have h2 := h1; rw [HWW.out] at h2; rw [HRQ.out, Hn.out, Hn0.out, Hno.out, Hi0.out, Hi1.out, Hs.out, Hnl.out] at h2; exact h2)
    have HNUM : Hid (s.Num) := Lib.hid (by rw [← Hs.out]; exact HI.out.2.num false); have hheard : s.heard ≤ now0 := by rw [← Hs.out, ← Hn0.out]; exact HI.out.1.hd false
    have hnow : now0 ≤ 1000000000 := by rw [← Hn0.out]; have := HI.out.2.now false; omega
    have hconn : s.conn ≤ 1000000000 := by rw [← Hs.out]; have := (HI.out.2.ids false).2.1; omega
    have hnlb : nl ≤ 1000000000 := by
     have h2 := HI.out.2.way false; rw [← HWay.out, List.length_map, Hnl.out] at h2; omega
    clear h h1 q1 q2 q3 q4 hasV; have kp := cA (i := 0) HS0.out rfl 0 rfl; have kb := cA (i := 0) HS0.out rfl 11 rfl
    go_wp2_with fail
    refine (up_any _ a0 s.sn s.up HNUM.out.sn (cA (i := 1) HS0.out rfl 3 rfl) (cA (i := 1) HS0.out rfl 9 rfl)).mono ?_; rintro e w3 ⟨rfl, hb3⟩; have HS1 := Lib.hid (HS0.out.grow hb3); obtain ⟨up0, Hup⟩ : ∃ y, Hid (s.up = y) := ⟨_, Lib.hid rfl⟩; rw [Hup.out]; clear kp kb hb3 HS0; have kp := cA (i := 0) HS1.out rfl 0 rfl
    go_wp2_with fail
    refine (conns_any _ a0 s.base _ s.got s.sn s.si s.peer s.conn s.inc s.known s.up s.heard s.sent HNUM.out.sn (cH (i := 1) HS1.out rfl)).mono ?_; rintro e w4 ⟨rfl, hb4⟩; have HS2 := Lib.hid (HS1.out.grow hb4); obtain ⟨own, Hown⟩ : ∃ y, Hid (s.conn = y) := ⟨_, Lib.hid rfl⟩; rw [Hown.out]; clear kp hb4 HS1
    go_wp2_with fail
    go_loopw [11, 14] (fun dv kv wr => ∃ (k dw : Nat) (s' : LS) (bx' : Value), (k : Int) ≤ ticks ∧ dv = .int .i64 (dw : Int) ∧ kv = .int .i64 (k : Int) ∧ Hid (TkI s now0 k s' dw) ∧ Hid (Sep w wr (Ce g 34 #[.pointer (some ⟨a0, 0, none⟩), .pointer (some ⟨a1, 0, none⟩), .int .u64 (i0 : Int), .int .u64 (i1 : Int), .int .u64 ((now0 + k : Nat) : Int), .int .u64 (no : Int), .slice AV nl cV, v1, .map (some bs), .map (some bt), .int .i64 (n : Int), .bool false] :: Ce a0 72 (s'.cells bx') :: BoxT bx' s'.box :: RwO 51 10 (.slice AV nl cV) nl (fR_ WW) :: Bods BB :: RQ))) (fun _ kv _ => ticks.toNat - (intOf kv).toNat)
    case atStart => exact ⟨0, 0, s, b0, by omega, rfl, rfl, Lib.hid (tkI_start HNUM.out now0), HS2⟩
    case round =>
     obtain ⟨k, dw, s', bx', hk, rfl, rfl, HTK, HS2⟩ := hrel; have hdw : dw ≤ 1 := by rcases HTK.out.2.2 with h | h | h <;> omega
     by_cases hkt : (k : Int) < ticks
     ·have elt : decide ((k : Int) < ticks) = true := decide_eq_true hkt; obtain ⟨nk, Hnk⟩ : ∃ y, Hid (now0 + k = y) := ⟨_, Lib.hid rfl⟩; obtain ⟨n1, Hn1⟩ : ∃ y, Hid (nk + 1 = y) := ⟨_, Lib.hid rfl⟩; have hnk : nk ≤ 2000000000 := by rw [← Hnk.out]; omega
      have ewn : IntKind.u64.wrap ((nk : Int) + 1) = (nk : Int) + 1 := u64_wrapG (by omega) (by omega); have hT := tkI_step HTK.out hheard (by omega); rw [Hnk.out, Hn1.out] at hT; rw [Hnk.out] at HS2; obtain ⟨hT1, hT2⟩ := hT; have HT1 := Lib.hid hT1; have HT2 := Lib.hid hT2; clear hT1 hT2
      go_wp2_with fail
      refine wRF (fun dn xv W => if dn 10 = true then Sep w W (Ce g 34 #[.pointer (some ⟨a0, 0, none⟩), .pointer (some ⟨a1, 0, none⟩), .int .u64 (i0 : Int), .int .u64 (i1 : Int), .int .u64 ((nk : Int) + 1), .int .u64 (no : Int), .slice AV nl cV, v1, .map (some bs), .map (some bt), .int .i64 (n : Int), .bool false] :: Ce a0 72 (s'.cells bx') :: BoxT bx' s'.box :: RwO 51 10 (.slice AV nl cV) nl (fR_ WW) :: Bods BB :: RQ) else Sep w W (Ce g 34 #[.pointer (some ⟨a0, 0, none⟩), .pointer (some ⟨a1, 0, none⟩), .int .u64 (i0 : Int), .int .u64 (i1 : Int), .int .u64 ((nk : Int)), .int .u64 (no : Int), .slice AV nl cV, v1, .map (some bs), .map (some bt), .int .i64 (n : Int), .bool false] :: Ce a0 72 (s'.cells bx') :: BoxT bx' s'.box :: RwO 51 10 (.slice AV nl cV) nl (fR_ WW) :: Bods BB :: RQ)) (fun _ _ => True) [fun v _ => v = .pointer (some ⟨g, 0, none⟩), fun v _ => v = .int .i64 0, fun v _ => v = .pointer (some ⟨g, 0, none⟩), fun v _ => v = .pointer (some ⟨g, 4, none⟩), fun v _ => v = .pointer (some ⟨g, 4, none⟩), fun v _ => v = .int .u64 ((nk : Int)), fun v _ => v = .int .u64 ((nk : Int) + 1), fun v _ => v = .pointer (some ⟨g, 0, none⟩), fun v _ => v = .pointer (some ⟨g, 4, none⟩), fun v _ => v = .pointer (some ⟨g, 4, none⟩), fun v _ => True] (by kernel_rfl) (by kernel_rfl) (by kernel_rfl) (by kernel_rfl) (fun xv => by simpa using HS2.out.drew)
       (by repeat (first | exact trivial | refine ⟨fun _ _ _ _ h => h, ?_⟩)) ?_ ?_
      ·refine EC 1 rfl (fun h i W F a b c d e H K f => ?_) ?_
       ·have f7 : F.tmps.getD 7 undef = .pointer (some ⟨g, 0, none⟩) := (a 7).trans (by kernel_rfl); clear H c b d a; refine oP rfl ?_; go_simp; exact f.out _ _ rfl trivial e
       refine EC 2 rfl (fun g h W F a b c d e H K f => ?_) ?_
       ·have f9 : F.tmps.getD 9 undef = .int .i64 0 := (a 9).trans (by kernel_rfl); clear H c b d a; refine oP rfl ?_; go_simp; exact f.out _ _ rfl trivial e
       refine EC 3 rfl (fun g h W F a b c d e H K f => ?_) ?_
       ·have f80 := gE (a 80) (by kernel_rfl) (H 0) (by kernel_rfl); clear H c b d a; refine oP rfl ?_; go_simp; exact f.out _ _ rfl trivial e
       refine EC 4 rfl (fun g h W F a b c d e H K f => ?_) ?_
       ·have f82 := gE (a 82) (by kernel_rfl) (H 2) (by kernel_rfl); clear H c b d a; refine oP rfl ?_; go_simp; exact f.out _ _ rfl trivial e
       refine EC 5 rfl (fun g h W F a b c d e H K f => ?_) ?_
       ·have f81 := gE (a 81) (by kernel_rfl) (H 1) (by kernel_rfl); have f83 := gE (a 83) (by kernel_rfl) (H 3) (by kernel_rfl); clear H c b d a; refine oP rfl ?_; go_simp; exact f.out _ _ rfl trivial e
       refine EC 6 rfl (fun g h W F a b c d e H K f => ?_) ?_
       ·have f84 := gE (a 84) (by kernel_rfl) (H 4) (by kernel_rfl); have q10 : g 10 = false := c 10 (.more (j := 6) (by kernel_rfl) (.edge (by kernel_rfl))); have hq := e; rw [if_neg (by simp [q10])] at hq; have kk := cA (i := 0) hq rfl 4 rfl; clear H c b d a; refine oP rfl ?_; go_simp; exact f.out _ _ rfl trivial e
       refine EC 7 rfl (fun g h W F a b c d e H K f => ?_) ?_
       ·have f85 := gE (a 85) (by kernel_rfl) (H 5) (by kernel_rfl); clear H c b d a; refine oP rfl ?_; go_simp; exact f.out _ _ rfl trivial e
       refine EC 8 rfl (fun g h W F a b c d e H K f => ?_) ?_
       ·have f80 := gE (a 80) (by kernel_rfl) (H 0) (by kernel_rfl); clear H c b d a; refine oP rfl ?_; go_simp; exact f.out _ _ rfl trivial e
       refine EC 9 rfl (fun g h W F a b c d e H K f => ?_) ?_
       ·have f87 := gE (a 87) (by kernel_rfl) (H 7) (by kernel_rfl); clear H c b d a; refine oP rfl ?_; go_simp; exact f.out _ _ rfl trivial e
       refine EC 10 rfl (fun g h W F a b c d e H K f => ?_) ?_
       ·have f81 := gE (a 81) (by kernel_rfl) (H 1) (by kernel_rfl); have f88 := gE (a 88) (by kernel_rfl) (H 8) (by kernel_rfl); clear H c b d a; refine oP rfl ?_; go_simp; exact f.out _ _ rfl trivial e
       refine EC 11 rfl (fun h j W F a b c d e H K f => ?_) ?_
       ·have f86 := gE (a 86) (by kernel_rfl) (H 6) (by kernel_rfl); have f89 := gE (a 89) (by kernel_rfl) (H 9) (by kernel_rfl); rw [if_neg (by simp [b])] at e; have hS := e; clear e c b d a H; refine oP rfl ?_; have yy := cFz (i := 0) hS rfl 4; have kk := cA (i := 0) hS rfl 4 rfl; have hs : Sep w (W.setCell ⟨g, 4, none⟩ (.int .u64 ((nk : Int) + 1))) (Ce g 34 #[.pointer (some ⟨a0, 0, none⟩), .pointer (some ⟨a1, 0, none⟩), .int .u64 (i0 : Int), .int .u64 (i1 : Int), .int .u64 ((nk : Int) + 1), .int .u64 (no : Int), .slice AV nl cV, v1, .map (some bs), .map (some bt), .int .i64 (n : Int), .bool false] :: Ce a0 72 (s'.cells bx') :: BoxT bx' s'.box :: RwO 51 10 (.slice AV nl cV) nl (fR_ WW) :: Bods BB :: RQ) := cS (i := 0) hS rfl 4 (.int .u64 ((nk : Int) + 1)); go_simp; exact f.out undef _ trivial trivial (by simpa [upB, upd] using hs)
       exact EN
      ·intro dn xv W hI H; have qe : dn 10 = true := (H 10 (of_decide_eq_true (by kernel_rfl))).1; rw [if_pos qe] at hI; have hS := hI; clear H hI qe; simp only [putAll, Act.put, List.setIfInBounds_toArray, List.set_cons_zero, List.set_cons_succ, Nat.reduceAdd]; have en1 : (nk : Int) + 1 = (n1 : Int) := by rw [← Hn1.out]; rfl
       rw [en1] at hS; have HS4 := Lib.hid (show Sep w W (TckPre a0 s' bx' (Ce g 34 #[.pointer (some ⟨a0, 0, none⟩), .pointer (some ⟨a1, 0, none⟩), .int .u64 (i0 : Int), .int .u64 (i1 : Int), .int .u64 ((n1 : Int)), .int .u64 (no : Int), .slice AV nl cV, v1, .map (some bs), .map (some bt), .int .i64 (n : Int), .bool false] :: RwO 51 10 (.slice AV nl cV) nl (fR_ WW) :: Bods BB :: RQ)) from (hS.tF 2 rfl).tF 2 rfl); have HCALL := Lib.hid (fun (W : World) (d13 : Bool) (x12 x13 : Value) (hI : TckSt a0 s' n1 bx' (Ce g 34 #[.pointer (some ⟨a0, 0, none⟩), .pointer (some ⟨a1, 0, none⟩), .int .u64 (i0 : Int), .int .u64 (i1 : Int), .int .u64 ((n1 : Int)), .int .u64 (no : Int), .slice AV nl cV, v1, .map (some bs), .map (some bt), .int .i64 (n : Int), .bool false] :: RwO 51 10 (.slice AV nl cV) nl (fR_ WW) :: Bods BB :: RQ) false d13 false x12 x13 w W) => hI.call HTK.out.1 (by rcases HTK.out.2.2 with h | h | h <;> omega) (by have := Hn1.out; omega))
       clear hS ewn en1
       go_wp2_with fail
       refine wRF (fun dn xv W => TckSt a0 s' n1 bx' (Ce g 34 #[.pointer (some ⟨a0, 0, none⟩), .pointer (some ⟨a1, 0, none⟩), .int .u64 (i0 : Int), .int .u64 (i1 : Int), .int .u64 ((n1 : Int)), .int .u64 (no : Int), .slice AV nl cV, v1, .map (some bs), .map (some bt), .int .i64 (n : Int), .bool false] :: RwO 51 10 (.slice AV nl cV) nl (fR_ WW) :: Bods BB :: RQ) (dn 12) (dn 13) (dn 14) (xv 12) (xv 13) w W) (fun _ _ => True) [fun v _ => v = .pointer (some ⟨g, 0, none⟩), fun v _ => v = .int .i64 0, fun v _ => v = .pointer (some ⟨g, 0, none⟩), fun v _ => v = .pointer (some ⟨g, 0, none⟩), fun v _ => v = .pointer (some ⟨g, 0, none⟩), fun v _ => v = .pointer (some ⟨a0, 0, none⟩), fun v _ => v = .pointer (some ⟨g, 0, none⟩), fun v _ => v = .int .i64 0, fun v _ => v = .pointer (some ⟨g, 0, none⟩), fun v _ => v = .pointer (some ⟨g, 4, none⟩), fun v _ => v = .pointer (some ⟨g, 4, none⟩), fun v _ => v = .int .u64 ((n1 : Int)), fun v _ => True, fun v _ => True, fun v _ => True] (by kernel_rfl) (by kernel_rfl) (by kernel_rfl) (by kernel_rfl) (fun xv => (TckSt.start HS4.out.drew))
        (by repeat (first | exact trivial | refine ⟨fun _ _ _ _ h => h, ?_⟩)) ?_ ?_
       ·refine EC 1 rfl (fun h i W F a b c d e H K f => ?_) ?_
        ·have f7 : F.tmps.getD 7 undef = .pointer (some ⟨g, 0, none⟩) := (a 7).trans (by kernel_rfl); clear H c b d a; refine oP rfl ?_; go_simp; exact f.out _ _ rfl trivial e
        refine EC 2 rfl (fun g h W F a b c d e H K f => ?_) ?_
        ·have f9 : F.tmps.getD 9 undef = .int .i64 0 := (a 9).trans (by kernel_rfl); clear H c b d a; refine oP rfl ?_; go_simp; exact f.out _ _ rfl trivial e
        refine EC 3 rfl (fun g h W F a b c d e H K f => ?_) ?_
        ·have f90 := gE (a 90) (by kernel_rfl) (H 0) (by kernel_rfl); clear H c b d a; refine oP rfl ?_; go_simp; exact f.out _ _ rfl trivial e
        refine EC 4 rfl (fun g h W F a b c d e H K f => ?_) ?_
        ·have f92 := gE (a 92) (by kernel_rfl) (H 2) (by kernel_rfl); clear H c b d a; refine oP rfl ?_; go_simp; exact f.out _ _ rfl trivial e
        refine EC 5 rfl (fun g h W F a b c d e H K f => ?_) ?_
        ·have f91 := gE (a 91) (by kernel_rfl) (H 1) (by kernel_rfl); have f93 := gE (a 93) (by kernel_rfl) (H 3) (by kernel_rfl); clear H c b d a; refine oP rfl ?_; go_simp; exact f.out _ _ rfl trivial e
        refine EC 6 rfl (fun g h W F a b c d e H K f => ?_) ?_
        ·have f94 := gE (a 94) (by kernel_rfl) (H 4) (by kernel_rfl); have hr := TckSt.rst e; have kk := cA (i := 0) hr rfl 0 rfl; clear H c b d a; refine oP rfl ?_; go_simp; exact f.out _ _ rfl trivial e
        refine EC 7 rfl (fun h i W F a b c d e H K f => ?_) ?_
        ·have f7 : F.tmps.getD 7 undef = .pointer (some ⟨g, 0, none⟩) := (a 7).trans (by kernel_rfl); clear H c b d a; refine oP rfl ?_; go_simp; exact f.out _ _ rfl trivial e
        refine EC 8 rfl (fun g h W F a b c d e H K f => ?_) ?_
        ·have f9 : F.tmps.getD 9 undef = .int .i64 0 := (a 9).trans (by kernel_rfl); clear H c b d a; refine oP rfl ?_; go_simp; exact f.out _ _ rfl trivial e
        refine EC 9 rfl (fun g h W F a b c d e H K f => ?_) ?_
        ·have f96 := gE (a 96) (by kernel_rfl) (H 6) (by kernel_rfl); clear H c b d a; refine oP rfl ?_; go_simp; exact f.out _ _ rfl trivial e
        refine EC 10 rfl (fun g h W F a b c d e H K f => ?_) ?_
        ·have f98 := gE (a 98) (by kernel_rfl) (H 8) (by kernel_rfl); clear H c b d a; refine oP rfl ?_; go_simp; exact f.out _ _ rfl trivial e
        refine EC 11 rfl (fun g h W F a b c d e H K f => ?_) ?_
        ·have f97 := gE (a 97) (by kernel_rfl) (H 7) (by kernel_rfl); have f99 := gE (a 99) (by kernel_rfl) (H 9) (by kernel_rfl); clear H c b d a; refine oP rfl ?_; go_simp; exact f.out _ _ rfl trivial e
        refine EC 12 rfl (fun g h W F a b c d e H K f => ?_) ?_
        ·have f100 := gE (a 100) (by kernel_rfl) (H 10) (by kernel_rfl); have hr := TckSt.rst e; have kk := cA (i := 0) hr rfl 4 rfl; clear H c b d a; refine oP rfl ?_; go_simp; exact f.out _ _ rfl trivial e
        refine EC 13 rfl (fun h i W F a b c d f H K g => ?_) ?_
        ·have f95 := gE (a 95) (by kernel_rfl) (H 5) (by kernel_rfl); have f101 := gE (a 101) (by kernel_rfl) (H 11) (by kernel_rfl); have q14 : h 14 = false := c 14 (.edge (by kernel_rfl)); rw [b, q14] at f; clear H c b d a; refine oP rfl ?_; go_simp; refine (HCALL.out W _ _ _ f).mono ?_; rintro e W' ⟨v, rfl, hs⟩; exact g.out v W' trivial trivial (by simpa [upB, upd, q14] using hs)
        refine EC 14 rfl (fun g h W F a b c d e H K f => ?_) ?_
        ·have q14 : g 14 = false := c 14 (.edge (by kernel_rfl)); rw [b, q14] at e; have hs := e.made; clear H c b d a; refine oP rfl ?_; go_simp; exact f.out _ _ trivial trivial (by simpa [upB, upd, q14] using hs)
        refine EC 15 rfl (fun h i W F b c d e f H K g => ?_) ?_
        ·have f15 : F.tmps.getD 15 undef = i 13 := (b 15).trans (by kernel_rfl); have f102 : F.tmps.getD 102 undef = i 12 := (b 102).trans (by kernel_rfl); have q12 : h 12 = true := (H 12 (.edge (by kernel_rfl))).1; have q13 : h 13 = true := (H 13 (.edge (by kernel_rfl))).1; rw [c, q12, q13] at f; obtain ⟨a, Af, kf, cf, Ae, ke, ce, ea, ev, fz0, fz1, cz0, cz1, hs⟩ := f.stored; have g15 := f15.trans ea; have g102 := f102.trans ev; clear H d c e b; refine oP rfl ?_; go_simp; exact g.out undef _ trivial trivial (by simpa [upB, upd, q12, q13] using hs)
        exact EN
       ·intro dn xv W hI H; have q14 : dn 14 = true := (H 14 (of_decide_eq_true (by kernel_rfl))).1; rw [q14] at hI; obtain ⟨a, vF, vE, bx2, LP, LE, e15, hLP, hLE, hS⟩ := TckSt.done hI; clear H hI; simp only [putAll, Act.put, List.setIfInBounds_toArray, List.set_cons_zero, List.set_cons_succ, Nat.reduceAdd]; unfold TckPost at hS; rw [e15]; clear e15; obtain ⟨AF, cF, rfl, hcF, _, hasF⟩ := sep_rwForm (i := 1) hS rfl; obtain ⟨AE, cE, rfl, hcE, _, _⟩ := sep_rwForm (i := 3) hS rfl; obtain ⟨nf, Hnf⟩ : ∃ y, Hid (LP.length = y) := ⟨_, Lib.hid rfl⟩; obtain ⟨ne, Hne⟩ : ∃ y, Hid (LE.length = y) := ⟨_, Lib.hid rfl⟩; have hne : dw + ne ≤ 1 := by
         have h1 := congrArg List.length hLE; rw [List.length_map, Hne.out] at h1; rw [h1]
         rcases HT1.out.2.2 with h | h | h <;> omega
        have HNE : Hid (TkI s now0 (k + 1) (s'.tick n1) (dw + ne)) := Lib.hid (by
         have h1 := HT1.out; rw [← hLE, List.length_map, Hne.out] at h1; exact h1)
        have HKI : Hid (∀ p ∈ LE, p.1.kind = 2) := Lib.hid (fun p hp => HT2.out p.1 (by rw [← hLE]; exact List.mem_map.2 ⟨p, hp, rfl⟩)); obtain ⟨p0, hp0, hp1⟩ : ∃ p0, LP[0]? = some p0 ∧ p0.1.kind = 1 := by
         cases LP with
         | nil => simp [LS.tickF] at hLP
         | cons p LP =>
          refine ⟨p, rfl, ?_⟩; rw [List.map_cons] at hLP; unfold LS.tickF at hLP; simp only [List.cons.injEq] at hLP; rw [hLP.1]; rfl
        have hnf : 0 < nf := by rw [← Hnf.out]; exact (List.getElem?_eq_some_iff.1 hp0).1
        obtain ⟨bf, of, rfl, _, _⟩ := hasF.at_ (k := 0) (by rw [frRow_len, Hnf.out]; omega); have HK0 : Hid ((fR_ LP)[0 * 10 + 0]? = some (.int .i64 1)) := Lib.hid (frRow_at hp0 (by omega) (by show some (Value.int .i64 p0.1.kind) = _; rw [hp1])); rw [Hnf.out, Hne.out] at hS; have HS5 := Lib.hid hS; clear hS hLP hLE HT1 HT2 HCALL HS4 hcF hcE hp0 hp1 hasF
        go_wp2_with fail
        go_loopw [11, 16] (fun dv jv wr => ∃ j : Nat, j ≤ ne ∧ dv = .int .i64 ((dw + j : Nat) : Int) ∧ jv = .int .i64 (j : Int) ∧ Hid (Sep w wr (Ce a 43 #[.slice (some ⟨bf, of, none⟩) nf cF, .slice AE ne cE] :: Rw 51 10 (.slice (some ⟨bf, of, none⟩) nf cF) nf (fR_ LP) :: Bods (fB_ LP) :: Rw 49 4 (.slice AE ne cE) ne (eR_ LE) :: Bods (eB_ LE) :: Ce a0 72 ((s'.tick n1).cells bx2) :: BoxT bx2 (s'.tick n1).box :: Ce g 34 #[.pointer (some ⟨a0, 0, none⟩), .pointer (some ⟨a1, 0, none⟩), .int .u64 (i0 : Int), .int .u64 (i1 : Int), .int .u64 ((n1 : Int)), .int .u64 (no : Int), .slice AV nl cV, v1, .map (some bs), .map (some bt), .int .i64 (n : Int), .bool false] :: RwO 51 10 (.slice AV nl cV) nl (fR_ WW) :: Bods BB :: RQ))) (fun _ jv _ => ne - (intOf jv).toNat)
        case atStart => exact ⟨0, Nat.zero_le _, rfl, rfl, HS5⟩
        case round =>
         obtain ⟨j, hj, rfl, rfl, HS5⟩ := hrel; have k1 := cA (v := .slice AE ne cE) (i := 0) HS5.out rfl 1 rfl; have k0 := cA (v := .slice (some ⟨bf, of, none⟩) nf cF) (i := 0) HS5.out rfl 0 rfl
         by_cases hjn : j < ne
         ·have elj : decide (j < ne) = true := decide_eq_true hjn; obtain ⟨p, hp⟩ : ∃ p, LE[j]? = some p := ⟨_, List.getElem?_eq_getElem (by rw [Hne.out]; exact hjn)⟩; have hE0 : (eR_ LE)[j * 4 + 0]? = some (.int .i64 2) := evRow_at hp (by omega) (by show some (Value.int .i64 p.1.kind) = _; rw [HKI.out p (List.mem_of_getElem? hp)]); have hh := rH (i := 3) HS5.out rfl; obtain ⟨be_, oe, rfl, _, _⟩ := hh _ _ hE0; have ke := hK4 hh hE0; rw [Nat.add_zero] at ke; have ewd : IntKind.i64.wrap (((dw + j : Nat) : Int) + 1) = ((dw + (j + 1) : Nat) : Int) := by rw [IntKind.wrap_i64]; omega
          clear hp hE0 hh
          go_wp2_with fail
          go_roundw
          case rel => exact ⟨j + 1, by omega, by go_num, by go_num, HS5⟩
          case measure => simp [intOf]; omega
         ·have elj : decide (j < ne) = false := decide_eq_false hjn; have hje : j = ne := by omega
          subst hje; have kf := hK4 (rH (i := 1) HS5.out rfl) HK0.out; simp only [Nat.zero_mul, Nat.add_zero] at kf; have enf : (nf == 0) = false := by simp; omega
          clear hjn
          go_wp2_with fail
          go_roundw
          case rel => exact ⟨k + 1, dw + j, _, _, by omega, rfl, by go_num, HNE, Lib.hid (by rw [show now0 + (k + 1) = n1 by have := Hnk.out; have := Hn1.out; omega]; exact (((((((((HS5.out.drop 0).drop 0).drop 0).drop 0).drop 0)).tF 1 rfl).tF 1 rfl).tF 2 rfl))⟩
          case measure => simp [intOf]; omega
     ·have elt : decide ((k : Int) < ticks) = false := decide_eq_false hkt; have hke : (k : Int) = ticks := by omega
      obtain ⟨nowE, HnE⟩ : ∃ y, Hid (now0 + k = y) := ⟨_, Lib.hid rfl⟩; have hnE : nowE ≤ 2000000000 := by rw [← HnE.out]; omega
      rw [HnE.out] at HS2; have h4t : 4 ≤ k := by omega
      obtain ⟨hNum3, hsi3, hcase⟩ := HTK.out; obtain ⟨c3, Hc3⟩ : ∃ y, Hid (s'.conn = y) := ⟨_, Lib.hid rfl⟩; have hcs : s'.up = false ∧ ((up0 = true ∧ c3 = own + 1 ∧ dw = 1) ∨ (up0 = false ∧ c3 = own ∧ dw = 0)) := by
       rw [← Hup.out, ← Hown.out, ← Hc3.out]
       rcases hcase with ⟨u1, u2, u3, u4, u5, u6⟩ | ⟨u1, u2, u3, u4⟩ | ⟨u1, u2, u3, u4⟩
       ·omega
       ·exact ⟨u1, .inl ⟨u2, u3, u4⟩⟩
       ·exact ⟨u1, .inr ⟨u2, u3, u4⟩⟩
      have HCS := Lib.hid hcs; have HN3 := Lib.hid hNum3; have HSI := Lib.hid hsi3; have hownb : own ≤ 1000000000 := by rw [← Hown.out]; exact hconn
      have kp := cA (i := 0) HS2.out rfl 0 rfl; clear hcase hcs hNum3 hsi3
      go_wp2_with fail
      refine (conns_any _ a0 s'.base _ s'.got s'.sn s'.si s'.peer s'.conn s'.inc s'.known s'.up s'.heard s'.sent HN3.out.sn (cH (i := 1) HS2.out rfl)).mono ?_; rintro e w5 ⟨rfl, hb5⟩; have HS3 := Lib.hid (HS2.out.grow hb5); rw [Hc3.out]; clear kp hb5 HS2
      go_upto_region 27 with fail
      go_cut [175] from 141 to 174 (fun t wx => t = .bool false ∧ Hid (Sep w wx (Ce g 34 #[.pointer (some ⟨a0, 0, none⟩), .pointer (some ⟨a1, 0, none⟩), .int .u64 (i0 : Int), .int .u64 (i1 : Int), .int .u64 (nowE : Int), .int .u64 (no : Int), .slice AV nl cV, v1, .map (some bs), .map (some bt), .int .i64 (n : Int), .bool false] :: Ce a0 72 (s'.cells bx') :: BoxT bx' s'.box :: RwO 51 10 (.slice AV nl cV) nl (fR_ WW) :: Bods BB :: RQ)))
      case first =>
       have kp := cA (i := 0) HS3.out rfl 0 rfl
       go_wp2_with fail
       refine (up_any _ a0 s'.sn s'.up HN3.out.sn (cA (i := 1) HS3.out rfl 3 rfl) (cA (i := 1) HS3.out rfl 9 rfl)).mono ?_; rintro e w6 ⟨rfl, hb6⟩; have HS4 := Lib.hid (HS3.out.grow hb6); obtain ⟨hu3, hc⟩ := HCS.out; rw [hu3]; have ewo : IntKind.u64.wrap ((own : Int) + 1) = (own : Int) + 1 := u64_wrapG (by omega) (by omega); clear kp hb6 HS3
       rcases hc with ⟨e1, e2, e3⟩ | ⟨e1, e2, e3⟩
       ·subst e1 e2 e3
        go_wp2_with fail
        go_meet
        case rel => exact ⟨rfl, HS4⟩
       ·subst e1 e2 e3
        go_wp2_with fail
        go_meet
        case rel => exact ⟨rfl, HS4⟩
      case rest =>
       obtain ⟨rfl, HS4⟩ := hcut; clear HS3
       go_wp2_with fail
       go_loopw [19] (fun kv wr => ∃ (k : Nat) (s3 : LS) (bx3 : Value), k ≤ nl ∧ kv = .int .i64 (k : Int) ∧ Hid (s3.Num ∧ s3.si = s.si ∧ s3.conn = c3 ∧ (up0 = true → s3.up = false)) ∧ Hid (Sep w wr (Ce g 34 #[.pointer (some ⟨a0, 0, none⟩), .pointer (some ⟨a1, 0, none⟩), .int .u64 (i0 : Int), .int .u64 (i1 : Int), .int .u64 (nowE : Int), .int .u64 (no : Int), .slice AV nl cV, v1, .map (some bs), .map (some bt), .int .i64 (n : Int), .bool false] :: Ce a0 72 (s3.cells bx3) :: BoxT bx3 s3.box :: RwO 51 10 (.slice AV nl cV) nl (fR_ WW) :: Bods BB :: RQ))) (fun kv _ => nl - (intOf kv).toNat)
       case atStart => exact ⟨0, s', bx', Nat.zero_le _, rfl, Lib.hid ⟨HN3.out, HSI.out, Hc3.out, fun _ => HCS.out.1⟩, HS4⟩
       case round =>
        obtain ⟨k, s3, bx3, hkn, rfl, HP, HS7⟩ := hrel; have kw := cA (v := .slice AV nl cV) (i := 0) HS7.out rfl 6 rfl
        by_cases hkl : k < nl
        ·have elk : decide (k < nl) = true := decide_eq_true hkl; obtain ⟨p, hp⟩ : ∃ p, WW[k]? = some p := ⟨_, List.getElem?_eq_getElem (by rw [Hnl.out]; exact hkl)⟩; have hpB : (p.2, p.1.body) ∈ BB := HWB.out _ (List.mem_map.2 ⟨_, List.mem_of_getElem? hp, rfl⟩); have hfw : p.1 ∈ T.way false := by rw [← HWay.out]; exact List.mem_map.2 ⟨p, List.mem_of_getElem? hp, rfl⟩
         have hfo := HI.out.2.frs false p.1 hfw; have hlx := HI.out.1.tw false p.1 hfw; rw [Hs.out] at hlx; obtain ⟨AU, cU, hu, _, _, _⟩ := sep_bodsAt (i := 4) HS7.out rfl hpB; obtain ⟨bw, ow, rfl, _, _⟩ := (sep_rwoHas (i := 3) HS7.out rfl).at_ (k := 0) (by rw [frRow_len, Hnl.out]; omega); obtain ⟨⟨kind, ffr, fto, finc, fconn, pinc, pconn, fack, fseq, body⟩, u⟩ := p; simp only at hu hpB hfo hlx; subst hu; have HF0 : Hid ((fR_ WW)[k * 10 + 0]? = some (.int .i64 kind)) := Lib.hid (frRow_at hp (by omega)); have HF1 : Hid ((fR_ WW)[k * 10 + 1]? = some (.int .i64 ffr)) := Lib.hid (frRow_at hp (by omega)); have HF2 : Hid ((fR_ WW)[k * 10 + 2]? = some (.int .i64 fto)) := Lib.hid (frRow_at hp (by omega)); have HF3 : Hid ((fR_ WW)[k * 10 + 3]? = some (.int .u64 (finc : Int))) := Lib.hid (frRow_at hp (by omega)); have HF4 : Hid ((fR_ WW)[k * 10 + 4]? = some (.int .u64 (fconn : Int))) := Lib.hid (frRow_at hp (by omega)); have HF5 : Hid ((fR_ WW)[k * 10 + 5]? = some (.int .u64 (pinc : Int))) := Lib.hid (frRow_at hp (by omega)); have HF6 : Hid ((fR_ WW)[k * 10 + 6]? = some (.int .u64 (pconn : Int))) := Lib.hid (frRow_at hp (by omega)); have HF7 : Hid ((fR_ WW)[k * 10 + 7]? = some (.int .u64 (fack : Int))) := Lib.hid (frRow_at hp (by omega)); have HF8 : Hid ((fR_ WW)[k * 10 + 8]? = some (.int .u64 (fseq : Int))) := Lib.hid (frRow_at hp (by omega)); have HF9 : Hid ((fR_ WW)[k * 10 + 9]? = some (.slice AU body.length cU)) := Lib.hid (frRow_at hp (by omega)); have hbl : body.length ≤ 448 := hfo.2.2.2.2; obtain ⟨fF, HfF⟩ : ∃ y, Hid ((⟨kind, ffr, fto, finc, fconn, pinc, pconn, fack, fseq, body⟩ : Fr) = y) := ⟨_, Lib.hid rfl⟩; have HTAKE : Hid (∀ W, Sep w W (Ce g 34 #[.pointer (some ⟨a0, 0, none⟩), .pointer (some ⟨a1, 0, none⟩), .int .u64 (i0 : Int), .int .u64 (i1 : Int), .int .u64 (nowE : Int), .int .u64 (no : Int), .slice (some ⟨bw, ow, none⟩) nl cV, v1, .map (some bs), .map (some bt), .int .i64 (n : Int), .bool false] :: Ce a0 72 (s3.cells bx3) :: BoxT bx3 s3.box :: RwO 51 10 (.slice (some ⟨bw, ow, none⟩) nl cV) nl (fR_ WW) :: Bods BB :: RQ) → Calls Try.prog 15 #[.pointer (some ⟨a0, 0, none⟩), .int .u64 (nowE : Int), .agg #[.int .i64 kind, .int .i64 ffr, .int .i64 fto, .int .u64 (finc : Int), .int .u64 (fconn : Int), .int .u64 (pinc : Int), .int .u64 (pconn : Int), .int .u64 (fack : Int), .int .u64 (fseq : Int), .slice AU body.length cU]] W (fun e w' => ∃ v, e = .returned v ∧ ∃ bx', Sep w w' (Ce g 34 #[.pointer (some ⟨a0, 0, none⟩), .pointer (some ⟨a1, 0, none⟩), .int .u64 (i0 : Int), .int .u64 (i1 : Int), .int .u64 (nowE : Int), .int .u64 (no : Int), .slice (some ⟨bw, ow, none⟩) nl cV, v1, .map (some bs), .map (some bt), .int .i64 (n : Int), .bool false] :: Ce a0 72 ((s3.take nowE fF).cells bx') :: BoxT bx' (s3.take nowE fF).box :: RwO 51 10 (.slice (some ⟨bw, ow, none⟩) nl cV) nl (fR_ WW) :: Bods BB :: RQ))) := Lib.hid (fun W hS => by
          have h1 : Sep w W (Ce a0 72 (s3.cells bx3) :: BoxT bx3 s3.box :: Bods BB :: Ce g 34 #[.pointer (some ⟨a0, 0, none⟩), .pointer (some ⟨a1, 0, none⟩), .int .u64 (i0 : Int), .int .u64 (i1 : Int), .int .u64 (nowE : Int), .int .u64 (no : Int), .slice (some ⟨bw, ow, none⟩) nl cV, v1, .map (some bs), .map (some bt), .int .i64 (n : Int), .bool false] :: RwO 51 10 (.slice (some ⟨bw, ow, none⟩) nl cV) nl (fR_ WW) :: RQ) := (((((hS).tF 3 rfl).tF 1 rfl).tF 4 rfl).tF 4 rfl).tF 4 rfl; have hq := takeG (f := ⟨kind, ffr, fto, finc, fconn, pinc, pconn, fack, fseq, body⟩) (now := nowE) (A := AU) (c := cU) h1 (reads_bods hpB) HP.out.1 (by unfold maxLen; simp only; omega) (by have := hfo.2.2.1; simp only at this ⊢; omega) (by have := hfo.2.2.2.1; simp only at this ⊢; omega) (by omega); rw [← HfF.out]; refine hq.mono ?_; rintro e w' ⟨vF, vE, bx', LP, LE, rfl, _, _, h2⟩; exact ⟨_, rfl, bx', (((((((((h2.drop 0).drop 0).drop 0).drop 0)).tF 2 rfl).tF 4 rfl).tF 3 rfl).tF 3 rfl).tF 4 rfl⟩)
         have HP2 : Hid ((s3.take nowE fF).Num ∧ (s3.take nowE fF).si = s.si ∧ (s3.take nowE fF).conn = c3 ∧ (up0 = true → (s3.take nowE fF).up = false)) := Lib.hid (by
          obtain ⟨p1, p2, p3, p4⟩ := HP.out; obtain ⟨t1, t2, _⟩ := take_nums s3 nowE fF; refine ⟨p1.take (by omega) fF, t1.trans p2, t2.trans p3, fun hu0 => take_down (p4 hu0) ?_⟩; rw [← HfF.out, p2, p3]; rintro ⟨x1, x2⟩; simp only at x1 x2; have hc := HCS.out.2; rw [hu0] at hc; have ho := Hown.out; unfold Lx at hlx
          rcases hc with ⟨_, y2, _⟩ | ⟨y1, _⟩
          ·omega
          ·simp at y1)
         clear hp hpB hfw hfo hlx
         go_wp2_with fail
         refine wRF (fun dn xv W => if dn 21 = true then ∃ bx', Sep w W (Ce g 34 #[.pointer (some ⟨a0, 0, none⟩), .pointer (some ⟨a1, 0, none⟩), .int .u64 (i0 : Int), .int .u64 (i1 : Int), .int .u64 (nowE : Int), .int .u64 (no : Int), .slice (some ⟨bw, ow, none⟩) nl cV, v1, .map (some bs), .map (some bt), .int .i64 (n : Int), .bool false] :: Ce a0 72 ((s3.take nowE fF).cells bx') :: BoxT bx' (s3.take nowE fF).box :: RwO 51 10 (.slice (some ⟨bw, ow, none⟩) nl cV) nl (fR_ WW) :: Bods BB :: RQ) else Sep w W (Ce g 34 #[.pointer (some ⟨a0, 0, none⟩), .pointer (some ⟨a1, 0, none⟩), .int .u64 (i0 : Int), .int .u64 (i1 : Int), .int .u64 (nowE : Int), .int .u64 (no : Int), .slice (some ⟨bw, ow, none⟩) nl cV, v1, .map (some bs), .map (some bt), .int .i64 (n : Int), .bool false] :: Ce a0 72 (s3.cells bx3) :: BoxT bx3 s3.box :: RwO 51 10 (.slice (some ⟨bw, ow, none⟩) nl cV) nl (fR_ WW) :: Bods BB :: RQ)) (fun _ _ => True) [fun v _ => v = .pointer (some ⟨g, 0, none⟩), fun v _ => v = .int .i64 0, fun v _ => v = .pointer (some ⟨g, 0, none⟩), fun v _ => v = .pointer (some ⟨g, 0, none⟩), fun v _ => v = .pointer (some ⟨g, 0, none⟩), fun v _ => v = .pointer (some ⟨a0, 0, none⟩), fun v _ => v = .pointer (some ⟨g, 0, none⟩), fun v _ => v = .int .i64 0, fun v _ => v = .pointer (some ⟨g, 0, none⟩), fun v _ => v = .pointer (some ⟨g, 4, none⟩), fun v _ => v = .pointer (some ⟨g, 4, none⟩), fun v _ => v = .int .u64 (nowE : Int), fun v _ => v = .pointer (some ⟨g, 0, none⟩), fun v _ => v = .int .i64 0, fun v _ => v = .pointer (some ⟨g, 0, none⟩), fun v _ => v = .pointer (some ⟨g, 6, none⟩), fun v _ => v = .pointer (some ⟨g, 6, none⟩), fun v _ => v = .slice (some ⟨bw, ow, none⟩) nl cV, fun v _ => v = .int .i64 (k : Int), fun v _ => v = .pointer (some ⟨bw, ow + k * 10, none⟩), fun v _ => v = .agg #[.int .i64 kind, .int .i64 ffr, .int .i64 fto, .int .u64 (finc : Int), .int .u64 (fconn : Int), .int .u64 (pinc : Int), .int .u64 (pconn : Int), .int .u64 (fack : Int), .int .u64 (fseq : Int), .slice AU body.length cU], fun v _ => True] (by kernel_rfl) (by kernel_rfl) (by kernel_rfl) (by kernel_rfl) (fun xv => by simpa using HS7.out.drew)
          (by repeat (first | exact trivial | refine ⟨fun _ _ _ _ h => h, ?_⟩)) ?_ ?_
         ·refine EC 1 rfl (fun h i W F a b c d e H K f => ?_) ?_
          ·have f7 : F.tmps.getD 7 undef = .pointer (some ⟨g, 0, none⟩) := (a 7).trans (by kernel_rfl); clear H c b d a; refine oP rfl ?_; go_simp; exact f.out _ _ rfl trivial e
          refine EC 2 rfl (fun g h W F a b c d e H K f => ?_) ?_
          ·have f9 : F.tmps.getD 9 undef = .int .i64 0 := (a 9).trans (by kernel_rfl); clear H c b d a; refine oP rfl ?_; go_simp; exact f.out _ _ rfl trivial e
          refine EC 3 rfl (fun g h W F a b c d e H K f => ?_) ?_
          ·have f187 := gE (a 187) (by kernel_rfl) (H 0) (by kernel_rfl); clear H c b d a; refine oP rfl ?_; go_simp; exact f.out _ _ rfl trivial e
          refine EC 4 rfl (fun g h W F a b c d e H K f => ?_) ?_
          ·have f189 := gE (a 189) (by kernel_rfl) (H 2) (by kernel_rfl); clear H c b d a; refine oP rfl ?_; go_simp; exact f.out _ _ rfl trivial e
          refine EC 5 rfl (fun g h W F a b c d e H K f => ?_) ?_
          ·have f188 := gE (a 188) (by kernel_rfl) (H 1) (by kernel_rfl); have f190 := gE (a 190) (by kernel_rfl) (H 3) (by kernel_rfl); clear H c b d a; refine oP rfl ?_; go_simp; exact f.out _ _ rfl trivial e
          refine EC 6 rfl (fun g h W F a b c d e H K f => ?_) ?_
          ·have f191 := gE (a 191) (by kernel_rfl) (H 4) (by kernel_rfl); have q21 : g 21 = false := c 21 (.edge (by kernel_rfl)); have hq := e; rw [if_neg (by simp [q21])] at hq; have kk := cA (i := 0) hq rfl 0 rfl; clear H c b d a; refine oP rfl ?_; go_simp; exact f.out _ _ rfl trivial e
          refine EC 7 rfl (fun h i W F a b c d e H K f => ?_) ?_
          ·have f7 : F.tmps.getD 7 undef = .pointer (some ⟨g, 0, none⟩) := (a 7).trans (by kernel_rfl); clear H c b d a; refine oP rfl ?_; go_simp; exact f.out _ _ rfl trivial e
          refine EC 8 rfl (fun g h W F a b c d e H K f => ?_) ?_
          ·have f9 : F.tmps.getD 9 undef = .int .i64 0 := (a 9).trans (by kernel_rfl); clear H c b d a; refine oP rfl ?_; go_simp; exact f.out _ _ rfl trivial e
          refine EC 9 rfl (fun g h W F a b c d e H K f => ?_) ?_
          ·have f193 := gE (a 193) (by kernel_rfl) (H 6) (by kernel_rfl); clear H c b d a; refine oP rfl ?_; go_simp; exact f.out _ _ rfl trivial e
          refine EC 10 rfl (fun g h W F a b c d e H K f => ?_) ?_
          ·have f195 := gE (a 195) (by kernel_rfl) (H 8) (by kernel_rfl); clear H c b d a; refine oP rfl ?_; go_simp; exact f.out _ _ rfl trivial e
          refine EC 11 rfl (fun g h W F a b c d e H K f => ?_) ?_
          ·have f194 := gE (a 194) (by kernel_rfl) (H 7) (by kernel_rfl); have f196 := gE (a 196) (by kernel_rfl) (H 9) (by kernel_rfl); clear H c b d a; refine oP rfl ?_; go_simp; exact f.out _ _ rfl trivial e
          refine EC 12 rfl (fun g h W F a b c d e H K f => ?_) ?_
          ·have f197 := gE (a 197) (by kernel_rfl) (H 10) (by kernel_rfl); have q21 : g 21 = false := c 21 (.edge (by kernel_rfl)); have hq := e; rw [if_neg (by simp [q21])] at hq; have kk := cA (i := 0) hq rfl 4 rfl; clear H c b d a; refine oP rfl ?_; go_simp; exact f.out _ _ rfl trivial e
          refine EC 13 rfl (fun h i W F a b c d e H K f => ?_) ?_
          ·have f7 : F.tmps.getD 7 undef = .pointer (some ⟨g, 0, none⟩) := (a 7).trans (by kernel_rfl); clear H c b d a; refine oP rfl ?_; go_simp; exact f.out _ _ rfl trivial e
          refine EC 14 rfl (fun g h W F a b c d e H K f => ?_) ?_
          ·have f9 : F.tmps.getD 9 undef = .int .i64 0 := (a 9).trans (by kernel_rfl); clear H c b d a; refine oP rfl ?_; go_simp; exact f.out _ _ rfl trivial e
          refine EC 15 rfl (fun g h W F a b c d e H K f => ?_) ?_
          ·have f199 := gE (a 199) (by kernel_rfl) (H 12) (by kernel_rfl); clear H c b d a; refine oP rfl ?_; go_simp; exact f.out _ _ rfl trivial e
          refine EC 16 rfl (fun g h W F a b c d e H K f => ?_) ?_
          ·have f201 := gE (a 201) (by kernel_rfl) (H 14) (by kernel_rfl); clear H c b d a; refine oP rfl ?_; go_simp; exact f.out _ _ rfl trivial e
          refine EC 17 rfl (fun g h W F a b c d e H K f => ?_) ?_
          ·have f200 := gE (a 200) (by kernel_rfl) (H 13) (by kernel_rfl); have f202 := gE (a 202) (by kernel_rfl) (H 15) (by kernel_rfl); clear H c b d a; refine oP rfl ?_; go_simp; exact f.out _ _ rfl trivial e
          refine EC 18 rfl (fun g h W F a b c d e H K f => ?_) ?_
          ·have f203 := gE (a 203) (by kernel_rfl) (H 16) (by kernel_rfl); have q21 : g 21 = false := c 21 (.more (j := 20) (by kernel_rfl) (.more (j := 19) (by kernel_rfl) (.edge (by kernel_rfl)))); have hq := e; rw [if_neg (by simp [q21])] at hq; have kk := cA (v := .slice (some ⟨bw, ow, none⟩) nl cV) (i := 0) hq rfl 6 rfl; clear H c b d a; refine oP rfl ?_; go_simp; exact f.out _ _ rfl trivial e
          refine EC 19 rfl (fun g h W F a b c d e H K f => ?_) ?_
          ·have f19 : F.tmps.getD 19 undef = .int .i64 (k : Int) := (a 19).trans (by kernel_rfl); clear H c b d a; refine oP rfl ?_; go_simp; exact f.out _ _ rfl trivial e
          refine EC 20 rfl (fun g h W F a b c d e H K f => ?_) ?_
          ·have f204 := gE (a 204) (by kernel_rfl) (H 17) (by kernel_rfl); have f205 := gE (a 205) (by kernel_rfl) (H 18) (by kernel_rfl); clear H c b d a; refine oP rfl ?_; go_simp; exact f.out _ _ rfl trivial e
          refine EC 21 rfl (fun g h W F a b c d e H K f => ?_) ?_
          ·have f206 := gE (a 206) (by kernel_rfl) (H 19) (by kernel_rfl); have q21 : g 21 = false := c 21 (.edge (by kernel_rfl)); have hq := e; rw [if_neg (by simp [q21])] at hq; have hr := sep_rwoHas (i := 3) hq rfl; have kf0 := hK4 hr HF0.out; have kf1 := hK4 hr HF1.out; have kf2 := hK4 hr HF2.out; have kf3 := hK4 hr HF3.out; have kf4 := hK4 hr HF4.out; have kf5 := hK4 hr HF5.out; have kf6 := hK4 hr HF6.out; have kf7 := hK4 hr HF7.out; have kf8 := hK4 hr HF8.out; have kf9 := hK4 hr HF9.out; rw [Nat.add_zero] at kf0; rw [← Nat.add_assoc] at kf1 kf2 kf3 kf4 kf5 kf6 kf7 kf8 kf9; clear H c b d a; refine oP rfl ?_; go_simp; exact f.out _ _ rfl trivial e
          refine EC 22 rfl (fun h i W F a b c d f H K g => ?_) ?_
          ·have f192 := gE (a 192) (by kernel_rfl) (H 5) (by kernel_rfl); have f198 := gE (a 198) (by kernel_rfl) (H 11) (by kernel_rfl); have f207 := gE (a 207) (by kernel_rfl) (H 20) (by kernel_rfl); rw [if_neg (by simp [b])] at f; have hS := f; clear f c b d a H; refine oP rfl ?_; go_simp; refine (HTAKE.out W hS).mono ?_; rintro e W' ⟨v, rfl, hs⟩; exact g.out v W' trivial trivial (by simpa [upB, upd] using hs)
          exact EN
         ·intro dn xv W hI H; have qe : dn 21 = true := (H 21 (of_decide_eq_true (by kernel_rfl))).1; rw [if_pos qe] at hI; have hS := hI; clear H hI qe; simp only [putAll, Act.put, List.setIfInBounds_toArray, List.set_cons_zero, List.set_cons_succ, Nat.reduceAdd]; obtain ⟨bx4, hS⟩ := hS; have HS8 := Lib.hid hS; clear hS HS7
          go_upto_region 33 with fail
          go_cut [218] from 209 to 217 (fun t wx => t = .bool false ∧ Hid (Sep w wx (Ce g 34 #[.pointer (some ⟨a0, 0, none⟩), .pointer (some ⟨a1, 0, none⟩), .int .u64 (i0 : Int), .int .u64 (i1 : Int), .int .u64 (nowE : Int), .int .u64 (no : Int), .slice (some ⟨bw, ow, none⟩) nl cV, v1, .map (some bs), .map (some bt), .int .i64 (n : Int), .bool false] :: Ce a0 72 ((s3.take nowE fF).cells bx4) :: BoxT bx4 (s3.take nowE fF).box :: RwO 51 10 (.slice (some ⟨bw, ow, none⟩) nl cV) nl (fR_ WW) :: Bods BB :: RQ)))
          case first =>
           have kp := cA (i := 0) HS8.out rfl 0 rfl; cases up0 with
           | true =>
            have HU9 := Lib.hid (HP2.out.2.2.2 rfl)
            go_wp2_with fail
            refine (up_any _ a0 (s3.take nowE fF).sn (s3.take nowE fF).up HP2.out.1.sn (cA (i := 1) HS8.out rfl 3 rfl) (cA (i := 1) HS8.out rfl 9 rfl)).mono ?_; rintro e w7 ⟨rfl, hb7⟩; have HS9 := Lib.hid (HS8.out.grow hb7); rw [HU9.out]; clear hb7 kp
            go_wp2_with fail
            go_meet
            case rel => exact ⟨rfl, HS9⟩
           | false =>
            go_wp2_with fail
            go_meet
            case rel => exact ⟨rfl, HS8⟩
          case rest =>
           obtain ⟨rfl, HS9⟩ := hcut
           go_wp2_with fail
           go_roundw
           case rel => exact ⟨k + 1, _, bx4, by omega, by go_num, HP2, HS9⟩
           case measure => simp [intOf]; omega
        ·have elk : decide (k < nl) = false := decide_eq_false hkl; clear hkl
         go_wp2_with fail
         refine (HAW.out _).mono ?_; rintro e w9 ⟨rfl, hb9⟩; have hbz : Below w.heap.size w w9 := HS7.out.bel.trans (hb9.mono HS7.out.bel.size); clear hb9
         go_wp2_with fail
         go_ret
         exact ⟨rfl, hbz⟩
   ·subst e; have hbi : bits .and .i64 at_ 1 = 1 := HBIT.out; obtain ⟨b0, b1, v0, v1, W0, W1, BB, bs, bt, q1, q2, q3, q4, h⟩ := HM.out; obtain ⟨AV, cV, hv, hcV, hcV2, hasV⟩ := sep_rwoForm (i := 6) h rfl; subst hv; obtain ⟨WW, HWW⟩ : ∃ y, Hid (W1 = y) := ⟨_, Lib.hid rfl⟩; obtain ⟨nl, Hnl⟩ : ∃ y, Hid (WW.length = y) := ⟨_, Lib.hid rfl⟩; obtain ⟨s, Hs⟩ : ∃ y, Hid (T.l true = y) := ⟨_, Lib.hid rfl⟩; obtain ⟨now0, Hn0⟩ : ∃ y, Hid (T.now true = y) := ⟨_, Lib.hid rfl⟩; have HWay : Hid (WW.map Prod.fst = T.way true) := Lib.hid (by rw [← HWW.out]; exact q2); have HWB : Hid (∀ x ∈ fB_ WW, x ∈ BB) := Lib.hid (by rw [← HWW.out]; exact q4); have h1 : Sep w wr (Ce g 34 (twC (.pointer (some ⟨a0, 0, none⟩)) (.pointer (some ⟨a1, 0, none⟩)) (T.l false).si (T.l true).si (T.now false) (T.now true) v0 (.slice AV W1.length cV) bs bt T.n) :: Ce a1 72 ((T.l true).cells b1) :: BoxT b1 (T.l true).box :: RwO 51 10 (.slice AV W1.length cV) W1.length (fR_ W1) :: Bods BB :: Ce a0 72 ((T.l false).cells b0) :: BoxT b0 (T.l false).box :: RwO 51 10 v0 W0.length (fR_ W0) :: MapT bs T.sent :: MapT bt T.told :: []) := ((((((((h).tF 5 rfl).tF 3 rfl).tF 3 rfl).tF 7 rfl).tF 7 rfl).tF 7 rfl).tF 7 rfl).tF 7 rfl; obtain ⟨RQ, HRQ⟩ : ∃ y : List SP, Hid ((Ce a0 72 ((T.l false).cells b0) :: BoxT b0 (T.l false).box :: RwO 51 10 v0 W0.length (fR_ W0) :: MapT bs T.sent :: MapT bt T.told :: []) = y) := ⟨_, Lib.hid rfl⟩; obtain ⟨i0, Hi0⟩ : ∃ y, Hid ((T.l false).si = y) := ⟨_, Lib.hid rfl⟩; obtain ⟨i1, Hi1⟩ : ∃ y, Hid ((T.l true).si = y) := ⟨_, Lib.hid rfl⟩; obtain ⟨no, Hno⟩ : ∃ y, Hid (T.now false = y) := ⟨_, Lib.hid rfl⟩; obtain ⟨n, Hn⟩ : ∃ y, Hid (T.n = y) := ⟨_, Lib.hid rfl⟩; rw [HWW.out, Hnl.out] at hcV; have HS0 : Hid (Sep w wr (Ce g 34 #[.pointer (some ⟨a0, 0, none⟩), .pointer (some ⟨a1, 0, none⟩), .int .u64 (i0 : Int), .int .u64 (i1 : Int), .int .u64 (no : Int), .int .u64 (now0 : Int), v0, .slice AV nl cV, .map (some bs), .map (some bt), .int .i64 (n : Int), .bool false] :: Ce a1 72 (s.cells b1) :: BoxT b1 s.box :: RwO 51 10 (.slice AV nl cV) nl (fR_ WW) :: Bods BB :: RQ)) := Lib.hid (by
     have h2 := h1; rw [HWW.out] at h2; rw [HRQ.out, Hn.out, Hn0.out, Hno.out, Hi0.out, Hi1.out, Hs.out, Hnl.out] at h2; exact h2)
    have HNUM : Hid (s.Num) := Lib.hid (by rw [← Hs.out]; exact HI.out.2.num true); have hheard : s.heard ≤ now0 := by rw [← Hs.out, ← Hn0.out]; exact HI.out.1.hd true
    have hnow : now0 ≤ 1000000000 := by rw [← Hn0.out]; have := HI.out.2.now true; omega
    have hconn : s.conn ≤ 1000000000 := by rw [← Hs.out]; have := (HI.out.2.ids true).2.1; omega
    have hnlb : nl ≤ 1000000000 := by
     have h2 := HI.out.2.way true; rw [← HWay.out, List.length_map, Hnl.out] at h2; omega
    clear h h1 q1 q2 q3 q4 hasV; have kp := cA (i := 0) HS0.out rfl 1 rfl; have kb := cA (i := 0) HS0.out rfl 11 rfl
    go_wp2_with fail
    refine (up_any _ a1 s.sn s.up HNUM.out.sn (cA (i := 1) HS0.out rfl 3 rfl) (cA (i := 1) HS0.out rfl 9 rfl)).mono ?_; rintro e w3 ⟨rfl, hb3⟩; have HS1 := Lib.hid (HS0.out.grow hb3); obtain ⟨up0, Hup⟩ : ∃ y, Hid (s.up = y) := ⟨_, Lib.hid rfl⟩; rw [Hup.out]; clear kp kb hb3 HS0; have kp := cA (i := 0) HS1.out rfl 1 rfl
    go_wp2_with fail
    refine (conns_any _ a1 s.base _ s.got s.sn s.si s.peer s.conn s.inc s.known s.up s.heard s.sent HNUM.out.sn (cH (i := 1) HS1.out rfl)).mono ?_; rintro e w4 ⟨rfl, hb4⟩; have HS2 := Lib.hid (HS1.out.grow hb4); obtain ⟨own, Hown⟩ : ∃ y, Hid (s.conn = y) := ⟨_, Lib.hid rfl⟩; rw [Hown.out]; clear kp hb4 HS1
    go_wp2_with fail
    go_loopw [11, 14] (fun dv kv wr => ∃ (k dw : Nat) (s' : LS) (bx' : Value), (k : Int) ≤ ticks ∧ dv = .int .i64 (dw : Int) ∧ kv = .int .i64 (k : Int) ∧ Hid (TkI s now0 k s' dw) ∧ Hid (Sep w wr (Ce g 34 #[.pointer (some ⟨a0, 0, none⟩), .pointer (some ⟨a1, 0, none⟩), .int .u64 (i0 : Int), .int .u64 (i1 : Int), .int .u64 (no : Int), .int .u64 ((now0 + k : Nat) : Int), v0, .slice AV nl cV, .map (some bs), .map (some bt), .int .i64 (n : Int), .bool false] :: Ce a1 72 (s'.cells bx') :: BoxT bx' s'.box :: RwO 51 10 (.slice AV nl cV) nl (fR_ WW) :: Bods BB :: RQ))) (fun _ kv _ => ticks.toNat - (intOf kv).toNat)
    case atStart => exact ⟨0, 0, s, b1, by omega, rfl, rfl, Lib.hid (tkI_start HNUM.out now0), HS2⟩
    case round =>
     obtain ⟨k, dw, s', bx', hk, rfl, rfl, HTK, HS2⟩ := hrel; have hdw : dw ≤ 1 := by rcases HTK.out.2.2 with h | h | h <;> omega
     by_cases hkt : (k : Int) < ticks
     ·have elt : decide ((k : Int) < ticks) = true := decide_eq_true hkt; obtain ⟨nk, Hnk⟩ : ∃ y, Hid (now0 + k = y) := ⟨_, Lib.hid rfl⟩; obtain ⟨n1, Hn1⟩ : ∃ y, Hid (nk + 1 = y) := ⟨_, Lib.hid rfl⟩; have hnk : nk ≤ 2000000000 := by rw [← Hnk.out]; omega
      have ewn : IntKind.u64.wrap ((nk : Int) + 1) = (nk : Int) + 1 := u64_wrapG (by omega) (by omega); have hT := tkI_step HTK.out hheard (by omega); rw [Hnk.out, Hn1.out] at hT; rw [Hnk.out] at HS2; obtain ⟨hT1, hT2⟩ := hT; have HT1 := Lib.hid hT1; have HT2 := Lib.hid hT2; clear hT1 hT2
      go_wp2_with fail
      refine wRF (fun dn xv W => if dn 10 = true then Sep w W (Ce g 34 #[.pointer (some ⟨a0, 0, none⟩), .pointer (some ⟨a1, 0, none⟩), .int .u64 (i0 : Int), .int .u64 (i1 : Int), .int .u64 (no : Int), .int .u64 ((nk : Int) + 1), v0, .slice AV nl cV, .map (some bs), .map (some bt), .int .i64 (n : Int), .bool false] :: Ce a1 72 (s'.cells bx') :: BoxT bx' s'.box :: RwO 51 10 (.slice AV nl cV) nl (fR_ WW) :: Bods BB :: RQ) else Sep w W (Ce g 34 #[.pointer (some ⟨a0, 0, none⟩), .pointer (some ⟨a1, 0, none⟩), .int .u64 (i0 : Int), .int .u64 (i1 : Int), .int .u64 (no : Int), .int .u64 ((nk : Int)), v0, .slice AV nl cV, .map (some bs), .map (some bt), .int .i64 (n : Int), .bool false] :: Ce a1 72 (s'.cells bx') :: BoxT bx' s'.box :: RwO 51 10 (.slice AV nl cV) nl (fR_ WW) :: Bods BB :: RQ)) (fun _ _ => True) [fun v _ => v = .pointer (some ⟨g, 0, none⟩), fun v _ => v = .int .i64 1, fun v _ => v = .pointer (some ⟨g, 0, none⟩), fun v _ => v = .pointer (some ⟨g, 4, none⟩), fun v _ => v = .pointer (some ⟨g, 5, none⟩), fun v _ => v = .int .u64 ((nk : Int)), fun v _ => v = .int .u64 ((nk : Int) + 1), fun v _ => v = .pointer (some ⟨g, 0, none⟩), fun v _ => v = .pointer (some ⟨g, 4, none⟩), fun v _ => v = .pointer (some ⟨g, 5, none⟩), fun v _ => True] (by kernel_rfl) (by kernel_rfl) (by kernel_rfl) (by kernel_rfl) (fun xv => by simpa using HS2.out.drew)
       (by repeat (first | exact trivial | refine ⟨fun _ _ _ _ h => h, ?_⟩)) ?_ ?_
      ·refine EC 1 rfl (fun h i W F a b c d e H K f => ?_) ?_
       ·have f7 : F.tmps.getD 7 undef = .pointer (some ⟨g, 0, none⟩) := (a 7).trans (by kernel_rfl); clear H c b d a; refine oP rfl ?_; go_simp; exact f.out _ _ rfl trivial e
       refine EC 2 rfl (fun g h W F a b c d e H K f => ?_) ?_
       ·have f9 : F.tmps.getD 9 undef = .int .i64 1 := (a 9).trans (by kernel_rfl); clear H c b d a; refine oP rfl ?_; go_simp; exact f.out _ _ rfl trivial e
       refine EC 3 rfl (fun g h W F a b c d e H K f => ?_) ?_
       ·have f80 := gE (a 80) (by kernel_rfl) (H 0) (by kernel_rfl); clear H c b d a; refine oP rfl ?_; go_simp; exact f.out _ _ rfl trivial e
       refine EC 4 rfl (fun g h W F a b c d e H K f => ?_) ?_
       ·have f82 := gE (a 82) (by kernel_rfl) (H 2) (by kernel_rfl); clear H c b d a; refine oP rfl ?_; go_simp; exact f.out _ _ rfl trivial e
       refine EC 5 rfl (fun g h W F a b c d e H K f => ?_) ?_
       ·have f81 := gE (a 81) (by kernel_rfl) (H 1) (by kernel_rfl); have f83 := gE (a 83) (by kernel_rfl) (H 3) (by kernel_rfl); clear H c b d a; refine oP rfl ?_; go_simp; exact f.out _ _ rfl trivial e
       refine EC 6 rfl (fun g h W F a b c d e H K f => ?_) ?_
       ·have f84 := gE (a 84) (by kernel_rfl) (H 4) (by kernel_rfl); have q10 : g 10 = false := c 10 (.more (j := 6) (by kernel_rfl) (.edge (by kernel_rfl))); have hq := e; rw [if_neg (by simp [q10])] at hq; have kk := cA (i := 0) hq rfl 5 rfl; clear H c b d a; refine oP rfl ?_; go_simp; exact f.out _ _ rfl trivial e
       refine EC 7 rfl (fun g h W F a b c d e H K f => ?_) ?_
       ·have f85 := gE (a 85) (by kernel_rfl) (H 5) (by kernel_rfl); clear H c b d a; refine oP rfl ?_; go_simp; exact f.out _ _ rfl trivial e
       refine EC 8 rfl (fun g h W F a b c d e H K f => ?_) ?_
       ·have f80 := gE (a 80) (by kernel_rfl) (H 0) (by kernel_rfl); clear H c b d a; refine oP rfl ?_; go_simp; exact f.out _ _ rfl trivial e
       refine EC 9 rfl (fun g h W F a b c d e H K f => ?_) ?_
       ·have f87 := gE (a 87) (by kernel_rfl) (H 7) (by kernel_rfl); clear H c b d a; refine oP rfl ?_; go_simp; exact f.out _ _ rfl trivial e
       refine EC 10 rfl (fun g h W F a b c d e H K f => ?_) ?_
       ·have f81 := gE (a 81) (by kernel_rfl) (H 1) (by kernel_rfl); have f88 := gE (a 88) (by kernel_rfl) (H 8) (by kernel_rfl); clear H c b d a; refine oP rfl ?_; go_simp; exact f.out _ _ rfl trivial e
       refine EC 11 rfl (fun h j W F a b c d e H K f => ?_) ?_
       ·have f86 := gE (a 86) (by kernel_rfl) (H 6) (by kernel_rfl); have f89 := gE (a 89) (by kernel_rfl) (H 9) (by kernel_rfl); rw [if_neg (by simp [b])] at e; have hS := e; clear e c b d a H; refine oP rfl ?_; have yy := cFz (i := 0) hS rfl 5; have kk := cA (i := 0) hS rfl 5 rfl; have hs : Sep w (W.setCell ⟨g, 5, none⟩ (.int .u64 ((nk : Int) + 1))) (Ce g 34 #[.pointer (some ⟨a0, 0, none⟩), .pointer (some ⟨a1, 0, none⟩), .int .u64 (i0 : Int), .int .u64 (i1 : Int), .int .u64 (no : Int), .int .u64 ((nk : Int) + 1), v0, .slice AV nl cV, .map (some bs), .map (some bt), .int .i64 (n : Int), .bool false] :: Ce a1 72 (s'.cells bx') :: BoxT bx' s'.box :: RwO 51 10 (.slice AV nl cV) nl (fR_ WW) :: Bods BB :: RQ) := cS (i := 0) hS rfl 5 (.int .u64 ((nk : Int) + 1)); go_simp; exact f.out undef _ trivial trivial (by simpa [upB, upd] using hs)
       exact EN
      ·intro dn xv W hI H; have qe : dn 10 = true := (H 10 (of_decide_eq_true (by kernel_rfl))).1; rw [if_pos qe] at hI; have hS := hI; clear H hI qe; simp only [putAll, Act.put, List.setIfInBounds_toArray, List.set_cons_zero, List.set_cons_succ, Nat.reduceAdd]; have en1 : (nk : Int) + 1 = (n1 : Int) := by rw [← Hn1.out]; rfl
       rw [en1] at hS; have HS4 := Lib.hid (show Sep w W (TckPre a1 s' bx' (Ce g 34 #[.pointer (some ⟨a0, 0, none⟩), .pointer (some ⟨a1, 0, none⟩), .int .u64 (i0 : Int), .int .u64 (i1 : Int), .int .u64 (no : Int), .int .u64 ((n1 : Int)), v0, .slice AV nl cV, .map (some bs), .map (some bt), .int .i64 (n : Int), .bool false] :: RwO 51 10 (.slice AV nl cV) nl (fR_ WW) :: Bods BB :: RQ)) from (hS.tF 2 rfl).tF 2 rfl); have HCALL := Lib.hid (fun (W : World) (d13 : Bool) (x12 x13 : Value) (hI : TckSt a1 s' n1 bx' (Ce g 34 #[.pointer (some ⟨a0, 0, none⟩), .pointer (some ⟨a1, 0, none⟩), .int .u64 (i0 : Int), .int .u64 (i1 : Int), .int .u64 (no : Int), .int .u64 ((n1 : Int)), v0, .slice AV nl cV, .map (some bs), .map (some bt), .int .i64 (n : Int), .bool false] :: RwO 51 10 (.slice AV nl cV) nl (fR_ WW) :: Bods BB :: RQ) false d13 false x12 x13 w W) => hI.call HTK.out.1 (by rcases HTK.out.2.2 with h | h | h <;> omega) (by have := Hn1.out; omega))
       clear hS ewn en1
       go_wp2_with fail
       refine wRF (fun dn xv W => TckSt a1 s' n1 bx' (Ce g 34 #[.pointer (some ⟨a0, 0, none⟩), .pointer (some ⟨a1, 0, none⟩), .int .u64 (i0 : Int), .int .u64 (i1 : Int), .int .u64 (no : Int), .int .u64 ((n1 : Int)), v0, .slice AV nl cV, .map (some bs), .map (some bt), .int .i64 (n : Int), .bool false] :: RwO 51 10 (.slice AV nl cV) nl (fR_ WW) :: Bods BB :: RQ) (dn 12) (dn 13) (dn 14) (xv 12) (xv 13) w W) (fun _ _ => True) [fun v _ => v = .pointer (some ⟨g, 0, none⟩), fun v _ => v = .int .i64 1, fun v _ => v = .pointer (some ⟨g, 0, none⟩), fun v _ => v = .pointer (some ⟨g, 0, none⟩), fun v _ => v = .pointer (some ⟨g, 1, none⟩), fun v _ => v = .pointer (some ⟨a1, 0, none⟩), fun v _ => v = .pointer (some ⟨g, 0, none⟩), fun v _ => v = .int .i64 1, fun v _ => v = .pointer (some ⟨g, 0, none⟩), fun v _ => v = .pointer (some ⟨g, 4, none⟩), fun v _ => v = .pointer (some ⟨g, 5, none⟩), fun v _ => v = .int .u64 ((n1 : Int)), fun v _ => True, fun v _ => True, fun v _ => True] (by kernel_rfl) (by kernel_rfl) (by kernel_rfl) (by kernel_rfl) (fun xv => (TckSt.start HS4.out.drew))
        (by repeat (first | exact trivial | refine ⟨fun _ _ _ _ h => h, ?_⟩)) ?_ ?_
       ·refine EC 1 rfl (fun h i W F a b c d e H K f => ?_) ?_
        ·have f7 : F.tmps.getD 7 undef = .pointer (some ⟨g, 0, none⟩) := (a 7).trans (by kernel_rfl); clear H c b d a; refine oP rfl ?_; go_simp; exact f.out _ _ rfl trivial e
        refine EC 2 rfl (fun g h W F a b c d e H K f => ?_) ?_
        ·have f9 : F.tmps.getD 9 undef = .int .i64 1 := (a 9).trans (by kernel_rfl); clear H c b d a; refine oP rfl ?_; go_simp; exact f.out _ _ rfl trivial e
        refine EC 3 rfl (fun g h W F a b c d e H K f => ?_) ?_
        ·have f90 := gE (a 90) (by kernel_rfl) (H 0) (by kernel_rfl); clear H c b d a; refine oP rfl ?_; go_simp; exact f.out _ _ rfl trivial e
        refine EC 4 rfl (fun g h W F a b c d e H K f => ?_) ?_
        ·have f92 := gE (a 92) (by kernel_rfl) (H 2) (by kernel_rfl); clear H c b d a; refine oP rfl ?_; go_simp; exact f.out _ _ rfl trivial e
        refine EC 5 rfl (fun g h W F a b c d e H K f => ?_) ?_
        ·have f91 := gE (a 91) (by kernel_rfl) (H 1) (by kernel_rfl); have f93 := gE (a 93) (by kernel_rfl) (H 3) (by kernel_rfl); clear H c b d a; refine oP rfl ?_; go_simp; exact f.out _ _ rfl trivial e
        refine EC 6 rfl (fun g h W F a b c d e H K f => ?_) ?_
        ·have f94 := gE (a 94) (by kernel_rfl) (H 4) (by kernel_rfl); have hr := TckSt.rst e; have kk := cA (i := 0) hr rfl 1 rfl; clear H c b d a; refine oP rfl ?_; go_simp; exact f.out _ _ rfl trivial e
        refine EC 7 rfl (fun h i W F a b c d e H K f => ?_) ?_
        ·have f7 : F.tmps.getD 7 undef = .pointer (some ⟨g, 0, none⟩) := (a 7).trans (by kernel_rfl); clear H c b d a; refine oP rfl ?_; go_simp; exact f.out _ _ rfl trivial e
        refine EC 8 rfl (fun g h W F a b c d e H K f => ?_) ?_
        ·have f9 : F.tmps.getD 9 undef = .int .i64 1 := (a 9).trans (by kernel_rfl); clear H c b d a; refine oP rfl ?_; go_simp; exact f.out _ _ rfl trivial e
        refine EC 9 rfl (fun g h W F a b c d e H K f => ?_) ?_
        ·have f96 := gE (a 96) (by kernel_rfl) (H 6) (by kernel_rfl); clear H c b d a; refine oP rfl ?_; go_simp; exact f.out _ _ rfl trivial e
        refine EC 10 rfl (fun g h W F a b c d e H K f => ?_) ?_
        ·have f98 := gE (a 98) (by kernel_rfl) (H 8) (by kernel_rfl); clear H c b d a; refine oP rfl ?_; go_simp; exact f.out _ _ rfl trivial e
        refine EC 11 rfl (fun g h W F a b c d e H K f => ?_) ?_
        ·have f97 := gE (a 97) (by kernel_rfl) (H 7) (by kernel_rfl); have f99 := gE (a 99) (by kernel_rfl) (H 9) (by kernel_rfl); clear H c b d a; refine oP rfl ?_; go_simp; exact f.out _ _ rfl trivial e
        refine EC 12 rfl (fun g h W F a b c d e H K f => ?_) ?_
        ·have f100 := gE (a 100) (by kernel_rfl) (H 10) (by kernel_rfl); have hr := TckSt.rst e; have kk := cA (i := 0) hr rfl 5 rfl; clear H c b d a; refine oP rfl ?_; go_simp; exact f.out _ _ rfl trivial e
        refine EC 13 rfl (fun h i W F a b c d f H K g => ?_) ?_
        ·have f95 := gE (a 95) (by kernel_rfl) (H 5) (by kernel_rfl); have f101 := gE (a 101) (by kernel_rfl) (H 11) (by kernel_rfl); have q14 : h 14 = false := c 14 (.edge (by kernel_rfl)); rw [b, q14] at f; clear H c b d a; refine oP rfl ?_; go_simp; refine (HCALL.out W _ _ _ f).mono ?_; rintro e W' ⟨v, rfl, hs⟩; exact g.out v W' trivial trivial (by simpa [upB, upd, q14] using hs)
        refine EC 14 rfl (fun g h W F a b c d e H K f => ?_) ?_
        ·have q14 : g 14 = false := c 14 (.edge (by kernel_rfl)); rw [b, q14] at e; have hs := e.made; clear H c b d a; refine oP rfl ?_; go_simp; exact f.out _ _ trivial trivial (by simpa [upB, upd, q14] using hs)
        refine EC 15 rfl (fun h i W F b c d e f H K g => ?_) ?_
        ·have f15 : F.tmps.getD 15 undef = i 13 := (b 15).trans (by kernel_rfl); have f102 : F.tmps.getD 102 undef = i 12 := (b 102).trans (by kernel_rfl); have q12 : h 12 = true := (H 12 (.edge (by kernel_rfl))).1; have q13 : h 13 = true := (H 13 (.edge (by kernel_rfl))).1; rw [c, q12, q13] at f; obtain ⟨a, Af, kf, cf, Ae, ke, ce, ea, ev, fz0, fz1, cz0, cz1, hs⟩ := f.stored; have g15 := f15.trans ea; have g102 := f102.trans ev; clear H d c e b; refine oP rfl ?_; go_simp; exact g.out undef _ trivial trivial (by simpa [upB, upd, q12, q13] using hs)
        exact EN
       ·intro dn xv W hI H; have q14 : dn 14 = true := (H 14 (of_decide_eq_true (by kernel_rfl))).1; rw [q14] at hI; obtain ⟨a, vF, vE, bx2, LP, LE, e15, hLP, hLE, hS⟩ := TckSt.done hI; clear H hI; simp only [putAll, Act.put, List.setIfInBounds_toArray, List.set_cons_zero, List.set_cons_succ, Nat.reduceAdd]; unfold TckPost at hS; rw [e15]; clear e15; obtain ⟨AF, cF, rfl, hcF, _, hasF⟩ := sep_rwForm (i := 1) hS rfl; obtain ⟨AE, cE, rfl, hcE, _, _⟩ := sep_rwForm (i := 3) hS rfl; obtain ⟨nf, Hnf⟩ : ∃ y, Hid (LP.length = y) := ⟨_, Lib.hid rfl⟩; obtain ⟨ne, Hne⟩ : ∃ y, Hid (LE.length = y) := ⟨_, Lib.hid rfl⟩; have hne : dw + ne ≤ 1 := by
         have h1 := congrArg List.length hLE; rw [List.length_map, Hne.out] at h1; rw [h1]
         rcases HT1.out.2.2 with h | h | h <;> omega
        have HNE : Hid (TkI s now0 (k + 1) (s'.tick n1) (dw + ne)) := Lib.hid (by
         have h1 := HT1.out; rw [← hLE, List.length_map, Hne.out] at h1; exact h1)
        have HKI : Hid (∀ p ∈ LE, p.1.kind = 2) := Lib.hid (fun p hp => HT2.out p.1 (by rw [← hLE]; exact List.mem_map.2 ⟨p, hp, rfl⟩)); obtain ⟨p0, hp0, hp1⟩ : ∃ p0, LP[0]? = some p0 ∧ p0.1.kind = 1 := by
         cases LP with
         | nil => simp [LS.tickF] at hLP
         | cons p LP =>
          refine ⟨p, rfl, ?_⟩; rw [List.map_cons] at hLP; unfold LS.tickF at hLP; simp only [List.cons.injEq] at hLP; rw [hLP.1]; rfl
        have hnf : 0 < nf := by rw [← Hnf.out]; exact (List.getElem?_eq_some_iff.1 hp0).1
        obtain ⟨bf, of, rfl, _, _⟩ := hasF.at_ (k := 0) (by rw [frRow_len, Hnf.out]; omega); have HK0 : Hid ((fR_ LP)[0 * 10 + 0]? = some (.int .i64 1)) := Lib.hid (frRow_at hp0 (by omega) (by show some (Value.int .i64 p0.1.kind) = _; rw [hp1])); rw [Hnf.out, Hne.out] at hS; have HS5 := Lib.hid hS; clear hS hLP hLE HT1 HT2 HCALL HS4 hcF hcE hp0 hp1 hasF
        go_wp2_with fail
        go_loopw [11, 16] (fun dv jv wr => ∃ j : Nat, j ≤ ne ∧ dv = .int .i64 ((dw + j : Nat) : Int) ∧ jv = .int .i64 (j : Int) ∧ Hid (Sep w wr (Ce a 43 #[.slice (some ⟨bf, of, none⟩) nf cF, .slice AE ne cE] :: Rw 51 10 (.slice (some ⟨bf, of, none⟩) nf cF) nf (fR_ LP) :: Bods (fB_ LP) :: Rw 49 4 (.slice AE ne cE) ne (eR_ LE) :: Bods (eB_ LE) :: Ce a1 72 ((s'.tick n1).cells bx2) :: BoxT bx2 (s'.tick n1).box :: Ce g 34 #[.pointer (some ⟨a0, 0, none⟩), .pointer (some ⟨a1, 0, none⟩), .int .u64 (i0 : Int), .int .u64 (i1 : Int), .int .u64 (no : Int), .int .u64 ((n1 : Int)), v0, .slice AV nl cV, .map (some bs), .map (some bt), .int .i64 (n : Int), .bool false] :: RwO 51 10 (.slice AV nl cV) nl (fR_ WW) :: Bods BB :: RQ))) (fun _ jv _ => ne - (intOf jv).toNat)
        case atStart => exact ⟨0, Nat.zero_le _, rfl, rfl, HS5⟩
        case round =>
         obtain ⟨j, hj, rfl, rfl, HS5⟩ := hrel; have k1 := cA (v := .slice AE ne cE) (i := 0) HS5.out rfl 1 rfl; have k0 := cA (v := .slice (some ⟨bf, of, none⟩) nf cF) (i := 0) HS5.out rfl 0 rfl
         by_cases hjn : j < ne
         ·have elj : decide (j < ne) = true := decide_eq_true hjn; obtain ⟨p, hp⟩ : ∃ p, LE[j]? = some p := ⟨_, List.getElem?_eq_getElem (by rw [Hne.out]; exact hjn)⟩; have hE0 : (eR_ LE)[j * 4 + 0]? = some (.int .i64 2) := evRow_at hp (by omega) (by show some (Value.int .i64 p.1.kind) = _; rw [HKI.out p (List.mem_of_getElem? hp)]); have hh := rH (i := 3) HS5.out rfl; obtain ⟨be_, oe, rfl, _, _⟩ := hh _ _ hE0; have ke := hK4 hh hE0; rw [Nat.add_zero] at ke; have ewd : IntKind.i64.wrap (((dw + j : Nat) : Int) + 1) = ((dw + (j + 1) : Nat) : Int) := by rw [IntKind.wrap_i64]; omega
          clear hp hE0 hh
          go_wp2_with fail
          go_roundw
          case rel => exact ⟨j + 1, by omega, by go_num, by go_num, HS5⟩
          case measure => simp [intOf]; omega
         ·have elj : decide (j < ne) = false := decide_eq_false hjn; have hje : j = ne := by omega
          subst hje; have kf := hK4 (rH (i := 1) HS5.out rfl) HK0.out; simp only [Nat.zero_mul, Nat.add_zero] at kf; have enf : (nf == 0) = false := by simp; omega
          clear hjn
          go_wp2_with fail
          go_roundw
          case rel => exact ⟨k + 1, dw + j, _, _, by omega, rfl, by go_num, HNE, Lib.hid (by rw [show now0 + (k + 1) = n1 by have := Hnk.out; have := Hn1.out; omega]; exact (((((((((HS5.out.drop 0).drop 0).drop 0).drop 0).drop 0)).tF 1 rfl).tF 1 rfl).tF 2 rfl))⟩
          case measure => simp [intOf]; omega
     ·have elt : decide ((k : Int) < ticks) = false := decide_eq_false hkt; have hke : (k : Int) = ticks := by omega
      obtain ⟨nowE, HnE⟩ : ∃ y, Hid (now0 + k = y) := ⟨_, Lib.hid rfl⟩; have hnE : nowE ≤ 2000000000 := by rw [← HnE.out]; omega
      rw [HnE.out] at HS2; have h4t : 4 ≤ k := by omega
      obtain ⟨hNum3, hsi3, hcase⟩ := HTK.out; obtain ⟨c3, Hc3⟩ : ∃ y, Hid (s'.conn = y) := ⟨_, Lib.hid rfl⟩; have hcs : s'.up = false ∧ ((up0 = true ∧ c3 = own + 1 ∧ dw = 1) ∨ (up0 = false ∧ c3 = own ∧ dw = 0)) := by
       rw [← Hup.out, ← Hown.out, ← Hc3.out]
       rcases hcase with ⟨u1, u2, u3, u4, u5, u6⟩ | ⟨u1, u2, u3, u4⟩ | ⟨u1, u2, u3, u4⟩
       ·omega
       ·exact ⟨u1, .inl ⟨u2, u3, u4⟩⟩
       ·exact ⟨u1, .inr ⟨u2, u3, u4⟩⟩
      have HCS := Lib.hid hcs; have HN3 := Lib.hid hNum3; have HSI := Lib.hid hsi3; have hownb : own ≤ 1000000000 := by rw [← Hown.out]; exact hconn
      have kp := cA (i := 0) HS2.out rfl 1 rfl; clear hcase hcs hNum3 hsi3
      go_wp2_with fail
      refine (conns_any _ a1 s'.base _ s'.got s'.sn s'.si s'.peer s'.conn s'.inc s'.known s'.up s'.heard s'.sent HN3.out.sn (cH (i := 1) HS2.out rfl)).mono ?_; rintro e w5 ⟨rfl, hb5⟩; have HS3 := Lib.hid (HS2.out.grow hb5); rw [Hc3.out]; clear kp hb5 HS2
      go_upto_region 27 with fail
      go_cut [175] from 141 to 174 (fun t wx => t = .bool false ∧ Hid (Sep w wx (Ce g 34 #[.pointer (some ⟨a0, 0, none⟩), .pointer (some ⟨a1, 0, none⟩), .int .u64 (i0 : Int), .int .u64 (i1 : Int), .int .u64 (no : Int), .int .u64 (nowE : Int), v0, .slice AV nl cV, .map (some bs), .map (some bt), .int .i64 (n : Int), .bool false] :: Ce a1 72 (s'.cells bx') :: BoxT bx' s'.box :: RwO 51 10 (.slice AV nl cV) nl (fR_ WW) :: Bods BB :: RQ)))
      case first =>
       have kp := cA (i := 0) HS3.out rfl 1 rfl
       go_wp2_with fail
       refine (up_any _ a1 s'.sn s'.up HN3.out.sn (cA (i := 1) HS3.out rfl 3 rfl) (cA (i := 1) HS3.out rfl 9 rfl)).mono ?_; rintro e w6 ⟨rfl, hb6⟩; have HS4 := Lib.hid (HS3.out.grow hb6); obtain ⟨hu3, hc⟩ := HCS.out; rw [hu3]; have ewo : IntKind.u64.wrap ((own : Int) + 1) = (own : Int) + 1 := u64_wrapG (by omega) (by omega); clear kp hb6 HS3
       rcases hc with ⟨e1, e2, e3⟩ | ⟨e1, e2, e3⟩
       ·subst e1 e2 e3
        go_wp2_with fail
        go_meet
        case rel => exact ⟨rfl, HS4⟩
       ·subst e1 e2 e3
        go_wp2_with fail
        go_meet
        case rel => exact ⟨rfl, HS4⟩
      case rest =>
       obtain ⟨rfl, HS4⟩ := hcut; clear HS3
       go_wp2_with fail
       go_loopw [19] (fun kv wr => ∃ (k : Nat) (s3 : LS) (bx3 : Value), k ≤ nl ∧ kv = .int .i64 (k : Int) ∧ Hid (s3.Num ∧ s3.si = s.si ∧ s3.conn = c3 ∧ (up0 = true → s3.up = false)) ∧ Hid (Sep w wr (Ce g 34 #[.pointer (some ⟨a0, 0, none⟩), .pointer (some ⟨a1, 0, none⟩), .int .u64 (i0 : Int), .int .u64 (i1 : Int), .int .u64 (no : Int), .int .u64 (nowE : Int), v0, .slice AV nl cV, .map (some bs), .map (some bt), .int .i64 (n : Int), .bool false] :: Ce a1 72 (s3.cells bx3) :: BoxT bx3 s3.box :: RwO 51 10 (.slice AV nl cV) nl (fR_ WW) :: Bods BB :: RQ))) (fun kv _ => nl - (intOf kv).toNat)
       case atStart => exact ⟨0, s', bx', Nat.zero_le _, rfl, Lib.hid ⟨HN3.out, HSI.out, Hc3.out, fun _ => HCS.out.1⟩, HS4⟩
       case round =>
        obtain ⟨k, s3, bx3, hkn, rfl, HP, HS7⟩ := hrel; have kw := cA (v := .slice AV nl cV) (i := 0) HS7.out rfl 7 rfl
        by_cases hkl : k < nl
        ·have elk : decide (k < nl) = true := decide_eq_true hkl; obtain ⟨p, hp⟩ : ∃ p, WW[k]? = some p := ⟨_, List.getElem?_eq_getElem (by rw [Hnl.out]; exact hkl)⟩; have hpB : (p.2, p.1.body) ∈ BB := HWB.out _ (List.mem_map.2 ⟨_, List.mem_of_getElem? hp, rfl⟩); have hfw : p.1 ∈ T.way true := by rw [← HWay.out]; exact List.mem_map.2 ⟨p, List.mem_of_getElem? hp, rfl⟩
         have hfo := HI.out.2.frs true p.1 hfw; have hlx := HI.out.1.tw true p.1 hfw; rw [Hs.out] at hlx; obtain ⟨AU, cU, hu, _, _, _⟩ := sep_bodsAt (i := 4) HS7.out rfl hpB; obtain ⟨bw, ow, rfl, _, _⟩ := (sep_rwoHas (i := 3) HS7.out rfl).at_ (k := 0) (by rw [frRow_len, Hnl.out]; omega); obtain ⟨⟨kind, ffr, fto, finc, fconn, pinc, pconn, fack, fseq, body⟩, u⟩ := p; simp only at hu hpB hfo hlx; subst hu; have HF0 : Hid ((fR_ WW)[k * 10 + 0]? = some (.int .i64 kind)) := Lib.hid (frRow_at hp (by omega)); have HF1 : Hid ((fR_ WW)[k * 10 + 1]? = some (.int .i64 ffr)) := Lib.hid (frRow_at hp (by omega)); have HF2 : Hid ((fR_ WW)[k * 10 + 2]? = some (.int .i64 fto)) := Lib.hid (frRow_at hp (by omega)); have HF3 : Hid ((fR_ WW)[k * 10 + 3]? = some (.int .u64 (finc : Int))) := Lib.hid (frRow_at hp (by omega)); have HF4 : Hid ((fR_ WW)[k * 10 + 4]? = some (.int .u64 (fconn : Int))) := Lib.hid (frRow_at hp (by omega)); have HF5 : Hid ((fR_ WW)[k * 10 + 5]? = some (.int .u64 (pinc : Int))) := Lib.hid (frRow_at hp (by omega)); have HF6 : Hid ((fR_ WW)[k * 10 + 6]? = some (.int .u64 (pconn : Int))) := Lib.hid (frRow_at hp (by omega)); have HF7 : Hid ((fR_ WW)[k * 10 + 7]? = some (.int .u64 (fack : Int))) := Lib.hid (frRow_at hp (by omega)); have HF8 : Hid ((fR_ WW)[k * 10 + 8]? = some (.int .u64 (fseq : Int))) := Lib.hid (frRow_at hp (by omega)); have HF9 : Hid ((fR_ WW)[k * 10 + 9]? = some (.slice AU body.length cU)) := Lib.hid (frRow_at hp (by omega)); have hbl : body.length ≤ 448 := hfo.2.2.2.2; obtain ⟨fF, HfF⟩ : ∃ y, Hid ((⟨kind, ffr, fto, finc, fconn, pinc, pconn, fack, fseq, body⟩ : Fr) = y) := ⟨_, Lib.hid rfl⟩; have HTAKE : Hid (∀ W, Sep w W (Ce g 34 #[.pointer (some ⟨a0, 0, none⟩), .pointer (some ⟨a1, 0, none⟩), .int .u64 (i0 : Int), .int .u64 (i1 : Int), .int .u64 (no : Int), .int .u64 (nowE : Int), v0, .slice (some ⟨bw, ow, none⟩) nl cV, .map (some bs), .map (some bt), .int .i64 (n : Int), .bool false] :: Ce a1 72 (s3.cells bx3) :: BoxT bx3 s3.box :: RwO 51 10 (.slice (some ⟨bw, ow, none⟩) nl cV) nl (fR_ WW) :: Bods BB :: RQ) → Calls Try.prog 15 #[.pointer (some ⟨a1, 0, none⟩), .int .u64 (nowE : Int), .agg #[.int .i64 kind, .int .i64 ffr, .int .i64 fto, .int .u64 (finc : Int), .int .u64 (fconn : Int), .int .u64 (pinc : Int), .int .u64 (pconn : Int), .int .u64 (fack : Int), .int .u64 (fseq : Int), .slice AU body.length cU]] W (fun e w' => ∃ v, e = .returned v ∧ ∃ bx', Sep w w' (Ce g 34 #[.pointer (some ⟨a0, 0, none⟩), .pointer (some ⟨a1, 0, none⟩), .int .u64 (i0 : Int), .int .u64 (i1 : Int), .int .u64 (no : Int), .int .u64 (nowE : Int), v0, .slice (some ⟨bw, ow, none⟩) nl cV, .map (some bs), .map (some bt), .int .i64 (n : Int), .bool false] :: Ce a1 72 ((s3.take nowE fF).cells bx') :: BoxT bx' (s3.take nowE fF).box :: RwO 51 10 (.slice (some ⟨bw, ow, none⟩) nl cV) nl (fR_ WW) :: Bods BB :: RQ))) := Lib.hid (fun W hS => by
          have h1 : Sep w W (Ce a1 72 (s3.cells bx3) :: BoxT bx3 s3.box :: Bods BB :: Ce g 34 #[.pointer (some ⟨a0, 0, none⟩), .pointer (some ⟨a1, 0, none⟩), .int .u64 (i0 : Int), .int .u64 (i1 : Int), .int .u64 (no : Int), .int .u64 (nowE : Int), v0, .slice (some ⟨bw, ow, none⟩) nl cV, .map (some bs), .map (some bt), .int .i64 (n : Int), .bool false] :: RwO 51 10 (.slice (some ⟨bw, ow, none⟩) nl cV) nl (fR_ WW) :: RQ) := (((((hS).tF 3 rfl).tF 1 rfl).tF 4 rfl).tF 4 rfl).tF 4 rfl; have hq := takeG (f := ⟨kind, ffr, fto, finc, fconn, pinc, pconn, fack, fseq, body⟩) (now := nowE) (A := AU) (c := cU) h1 (reads_bods hpB) HP.out.1 (by unfold maxLen; simp only; omega) (by have := hfo.2.2.1; simp only at this ⊢; omega) (by have := hfo.2.2.2.1; simp only at this ⊢; omega) (by omega); rw [← HfF.out]; refine hq.mono ?_; rintro e w' ⟨vF, vE, bx', LP, LE, rfl, _, _, h2⟩; exact ⟨_, rfl, bx', (((((((((h2.drop 0).drop 0).drop 0).drop 0)).tF 2 rfl).tF 4 rfl).tF 3 rfl).tF 3 rfl).tF 4 rfl⟩)
         have HP2 : Hid ((s3.take nowE fF).Num ∧ (s3.take nowE fF).si = s.si ∧ (s3.take nowE fF).conn = c3 ∧ (up0 = true → (s3.take nowE fF).up = false)) := Lib.hid (by
          obtain ⟨p1, p2, p3, p4⟩ := HP.out; obtain ⟨t1, t2, _⟩ := take_nums s3 nowE fF; refine ⟨p1.take (by omega) fF, t1.trans p2, t2.trans p3, fun hu0 => take_down (p4 hu0) ?_⟩; rw [← HfF.out, p2, p3]; rintro ⟨x1, x2⟩; simp only at x1 x2; have hc := HCS.out.2; rw [hu0] at hc; have ho := Hown.out; unfold Lx at hlx
          rcases hc with ⟨_, y2, _⟩ | ⟨y1, _⟩
          ·omega
          ·simp at y1)
         clear hp hpB hfw hfo hlx
         go_wp2_with fail
         refine wRF (fun dn xv W => if dn 21 = true then ∃ bx', Sep w W (Ce g 34 #[.pointer (some ⟨a0, 0, none⟩), .pointer (some ⟨a1, 0, none⟩), .int .u64 (i0 : Int), .int .u64 (i1 : Int), .int .u64 (no : Int), .int .u64 (nowE : Int), v0, .slice (some ⟨bw, ow, none⟩) nl cV, .map (some bs), .map (some bt), .int .i64 (n : Int), .bool false] :: Ce a1 72 ((s3.take nowE fF).cells bx') :: BoxT bx' (s3.take nowE fF).box :: RwO 51 10 (.slice (some ⟨bw, ow, none⟩) nl cV) nl (fR_ WW) :: Bods BB :: RQ) else Sep w W (Ce g 34 #[.pointer (some ⟨a0, 0, none⟩), .pointer (some ⟨a1, 0, none⟩), .int .u64 (i0 : Int), .int .u64 (i1 : Int), .int .u64 (no : Int), .int .u64 (nowE : Int), v0, .slice (some ⟨bw, ow, none⟩) nl cV, .map (some bs), .map (some bt), .int .i64 (n : Int), .bool false] :: Ce a1 72 (s3.cells bx3) :: BoxT bx3 s3.box :: RwO 51 10 (.slice (some ⟨bw, ow, none⟩) nl cV) nl (fR_ WW) :: Bods BB :: RQ)) (fun _ _ => True) [fun v _ => v = .pointer (some ⟨g, 0, none⟩), fun v _ => v = .int .i64 1, fun v _ => v = .pointer (some ⟨g, 0, none⟩), fun v _ => v = .pointer (some ⟨g, 0, none⟩), fun v _ => v = .pointer (some ⟨g, 1, none⟩), fun v _ => v = .pointer (some ⟨a1, 0, none⟩), fun v _ => v = .pointer (some ⟨g, 0, none⟩), fun v _ => v = .int .i64 1, fun v _ => v = .pointer (some ⟨g, 0, none⟩), fun v _ => v = .pointer (some ⟨g, 4, none⟩), fun v _ => v = .pointer (some ⟨g, 5, none⟩), fun v _ => v = .int .u64 (nowE : Int), fun v _ => v = .pointer (some ⟨g, 0, none⟩), fun v _ => v = .int .i64 1, fun v _ => v = .pointer (some ⟨g, 0, none⟩), fun v _ => v = .pointer (some ⟨g, 6, none⟩), fun v _ => v = .pointer (some ⟨g, 7, none⟩), fun v _ => v = .slice (some ⟨bw, ow, none⟩) nl cV, fun v _ => v = .int .i64 (k : Int), fun v _ => v = .pointer (some ⟨bw, ow + k * 10, none⟩), fun v _ => v = .agg #[.int .i64 kind, .int .i64 ffr, .int .i64 fto, .int .u64 (finc : Int), .int .u64 (fconn : Int), .int .u64 (pinc : Int), .int .u64 (pconn : Int), .int .u64 (fack : Int), .int .u64 (fseq : Int), .slice AU body.length cU], fun v _ => True] (by kernel_rfl) (by kernel_rfl) (by kernel_rfl) (by kernel_rfl) (fun xv => by simpa using HS7.out.drew)
          (by repeat (first | exact trivial | refine ⟨fun _ _ _ _ h => h, ?_⟩)) ?_ ?_
         ·refine EC 1 rfl (fun h i W F a b c d e H K f => ?_) ?_
          ·have f7 : F.tmps.getD 7 undef = .pointer (some ⟨g, 0, none⟩) := (a 7).trans (by kernel_rfl); clear H c b d a; refine oP rfl ?_; go_simp; exact f.out _ _ rfl trivial e
          refine EC 2 rfl (fun g h W F a b c d e H K f => ?_) ?_
          ·have f9 : F.tmps.getD 9 undef = .int .i64 1 := (a 9).trans (by kernel_rfl); clear H c b d a; refine oP rfl ?_; go_simp; exact f.out _ _ rfl trivial e
          refine EC 3 rfl (fun g h W F a b c d e H K f => ?_) ?_
          ·have f187 := gE (a 187) (by kernel_rfl) (H 0) (by kernel_rfl); clear H c b d a; refine oP rfl ?_; go_simp; exact f.out _ _ rfl trivial e
          refine EC 4 rfl (fun g h W F a b c d e H K f => ?_) ?_
          ·have f189 := gE (a 189) (by kernel_rfl) (H 2) (by kernel_rfl); clear H c b d a; refine oP rfl ?_; go_simp; exact f.out _ _ rfl trivial e
          refine EC 5 rfl (fun g h W F a b c d e H K f => ?_) ?_
          ·have f188 := gE (a 188) (by kernel_rfl) (H 1) (by kernel_rfl); have f190 := gE (a 190) (by kernel_rfl) (H 3) (by kernel_rfl); clear H c b d a; refine oP rfl ?_; go_simp; exact f.out _ _ rfl trivial e
          refine EC 6 rfl (fun g h W F a b c d e H K f => ?_) ?_
          ·have f191 := gE (a 191) (by kernel_rfl) (H 4) (by kernel_rfl); have q21 : g 21 = false := c 21 (.edge (by kernel_rfl)); have hq := e; rw [if_neg (by simp [q21])] at hq; have kk := cA (i := 0) hq rfl 1 rfl; clear H c b d a; refine oP rfl ?_; go_simp; exact f.out _ _ rfl trivial e
          refine EC 7 rfl (fun h i W F a b c d e H K f => ?_) ?_
          ·have f7 : F.tmps.getD 7 undef = .pointer (some ⟨g, 0, none⟩) := (a 7).trans (by kernel_rfl); clear H c b d a; refine oP rfl ?_; go_simp; exact f.out _ _ rfl trivial e
          refine EC 8 rfl (fun g h W F a b c d e H K f => ?_) ?_
          ·have f9 : F.tmps.getD 9 undef = .int .i64 1 := (a 9).trans (by kernel_rfl); clear H c b d a; refine oP rfl ?_; go_simp; exact f.out _ _ rfl trivial e
          refine EC 9 rfl (fun g h W F a b c d e H K f => ?_) ?_
          ·have f193 := gE (a 193) (by kernel_rfl) (H 6) (by kernel_rfl); clear H c b d a; refine oP rfl ?_; go_simp; exact f.out _ _ rfl trivial e
          refine EC 10 rfl (fun g h W F a b c d e H K f => ?_) ?_
          ·have f195 := gE (a 195) (by kernel_rfl) (H 8) (by kernel_rfl); clear H c b d a; refine oP rfl ?_; go_simp; exact f.out _ _ rfl trivial e
          refine EC 11 rfl (fun g h W F a b c d e H K f => ?_) ?_
          ·have f194 := gE (a 194) (by kernel_rfl) (H 7) (by kernel_rfl); have f196 := gE (a 196) (by kernel_rfl) (H 9) (by kernel_rfl); clear H c b d a; refine oP rfl ?_; go_simp; exact f.out _ _ rfl trivial e
          refine EC 12 rfl (fun g h W F a b c d e H K f => ?_) ?_
          ·have f197 := gE (a 197) (by kernel_rfl) (H 10) (by kernel_rfl); have q21 : g 21 = false := c 21 (.edge (by kernel_rfl)); have hq := e; rw [if_neg (by simp [q21])] at hq; have kk := cA (i := 0) hq rfl 5 rfl; clear H c b d a; refine oP rfl ?_; go_simp; exact f.out _ _ rfl trivial e
          refine EC 13 rfl (fun h i W F a b c d e H K f => ?_) ?_
          ·have f7 : F.tmps.getD 7 undef = .pointer (some ⟨g, 0, none⟩) := (a 7).trans (by kernel_rfl); clear H c b d a; refine oP rfl ?_; go_simp; exact f.out _ _ rfl trivial e
          refine EC 14 rfl (fun g h W F a b c d e H K f => ?_) ?_
          ·have f9 : F.tmps.getD 9 undef = .int .i64 1 := (a 9).trans (by kernel_rfl); clear H c b d a; refine oP rfl ?_; go_simp; exact f.out _ _ rfl trivial e
          refine EC 15 rfl (fun g h W F a b c d e H K f => ?_) ?_
          ·have f199 := gE (a 199) (by kernel_rfl) (H 12) (by kernel_rfl); clear H c b d a; refine oP rfl ?_; go_simp; exact f.out _ _ rfl trivial e
          refine EC 16 rfl (fun g h W F a b c d e H K f => ?_) ?_
          ·have f201 := gE (a 201) (by kernel_rfl) (H 14) (by kernel_rfl); clear H c b d a; refine oP rfl ?_; go_simp; exact f.out _ _ rfl trivial e
          refine EC 17 rfl (fun g h W F a b c d e H K f => ?_) ?_
          ·have f200 := gE (a 200) (by kernel_rfl) (H 13) (by kernel_rfl); have f202 := gE (a 202) (by kernel_rfl) (H 15) (by kernel_rfl); clear H c b d a; refine oP rfl ?_; go_simp; exact f.out _ _ rfl trivial e
          refine EC 18 rfl (fun g h W F a b c d e H K f => ?_) ?_
          ·have f203 := gE (a 203) (by kernel_rfl) (H 16) (by kernel_rfl); have q21 : g 21 = false := c 21 (.more (j := 20) (by kernel_rfl) (.more (j := 19) (by kernel_rfl) (.edge (by kernel_rfl)))); have hq := e; rw [if_neg (by simp [q21])] at hq; have kk := cA (v := .slice (some ⟨bw, ow, none⟩) nl cV) (i := 0) hq rfl 7 rfl; clear H c b d a; refine oP rfl ?_; go_simp; exact f.out _ _ rfl trivial e
          refine EC 19 rfl (fun g h W F a b c d e H K f => ?_) ?_
          ·have f19 : F.tmps.getD 19 undef = .int .i64 (k : Int) := (a 19).trans (by kernel_rfl); clear H c b d a; refine oP rfl ?_; go_simp; exact f.out _ _ rfl trivial e
          refine EC 20 rfl (fun g h W F a b c d e H K f => ?_) ?_
          ·have f204 := gE (a 204) (by kernel_rfl) (H 17) (by kernel_rfl); have f205 := gE (a 205) (by kernel_rfl) (H 18) (by kernel_rfl); clear H c b d a; refine oP rfl ?_; go_simp; exact f.out _ _ rfl trivial e
          refine EC 21 rfl (fun g h W F a b c d e H K f => ?_) ?_
          ·have f206 := gE (a 206) (by kernel_rfl) (H 19) (by kernel_rfl); have q21 : g 21 = false := c 21 (.edge (by kernel_rfl)); have hq := e; rw [if_neg (by simp [q21])] at hq; have hr := sep_rwoHas (i := 3) hq rfl; have kf0 := hK4 hr HF0.out; have kf1 := hK4 hr HF1.out; have kf2 := hK4 hr HF2.out; have kf3 := hK4 hr HF3.out; have kf4 := hK4 hr HF4.out; have kf5 := hK4 hr HF5.out; have kf6 := hK4 hr HF6.out; have kf7 := hK4 hr HF7.out; have kf8 := hK4 hr HF8.out; have kf9 := hK4 hr HF9.out; rw [Nat.add_zero] at kf0; rw [← Nat.add_assoc] at kf1 kf2 kf3 kf4 kf5 kf6 kf7 kf8 kf9; clear H c b d a; refine oP rfl ?_; go_simp; exact f.out _ _ rfl trivial e
          refine EC 22 rfl (fun h i W F a b c d f H K g => ?_) ?_
          ·have f192 := gE (a 192) (by kernel_rfl) (H 5) (by kernel_rfl); have f198 := gE (a 198) (by kernel_rfl) (H 11) (by kernel_rfl); have f207 := gE (a 207) (by kernel_rfl) (H 20) (by kernel_rfl); rw [if_neg (by simp [b])] at f; have hS := f; clear f c b d a H; refine oP rfl ?_; go_simp; refine (HTAKE.out W hS).mono ?_; rintro e W' ⟨v, rfl, hs⟩; exact g.out v W' trivial trivial (by simpa [upB, upd] using hs)
          exact EN
         ·intro dn xv W hI H; have qe : dn 21 = true := (H 21 (of_decide_eq_true (by kernel_rfl))).1; rw [if_pos qe] at hI; have hS := hI; clear H hI qe; simp only [putAll, Act.put, List.setIfInBounds_toArray, List.set_cons_zero, List.set_cons_succ, Nat.reduceAdd]; obtain ⟨bx4, hS⟩ := hS; have HS8 := Lib.hid hS; clear hS HS7
          go_upto_region 33 with fail
          go_cut [218] from 209 to 217 (fun t wx => t = .bool false ∧ Hid (Sep w wx (Ce g 34 #[.pointer (some ⟨a0, 0, none⟩), .pointer (some ⟨a1, 0, none⟩), .int .u64 (i0 : Int), .int .u64 (i1 : Int), .int .u64 (no : Int), .int .u64 (nowE : Int), v0, .slice (some ⟨bw, ow, none⟩) nl cV, .map (some bs), .map (some bt), .int .i64 (n : Int), .bool false] :: Ce a1 72 ((s3.take nowE fF).cells bx4) :: BoxT bx4 (s3.take nowE fF).box :: RwO 51 10 (.slice (some ⟨bw, ow, none⟩) nl cV) nl (fR_ WW) :: Bods BB :: RQ)))
          case first =>
           have kp := cA (i := 0) HS8.out rfl 1 rfl; cases up0 with
           | true =>
            have HU9 := Lib.hid (HP2.out.2.2.2 rfl)
            go_wp2_with fail
            refine (up_any _ a1 (s3.take nowE fF).sn (s3.take nowE fF).up HP2.out.1.sn (cA (i := 1) HS8.out rfl 3 rfl) (cA (i := 1) HS8.out rfl 9 rfl)).mono ?_; rintro e w7 ⟨rfl, hb7⟩; have HS9 := Lib.hid (HS8.out.grow hb7); rw [HU9.out]; clear hb7 kp
            go_wp2_with fail
            go_meet
            case rel => exact ⟨rfl, HS9⟩
           | false =>
            go_wp2_with fail
            go_meet
            case rel => exact ⟨rfl, HS8⟩
          case rest =>
           obtain ⟨rfl, HS9⟩ := hcut
           go_wp2_with fail
           go_roundw
           case rel => exact ⟨k + 1, _, bx4, by omega, by go_num, HP2, HS9⟩
           case measure => simp [intOf]; omega
        ·have elk : decide (k < nl) = false := decide_eq_false hkl; clear hkl
         go_wp2_with fail
         refine (HAW.out _).mono ?_; rintro e w9 ⟨rfl, hb9⟩; have hbz : Below w.heap.size w w9 := HS7.out.bel.trans (hb9.mono HS7.out.bel.size); clear hb9
         go_wp2_with fail
         go_ret
         exact ⟨rfl, hbz⟩
end Go.Proofs.Ytngegjboenfmeaa
/- Acts out of the argument: rows of three whole numbers each, opened. -/
namespace Go.Proofs.Ytngegjboenfmeaa
open Go Go.RowKit Go.ChangeShapes Go.WideShapes Go.ChangeAt Go.Deep
set_option linter.unusedVariables false
set_option maxRecDepth 100000
theorem actRow_len (L : List (Int × Int × Int)) : (actRow L).length = L.length * 3 := by
 induction L with
 | nil => rfl
 | cons a L ih =>
  show ([_, _, _] ++ actRow L).length = _; rw [List.length_append, ih]; show 3 + L.length * 3 = (L.length + 1) * 3; omega
section
variable {H : Type} {enc : TypeId × Value → H} {P : Program} {w : World}
theorem arg_acts {r : Reach} {b0 : Nat} {t e i : TypeId} {f0 f1 f2 : Field} {v : Value} {d : DataW H} {p : List MemPlace} (ht : P.underlying t = some (.slice e)) (he : P.underlying e = some (.struct #[f0, f1, f2])) (hi : P.underlying i = some (.int .i64)) (hc : P.cellsOf e = 3) (hci : P.cellsOf i = 1) (hby : P.bytesOf e = 24)
  (hf0 : f0.type = i ∧ f0.offset = 0) (hf1 : f1.type = i ∧ f1.offset = 1) (hf2 : f2.type = i ∧ f2.offset = 2)
  (hv : Value.okWide P w r b0 t v) (h : DataW.Trod enc P w 0 (fun _ => true) true t v d p) (hw : ∀ n ∈ d.weights P t, n ≤ reachBytes) :
  ∃ (A : Option Addr) (c : Nat) (l : List (Int × Int × Int)), v = .slice A l.length c ∧ l.length ≤ c ∧ c ≤ maxLen ∧ l.length ≤ 140737488355328 ∧ Has w w.heap.size A (actRow l) := by
 obtain ⟨a0, n0, c0, rfl⟩ := okWide_slice ht hv; obtain ⟨fuel, hf⟩ := h; have hf' : DataW.trod enc P w 0 (fun _ => true) true fuel t [.slice a0 n0 c0] = some (d, p) := by simpa [Value.cells] using hf
 rcases open_slice ht hf' with ⟨hcs, _⟩ | ⟨a, len, cap, m, n, D, Pl, hcs, _, hl, hm, hmm, hx, hel⟩
 ·exact ⟨none, 0, [], by simpa using hcs, by simp, by unfold maxLen; omega, by simp, Has.nil⟩
 ·simp only [if_true] at hmm; simp only [Prod.mk.injEq] at hx; obtain ⟨hx, _⟩ := hx; subst hmm; obtain ⟨ls, hls, hp⟩ := choose_list len (fun k (x : Int × Int × Int) => w.cell? (a.add (k * 3)) = some (.int .i64 x.1) ∧ w.cell? (a.add (k * 3 + 1)) = some (.int .i64 x.2.1) ∧ w.cell? (a.add (k * 3 + 2)) = some (.int .i64 x.2.2)) (fun k hk => by
   obtain ⟨cs', hc1, ht1⟩ := hel k (by omega); obtain ⟨_, hlen, hcell⟩ := World.cells?_some hc1; obtain ⟨xs, nx, _, _, _, hxl, hxx⟩ := DataW.trod_struct he ht1; rw [hc] at hlen hcell hc1; simp only [List.size_toArray, List.length_cons, List.length_nil, Nat.reduceAdd] at hxl
   match cs', hlen, xs, hxl with
   | [u0, u1, u2], _, [x0, x1, x2], _ =>
    have h0 := hxx 0 f0 rfl; have h1 := hxx 1 f1 rfl; have h2 := hxx 2 f2 rfl; rw [hf0.1, hf0.2, hci] at h0; rw [hf1.1, hf1.2, hci] at h1; rw [hf2.1, hf2.2, hci] at h2; obtain ⟨z0, e0, _, _⟩ := DataW.trod_int hi (show DataW.trod enc P w 0 (fun _ => true) true nx i [u0] = some x0 from h0); obtain ⟨z1, e1, _, _⟩ := DataW.trod_int hi (show DataW.trod enc P w 0 (fun _ => true) true nx i [u1] = some x1 from h1); obtain ⟨z2, e2, _, _⟩ := DataW.trod_int hi (show DataW.trod enc P w 0 (fun _ => true) true nx i [u2] = some x2 from h2); simp only [List.cons.injEq, and_true] at e0 e1 e2; have c0 := hcell 0 (by omega); have c1 := hcell 1 (by omega); have c2 := hcell 2 (by omega); rw [add_add] at c0 c1 c2; refine ⟨(z0, z1, z2), ?_, ?_, ?_⟩
    ·rw [Nat.add_zero] at c0; rw [c0, e0]; rfl
    ·rw [c1, e1]; rfl
    ·rw [c2, e2]; rfl)
  refine ⟨some a, m, ls, by rw [hls]; simpa using hcs, by omega, hm, ?_, ?_⟩
  ·rw [hx] at hw; have := hw ((len + (m - len)) * 24) (by simp [DataW.weights, ht, hby]); unfold reachBytes at this; omega
  ·refine has_of_cells fun j u hu => ?_
   have hlen2 : (actRow ls).length = ls.length * 3 := actRow_len ls; have hj : j < ls.length * 3 := by
    rcases Nat.lt_or_ge j (ls.length * 3) with h' | h'
    ·exact h'
    ·rw [List.getElem?_eq_none (by rw [hlen2]; exact h')] at hu; cases hu
   obtain ⟨k, hk⟩ : ∃ k, k = j / 3 := ⟨_, rfl⟩; have hk2 : k < ls.length := by omega
   have hpk := hp k _ (List.getElem?_eq_getElem hk2); have hat : ∀ r, r < 3 → (actRow ls)[k * 3 + r]? = [Value.int .i64 (ls[k]).1, .int .i64 (ls[k]).2.1, .int .i64 (ls[k]).2.2][r]? := fun r hr => by
    rw [actRow, flat_at (n := 3) (fun _ => rfl) ls k _ r (List.getElem?_eq_getElem hk2) hr]
   obtain ⟨r, hr⟩ : ∃ r, j = k * 3 + r := ⟨j - k * 3, by omega⟩; have hr3 : r < 3 := by omega
   subst hr; rw [hat r hr3] at hu
   match r, hr3 with
   | 0, _ => have h0 := hpk.1; rw [Nat.add_zero]; rw [h0]; exact hu
   | 1, _ => rw [hpk.2.1]; exact hu
   | 2, _ => rw [hpk.2.2]; exact hu
end
end Go.Proofs.Ytngegjboenfmeaa
/- The statements' sign of life of layer 12, by the general contracts. -/
namespace Go.Proofs.Ytngegjboenfmeaa
open Go Go.RowKit
set_option linter.unusedVariables false
set_option maxRecDepth 100000
set_option linter.unusedSimpArgs false

theorem one_of {α β : Type} {LP : List (α × β)} {f : α} (h : LP.map Prod.fst = [f]) : ∃ u, LP = [(f, u)] := by
 match LP, h with
 | [(x, u)], h =>
  simp only [List.map_cons, List.map_nil, List.cons.injEq, and_true] at h; subst h; exact ⟨u, rfl⟩
def aw1 : Fr := ⟨1, 1, 2, 1, 1, 0, 0, 0, 0, []⟩
def aw2 : Fr := ⟨1, 2, 1, 1, 1, 1, 1, 0, 0, []⟩
def awL2 : LS := (newLk true 1).take 1 aw1
def awL1 : LS := ((newLk false 1).tick 1).take 1 aw2
theorem aw_t : (newLk false 1).tickF 1 = [aw1] := by rfl
theorem aw_f2 : (newLk true 1).takeF 1 aw1 = [aw2] := by rfl
theorem aw_f1 : (((newLk false 1).tick 1).takeF 1 aw2).length = 1 ∧ ((newLk false 1).tick 1).takeE 1 aw2 = [⟨1, 2, 1, []⟩] := by exact ⟨rfl, rfl⟩
theorem aw_up : awL1.up = true ∧ awL2.up = false ∧ awL1.sn = 1 ∧ awL2.sn = 2 := by exact ⟨rfl, rfl, rfl, rfl⟩
set_option maxHeartbeats 6400000 in
theorem awakeG (w : World) : Calls Try.prog 8 #[] w fun e w' => e = .returned (.bool true) ∧ Below w.heap.size w w' := by
 go_enter Try.func8, Try.ntmps8
 go_wp2_with fail
 refine (newLink_any _ 1 1 2 (by omega) (by omega) (by omega) (by omega) (by omega) (by omega) (by omega)).mono ?_; rintro e w1 ⟨g1, rfl, hg1, hh1, hb1⟩; have HS1 := Lib.hid (sep_boxNil (show Sep w w1 (Ce g1 72 ((newLk false 1).cells (.slice none 0 0)) :: []) from ((Sep.nil w).add (F := fun k => k = g1) hb1 ⟨hh1, fun k => Iff.rfl⟩ (Ce.loc _ _ _) (fun k hk => by rw [hk]; exact hg1)).lastFront)); clear hg1 hh1 hb1
 go_wp2_with fail
 refine (newLink_any _ 2 1 1 (by omega) (by omega) (by omega) (by omega) (by omega) (by omega) (by omega)).mono ?_; rintro e w2 ⟨g2, rfl, hg2, hh2, hb2⟩; have h2 := sep_boxNil ((HS1.out.add (F := fun k => k = g2) hb2 ⟨hh2, fun k => Iff.rfl⟩ (Ce.loc _ _ _) (fun k hk => by rw [hk]; exact hg2)).lastFront); have HS2 := Lib.hid (show Sep w w2 (Ce g1 72 ((newLk false 1).cells (.slice none 0 0)) :: BoxT (.slice none 0 0) (newLk false 1).box :: Ce g2 72 ((newLk true 1).cells (.slice none 0 0)) :: BoxT (.slice none 0 0) [] :: []) from ((((h2).tF 0 rfl).tF 1 rfl).tF 2 rfl).tF 3 rfl); clear HS1 hg2 hh2 hb2 h2
 go_wp2_with fail
 refine (tickG (now := 1) HS2.out (newLk_num false 1) (by decide) (by decide)).mono ?_; rintro e w3 ⟨vF, vE, bx1, LP, LE, rfl, e1, e2, h3⟩; rw [aw_t] at e1; obtain ⟨u1, rfl⟩ := one_of e1; obtain ⟨A1, c1, rfl, _, _, hx1⟩ := sep_rwForm (i := 0) h3 rfl; obtain ⟨AE, cE, rfl, _, _, _⟩ := sep_rwForm (i := 2) h3 rfl; obtain ⟨b1, o1, rfl, _, _⟩ := hx1.at_ (k := 0) (by simp [fR_, Fr.cellsV]); obtain ⟨AU, cU, rfl, _, _, _⟩ := sep_bodsAt (i := 1) h3 rfl (u := u1) (l := []) (by simp [fB_, aw1]); obtain ⟨ne, Hne⟩ : ∃ x, Hid (LE.length = x) := ⟨_, Lib.hid rfl⟩; rw [Hne.out] at h3 ⊢; have HS4 := Lib.hid (sep_ceF h3 #[.slice (some ⟨b1, o1, none⟩) 1 c1, .slice AE ne cE] 43); clear HS2 h3 hx1 e1 e2; have kx := cA (i := 0) HS4.out rfl 0 rfl; have p0 : World.cell? _ ⟨b1, o1 + 0, none⟩ = some (.int .i64 1) := hK4 (rH (i := 1) HS4.out rfl) rfl; have p1 : World.cell? _ ⟨b1, o1 + 1, none⟩ = some (.int .i64 1) := hK4 (rH (i := 1) HS4.out rfl) rfl; have p2 : World.cell? _ ⟨b1, o1 + 2, none⟩ = some (.int .i64 2) := hK4 (rH (i := 1) HS4.out rfl) rfl; have p3 : World.cell? _ ⟨b1, o1 + 3, none⟩ = some (.int .u64 1) := hK4 (rH (i := 1) HS4.out rfl) rfl; have p4 : World.cell? _ ⟨b1, o1 + 4, none⟩ = some (.int .u64 1) := hK4 (rH (i := 1) HS4.out rfl) rfl; have p5 : World.cell? _ ⟨b1, o1 + 5, none⟩ = some (.int .u64 0) := hK4 (rH (i := 1) HS4.out rfl) rfl; have p6 : World.cell? _ ⟨b1, o1 + 6, none⟩ = some (.int .u64 0) := hK4 (rH (i := 1) HS4.out rfl) rfl; have p7 : World.cell? _ ⟨b1, o1 + 7, none⟩ = some (.int .u64 0) := hK4 (rH (i := 1) HS4.out rfl) rfl; have p8 : World.cell? _ ⟨b1, o1 + 8, none⟩ = some (.int .u64 0) := hK4 (rH (i := 1) HS4.out rfl) rfl; have p9 : World.cell? _ ⟨b1, o1 + 9, none⟩ = some (.slice AU 0 cU) := hK4 (rH (i := 1) HS4.out rfl) rfl; rw [Nat.add_zero] at p0
 go_wp2_with fail
 clear kx p0 p1 p2 p3 p4 p5 p6 p7 p8 p9; have h5 := HS4.out; refine (takeG (s := newLk true 1) (f := aw1) (now := 1) (A := AU) (c := cU) (X := Bods (fB_ [(aw1, .slice AU ([] : List UInt8).length cU)])) (Qs := Ce w3.heap.size 43 #[.slice (some ⟨b1, o1, none⟩) 1 c1, .slice AE ne cE] :: Rw 51 10 (.slice (some ⟨b1, o1, none⟩) 1 c1) 1 (fR_ [(aw1, .slice AU ([] : List UInt8).length cU)]) :: Rw 49 4 (.slice AE ne cE) ne (eR_ LE) :: Bods (eB_ LE) :: Ce g1 72 (((newLk false 1).tick 1).cells bx1) :: BoxT bx1 ((newLk false 1).tick 1).box :: []) ((((((((((h5).tF 6 rfl).tF 6 rfl).tF 6 rfl).tF 6 rfl).tF 5 rfl).tF 5 rfl).tF 6 rfl).tF 8 rfl).tF 8 rfl) (reads_bods (c := cU) (by simp [fB_, aw1])) (newLk_num true 1) (by unfold maxLen; decide) (by decide) (by decide) (by decide)).mono ?_; rintro e w5 ⟨vF2, vE2, bx2, LP2, LE2, rfl, e1, e2, h6⟩; rw [aw_f2] at e1; obtain ⟨u2, rfl⟩ := one_of e1; obtain ⟨A2, c2, rfl, _, _, hx2⟩ := sep_rwForm (i := 0) h6 rfl; obtain ⟨AE2, cE2, rfl, _, _, _⟩ := sep_rwForm (i := 2) h6 rfl; obtain ⟨b2, o2, rfl, _, _⟩ := hx2.at_ (k := 0) (by simp [fR_, Fr.cellsV]); obtain ⟨AU2, cU2, rfl, _, _, _⟩ := sep_bodsAt (i := 1) h6 rfl (u := u2) (l := []) (by simp [fB_, aw2]); obtain ⟨ne2, Hne2⟩ : ∃ x, Hid (LE2.length = x) := ⟨_, Lib.hid rfl⟩; rw [Hne2.out] at h6 ⊢; have HS7 := Lib.hid (sep_ceF h6 #[.slice (some ⟨b2, o2, none⟩) 1 c2, .slice AE2 ne2 cE2] 43); clear HS4 h5 h6 hx2 e1 e2; have kx := cA (i := 0) HS7.out rfl 0 rfl; have p0 : World.cell? _ ⟨b2, o2 + 0, none⟩ = some (.int .i64 1) := hK4 (rH (i := 1) HS7.out rfl) rfl; have p1 : World.cell? _ ⟨b2, o2 + 1, none⟩ = some (.int .i64 2) := hK4 (rH (i := 1) HS7.out rfl) rfl; have p2 : World.cell? _ ⟨b2, o2 + 2, none⟩ = some (.int .i64 1) := hK4 (rH (i := 1) HS7.out rfl) rfl; have p3 : World.cell? _ ⟨b2, o2 + 3, none⟩ = some (.int .u64 1) := hK4 (rH (i := 1) HS7.out rfl) rfl; have p4 : World.cell? _ ⟨b2, o2 + 4, none⟩ = some (.int .u64 1) := hK4 (rH (i := 1) HS7.out rfl) rfl; have p5 : World.cell? _ ⟨b2, o2 + 5, none⟩ = some (.int .u64 1) := hK4 (rH (i := 1) HS7.out rfl) rfl; have p6 : World.cell? _ ⟨b2, o2 + 6, none⟩ = some (.int .u64 1) := hK4 (rH (i := 1) HS7.out rfl) rfl; have p7 : World.cell? _ ⟨b2, o2 + 7, none⟩ = some (.int .u64 0) := hK4 (rH (i := 1) HS7.out rfl) rfl; have p8 : World.cell? _ ⟨b2, o2 + 8, none⟩ = some (.int .u64 0) := hK4 (rH (i := 1) HS7.out rfl) rfl; have p9 : World.cell? _ ⟨b2, o2 + 9, none⟩ = some (.slice AU2 0 cU2) := hK4 (rH (i := 1) HS7.out rfl) rfl; rw [Nat.add_zero] at p0
 go_wp2_with fail
 clear kx p0 p1 p2 p3 p4 p5 p6 p7 p8 p9; have h8 := HS7.out; refine (takeG (s := (newLk false 1).tick 1) (f := aw2) (now := 1) (A := AU2) (c := cU2) (X := Bods (fB_ [(aw2, .slice AU2 ([] : List UInt8).length cU2)])) (Qs := Ce w5.heap.size 43 #[.slice (some ⟨b2, o2, none⟩) 1 c2, .slice AE2 ne2 cE2] :: Rw 51 10 (.slice (some ⟨b2, o2, none⟩) 1 c2) 1 (fR_ [(aw2, .slice AU2 ([] : List UInt8).length cU2)]) :: Rw 49 4 (.slice AE2 ne2 cE2) ne2 (eR_ LE2) :: Bods (eB_ LE2) :: Ce g2 72 (((newLk true 1).take 1 aw1).cells bx2) :: BoxT bx2 ((newLk true 1).take 1 aw1).box :: Bods (fB_ [(aw1, .slice AU ([] : List UInt8).length cU)]) :: Ce w3.heap.size 43 #[.slice (some ⟨b1, o1, none⟩) 1 c1, .slice AE ne cE] :: Rw 51 10 (.slice (some ⟨b1, o1, none⟩) 1 c1) 1 (fR_ [(aw1, .slice AU ([] : List UInt8).length cU)]) :: Rw 49 4 (.slice AE ne cE) ne (eR_ LE) :: Bods (eB_ LE) :: []) (((((((((((((((h8).tF 11 rfl).tF 11 rfl).tF 11 rfl).tF 11 rfl).tF 11 rfl).tF 11 rfl).tF 11 rfl).tF 11 rfl).tF 11 rfl).tF 10 rfl).tF 10 rfl).tF 11 rfl).tF 13 rfl).tF 13 rfl) (reads_bods (c := cU2) (by simp [fB_, aw2])) ((newLk_num false 1).tick (by decide)) (by unfold maxLen; decide) (by decide) (by decide) (by decide)).mono ?_; rintro e w8 ⟨vF3, vE3, bx3, LP3, LE3, rfl, e1, e2, h9⟩; rw [aw_f1.2] at e2; obtain ⟨u3, rfl⟩ := one_of e2; obtain ⟨A3, c3, rfl, _, _, _⟩ := sep_rwForm (i := 0) h9 rfl; obtain ⟨AE3, cE3, rfl, _, _, hx3⟩ := sep_rwForm (i := 2) h9 rfl; obtain ⟨b3, o3, rfl, _, _⟩ := hx3.at_ (k := 0) (by simp [eR_, Ev.cellsV]); obtain ⟨AV3, cV3, rfl, _, _, _⟩ := sep_bodsAt (i := 3) h9 rfl (u := u3) (l := []) (by simp [eB_]); have hl3 : LP3.length = 1 := by
  have h := congrArg List.length e1; rw [List.length_map, aw_f1.1] at h; exact h
 rw [hl3] at h9 ⊢; have HS10 := Lib.hid (sep_ceF h9 #[.slice A3 1 c3, .slice (some ⟨b3, o3, none⟩) 1 cE3] 43); clear HS7 h8 h9 hx3 e1 e2 hl3; have kx := cA (i := 0) HS10.out rfl 0 rfl; have ky := cA (i := 0) HS10.out rfl 1 rfl; have p0 : World.cell? _ ⟨b3, o3 + 0, none⟩ = some (.int .i64 1) := hK4 (rH (i := 3) HS10.out rfl) rfl; have p1 : World.cell? _ ⟨b3, o3 + 1, none⟩ = some (.int .i64 2) := hK4 (rH (i := 3) HS10.out rfl) rfl; have p2 : World.cell? _ ⟨b3, o3 + 2, none⟩ = some (.int .u64 1) := hK4 (rH (i := 3) HS10.out rfl) rfl; have p3 : World.cell? _ ⟨b3, o3 + 3, none⟩ = some (.slice AV3 0 cV3) := hK4 (rH (i := 3) HS10.out rfl) rfl; rw [Nat.add_zero] at p0
 go_wp2_with fail
 clear kx ky p0 p1 p2 p3; refine (up_any _ g1 awL1.sn awL1.up (by rw [aw_up.2.2.1]; decide) (cA (i := 5) HS10.out rfl 3 rfl) (cA (i := 5) HS10.out rfl 9 rfl)).mono ?_; rintro e w11 ⟨rfl, hb11⟩; have HS11 := Lib.hid (HS10.out.grow hb11); rw [aw_up.1]; clear hb11 HS10
 go_wp2_with fail
 refine (up_any _ g2 awL2.sn awL2.up (by rw [aw_up.2.2.2]; decide) (cA (i := 12) HS11.out rfl 3 rfl) (cA (i := 12) HS11.out rfl 9 rfl)).mono ?_; rintro e w12 ⟨rfl, hb12⟩; have HS12 := Lib.hid (HS11.out.grow hb12); rw [aw_up.2.1]; clear hb12 HS11
 go_wp2_with fail
 go_ret
 exact ⟨rfl, HS12.out.bel⟩
end Go.Proofs.Ytngegjboenfmeaa
/- LinkParts answers true, whatever the acts, the side and the ticks. -/
namespace Go.Proofs.Ytngegjboenfmeaa
open Go Go.RowKit
theorem linkParts_walk (w : World) (A0 : Option Addr) (cc : Nat) (L : List (Int × Int × Int)) (at_ ticks : Int) (h : Has w w.heap.size A0 (actRow L)) (hl : L.length ≤ 140737488355328) :
  Calls Try.prog 4 #[.slice A0 L.length cc, .int .i64 at_, .int .i64 ticks] w fun e w' => e = .returned (.bool true) ∧ Below w.heap.size w w' :=
 parts_any w awakeG A0 cc L at_ ticks h (by unfold maxLen; omega)
end Go.Proofs.Ytngegjboenfmeaa
/- 'caucus/caucuslaw12.LinkParts' returns true at every input, and every argument reads behind the call as it read before it. -/
namespace Go.Proofs.Ytngegjboenfmeaa.linkParts
open Go.ChangeShapes Go.WideShapes Go.ChangeAt Go.RowKit
set_option linter.unusedVariables false

theorem own : ownKnob Try.prog.godebug = none := by kernel_rfl
theorem laidOut : laidOutB Try.prog = true := by kernel_rfl
theorem readable : ∀ t ∈ Try.f4.params.toList, Try.prog.readableRec t = true ∧ t < Try.prog.types.size := by
 rw [Try.params4]; intro t ht; simp only [List.mem_cons, List.not_mem_nil, or_false] at ht
 rcases ht with rfl | rfl | rfl
 all_goals exact ⟨by kernel_rfl, of_decide_eq_true (by kernel_rfl)⟩

set_option maxRecDepth 100000 in
theorem lifted (os : Os) (started : os.Started) (H : Type) (enc : TypeId × Value → H) :
  ReturnsInHanded {} Try.checked os 4 .any (Rows.linkPartsSpec.pre6 enc Try.prog Try.f4 Rows.linkPartsRow.domain false) (Rows.linkPartsSpec.post enc Try.prog Try.f4 false true false false) := by
 refine returnsInHanded_of_change_sized (C := Try.checked) own started (by kernel_rfl) Try.func4
  (ChangeSpec.witness6 (enc := enc) (C := Try.checked) false ⟨#[], #[.slice none 0 0, .int .i64 0, .int .i64 0], []⟩ 8 (by kernel_rfl) (by kernel_rfl) (by kernel_rfl) (by kernel_rfl)) ?_
 intro W base args ds gs before hval0 hW hcnd hsz0 _; have hval : ∀ (j : Nat) t v, Try.f4.params[j]? = some t → args[j]? = some v → Value.okWide Try.prog W .any base t v := hval0; have hW' := hW; obtain ⟨p, q, hA0, hV, rfl, hfz, hnd⟩ := hW; have hA : DataW.TrodAll enc Try.prog W 0 (fun _ => true) true Try.f4.params.toList args.toList ds p := hA0; have hA' := hA; have hsz : (DataW.weightsEach Try.prog (Try.f4.params.toList ++ Rows.linkPartsSpec.plain.varTypes Try.prog) (ds ++ gs)).all (· ≤ reachBytes) = true := hsz0; rw [Try.params4] at hA hval hsz; obtain ⟨v0, vs0, d0, ds0, p0, q0, hargs, rfl, rfl, h0, r0⟩ := trodAll_cons hA; obtain ⟨v1, vs1, d1, ds1, p1, q1, rfl, rfl, rfl, h1, r1⟩ := trodAll_cons r0; obtain ⟨v2, vs2, d2, ds2, p2, q2, rfl, rfl, rfl, h2, r2⟩ := trodAll_cons r1; obtain ⟨rfl, rfl, rfl⟩ := trodAll_nil r2; obtain rfl : args = #[v0, v1, v2] := by cases args; simp_all
 obtain ⟨rfl, rfl⟩ := trodVars_none hV; obtain ⟨A0, c0, l0, rfl, hc0, hm0, hr0, hh0⟩ := arg_acts Try.underlying22 Try.underlying37 Try.underlying3 (by kernel_rfl) (by kernel_rfl) (by kernel_rfl) ⟨rfl, rfl⟩ ⟨rfl, rfl⟩ ⟨rfl, rfl⟩ (hval 0 22 v0 rfl rfl) h0 (weights_at hsz 0 rfl rfl); obtain ⟨x1, rfl, rfl, rfl, wx1⟩ := open_int Try.underlying3 (hval 1 3 v1 rfl rfl) h1; obtain ⟨x2, rfl, rfl, rfl, wx2⟩ := open_int Try.underlying3 (hval 2 3 v2 rfl rfl) h2; refine (linkParts_walk W A0 c0 l0 x1 x2 hh0 hr0).mono fun e W' ⟨he, bel⟩ => ?_
 subst he; exact ⟨_, rfl, _, _, _, [], _, [], hW', trodAll_mk1 (shut_bool Try.underlying4 _), trodAll_stays laidOut bel readable hA', rfl, bel.frame _, fun h => by cases h⟩

theorem over : Rows.linkPartsRow.holds Try.pinned (OpenSpec.ofChange Rows.linkPartsSpec) :=
 OpenClaim.holds_of_wide 4 Try.f4 rfl rfl rfl rfl rfl rfl rfl ⟨rfl, rfl, rfl, rfl, rfl⟩ rfl rfl rfl rfl rfl (by kernel_rfl) Try.func4 (by kernel_rfl)
  (of_decide_eq_true (by kernel_rfl)) (by unfold Func.isWrapper; first | (rw [if_pos (by decide +kernel)]; kernel_rfl) | (rw [if_neg (by decide +kernel)]; exact ⟨rfl, rfl⟩))
  (fun os started H enc _ => lifted os started H enc)

/-- THE STATEMENT -/
theorem proved : Rows.LinkPartsSaid := over
#print axioms proved
end Go.Proofs.Ytngegjboenfmeaa.linkParts
