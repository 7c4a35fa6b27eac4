/- The walk of the law LetterMay. -/
import Derived.Test.YtbnjlminjopaaaaLetA
import Derived.Test.YtbnjlminjopaaaaLetH
import Derived.Test.YtbnjlminjopaaaaLetT
import Derived.Test.YtbnjlminjopaaaaRgF
import Derived.Test.YtbnjlminjopaaaaLetL
namespace Go.Proofs.Ytbnjlminjopaaaa
open Go Go.RowKit
set_option linter.unusedVariables false
set_option maxRecDepth 100000
set_option linter.unusedSimpArgs false

set_option maxHeartbeats 3200000 in
theorem letterMay_walk (w : World) (x1 : Lt) (A1 E1 : Option Addr) (c1 d1 : Nat) (x2 : Lt) (A2 E2 : Option Addr) (c2 d2 : Nat) (hA1 : Has w w.heap.size A1 (us x1.body)) (hE1 : Has w w.heap.size E1 (u64s x1.cut)) (hf1 : x1.fits) (hu1 : ∀ y ∈ x1.cut, y < 18446744073709551616) (hA2 : Has w w.heap.size A2 (us x2.body)) (hE2 : Has w w.heap.size E2 (u64s x2.cut)) (hf2 : x2.fits) (hu2 : ∀ y ∈ x2.cut, y < 18446744073709551616) :
    Calls Try.prog 3 #[.agg (x1.cells A1 c1 E1 d1), .agg (x2.cells A2 c2 E2 d2)] w fun e w' => e = .returned (.bool true) ∧ Below w.heap.size w w' := by
  have HA1 := Lib.hid hA1
  have HE1 := Lib.hid hE1
  have HF1 := Lib.hid hf1
  have HU1 := Lib.hid hu1
  clear hA1 hE1 hf1 hu1
  obtain ⟨kind1, node1, pinc1, round1, snode1, sinc1, n1, body1, cid1, cut1, want1⟩ := x1
  simp only at HA1 HE1 HU1
  have HA2 := Lib.hid hA2
  have HE2 := Lib.hid hE2
  have HF2 := Lib.hid hf2
  have HU2 := Lib.hid hu2
  clear hA2 hE2 hf2 hu2
  obtain ⟨kind2, node2, pinc2, round2, snode2, sinc2, n2, body2, cid2, cut2, want2⟩ := x2
  simp only at HA2 HE2 HU2
  have HS0 := Lib.hid (show Sep w ((w.alloc (.cells #[.int .i64 kind1, .int .i64 node1, .int .u64 (pinc1 : Int), .int .u64 (round1 : Int), .int .i64 snode1, .int .u64 (sinc1 : Int), .int .u64 (n1 : Int), .slice A1 body1.length c1, .int .u64 (cid1 : Int), .slice E1 cut1.length d1, .bool want1] 30)).alloc (.cells #[.int .i64 kind2, .int .i64 node2, .int .u64 (pinc2 : Int), .int .u64 (round2 : Int), .int .i64 snode2, .int .u64 (sinc2 : Int), .int .u64 (n2 : Int), .slice A2 body2.length c2, .int .u64 (cid2 : Int), .slice E2 cut2.length d2, .bool want2] 30)) [Ce w.heap.size 30 #[.int .i64 kind1, .int .i64 node1, .int .u64 (pinc1 : Int), .int .u64 (round1 : Int), .int .i64 snode1, .int .u64 (sinc1 : Int), .int .u64 (n1 : Int), .slice A1 body1.length c1, .int .u64 (cid1 : Int), .slice E1 cut1.length d1, .bool want1], Ce (w.heap.size + 1) 30 #[.int .i64 kind2, .int .i64 node2, .int .u64 (pinc2 : Int), .int .u64 (round2 : Int), .int .i64 snode2, .int .u64 (sinc2 : Int), .int .u64 (n2 : Int), .slice A2 body2.length c2, .int .u64 (cid2 : Int), .slice E2 cut2.length d2, .bool want2]] by
    have := sep_ce (sep_ce (Sep.nil w) #[.int .i64 kind1, .int .i64 node1, .int .u64 (pinc1 : Int), .int .u64 (round1 : Int), .int .i64 snode1, .int .u64 (sinc1 : Int), .int .u64 (n1 : Int), .slice A1 body1.length c1, .int .u64 (cid1 : Int), .slice E1 cut1.length d1, .bool want1] 30) #[.int .i64 kind2, .int .i64 node2, .int .u64 (pinc2 : Int), .int .u64 (round2 : Int), .int .i64 snode2, .int .u64 (sinc2 : Int), .int .u64 (n2 : Int), .slice A2 body2.length c2, .int .u64 (cid2 : Int), .slice E2 cut2.length d2, .bool want2] 30
    simp only [World.size_alloc] at this
    exact this)
  by_cases hv1 : 3000 < body1.length ∨ 300 < cut1.length
  · simp only [Lt.cells]
    go_enter Try.func3, Try.ntmps3
    go_wp2_with fail
    refine (heavyB (x := (Lt.mk kind1 node1 pinc1 round1 snode1 sinc1 n1 body1 cid1 cut1 want1)) (b := true) (decide_eq_true hv1)).mono ?_
    rintro e w1 ⟨rfl, hb1⟩
    have HS1 := Lib.hid (HS0.out.grow hb1)
    clear HS0 hb1
    go_wp2_with fail
    refine (awake10 _).mono ?_
    rintro e w6 ⟨rfl, hb6⟩
    go_wp2_with fail
    go_ret
    exact ⟨rfl, HS1.out.bel.trans (hb6.mono HS1.out.size)⟩
  · have HV1 := Lib.hid (show decide (3000 < body1.length ∨ 300 < cut1.length) = false from decide_eq_false hv1)
    have hl1 : body1.length ≤ 3000 := by omega
    have hm1 : cut1.length ≤ 300 := by omega
    clear hv1
    have hz1 : World.heap w = World.heap w := rfl
    by_cases hv2 : 3000 < body2.length ∨ 300 < cut2.length
    · simp only [Lt.cells]
      go_enter Try.func3, Try.ntmps3
      go_wp2_with fail
      refine (heavyB (x := (Lt.mk kind1 node1 pinc1 round1 snode1 sinc1 n1 body1 cid1 cut1 want1)) (b := false) HV1.out).mono ?_
      rintro e w1 ⟨rfl, hb1⟩
      have HS1 := Lib.hid (HS0.out.grow hb1)
      clear HS0 hb1
      have k0 := sep_ceAt (i := 1) HS1.out rfl 0 rfl
      have k1 := sep_ceAt (i := 1) HS1.out rfl 1 rfl
      have k2 := sep_ceAt (i := 1) HS1.out rfl 2 rfl
      have k3 := sep_ceAt (i := 1) HS1.out rfl 3 rfl
      have k4 := sep_ceAt (i := 1) HS1.out rfl 4 rfl
      have k5 := sep_ceAt (i := 1) HS1.out rfl 5 rfl
      have k6 := sep_ceAt (i := 1) HS1.out rfl 6 rfl
      have k7 := sep_ceAt (i := 1) HS1.out rfl 7 rfl
      have k8 := sep_ceAt (i := 1) HS1.out rfl 8 rfl
      have k9 := sep_ceAt (i := 1) HS1.out rfl 9 rfl
      have k10 := sep_ceAt (i := 1) HS1.out rfl 10 rfl
      go_wp2_with fail
      clear k0 k1 k2 k3 k4 k5 k6 k7 k8 k9 k10
      refine (heavyB (x := (Lt.mk kind2 node2 pinc2 round2 snode2 sinc2 n2 body2 cid2 cut2 want2)) (b := true) (decide_eq_true hv2)).mono ?_
      rintro e w2 ⟨rfl, hb2⟩
      have HS2 := Lib.hid (HS1.out.grow hb2)
      clear HS1 hb2
      go_wp2_with fail
      refine (awake10 _).mono ?_
      rintro e w6 ⟨rfl, hb6⟩
      go_wp2_with fail
      go_ret
      exact ⟨rfl, HS2.out.bel.trans (hb6.mono HS2.out.size)⟩
    · have HV2 := Lib.hid (show decide (3000 < body2.length ∨ 300 < cut2.length) = false from decide_eq_false hv2)
      have hl2 : body2.length ≤ 3000 := by omega
      have hm2 : cut2.length ≤ 300 := by omega
      clear hv2 hz1
      simp only [Lt.cells]
      go_enter Try.func3, Try.ntmps3
      go_wp2_with fail
      refine (heavyB (x := (Lt.mk kind1 node1 pinc1 round1 snode1 sinc1 n1 body1 cid1 cut1 want1)) (b := false) HV1.out).mono ?_
      rintro e w1 ⟨rfl, hb1⟩
      have HS1 := Lib.hid (HS0.out.grow hb1)
      clear HS0 hb1 HV1
      have k0 := sep_ceAt (i := 1) HS1.out rfl 0 rfl
      have k1 := sep_ceAt (i := 1) HS1.out rfl 1 rfl
      have k2 := sep_ceAt (i := 1) HS1.out rfl 2 rfl
      have k3 := sep_ceAt (i := 1) HS1.out rfl 3 rfl
      have k4 := sep_ceAt (i := 1) HS1.out rfl 4 rfl
      have k5 := sep_ceAt (i := 1) HS1.out rfl 5 rfl
      have k6 := sep_ceAt (i := 1) HS1.out rfl 6 rfl
      have k7 := sep_ceAt (i := 1) HS1.out rfl 7 rfl
      have k8 := sep_ceAt (i := 1) HS1.out rfl 8 rfl
      have k9 := sep_ceAt (i := 1) HS1.out rfl 9 rfl
      have k10 := sep_ceAt (i := 1) HS1.out rfl 10 rfl
      go_wp2_with fail
      clear k0 k1 k2 k3 k4 k5 k6 k7 k8 k9 k10
      refine (heavyB (x := (Lt.mk kind2 node2 pinc2 round2 snode2 sinc2 n2 body2 cid2 cut2 want2)) (b := false) HV2.out).mono ?_
      rintro e w2 ⟨rfl, hb2⟩
      have HS2 := Lib.hid (HS1.out.grow hb2)
      clear HS1 hb2 HV2
      have HL1 : Hid (body1.length ≤ 5000 ∧ cut1.length ≤ 300) := Lib.hid ⟨by omega, hm1⟩
      have HL2 : Hid (body2.length ≤ 5000 ∧ cut2.length ≤ 300) := Lib.hid ⟨by omega, hm2⟩
      clear hl1 hl2 hm1 hm2
      obtain ⟨qb, HQB⟩ : ∃ b, Hid ((Lt.mk kind1 node1 pinc1 round1 snode1 sinc1 n1 body1 cid1 cut1 want1).eqB (Lt.mk kind2 node2 pinc2 round2 snode2 sinc2 n2 body2 cid2 cut2 want2) = b) := ⟨_, Lib.hid rfl⟩
      obtain ⟨mb, HMB⟩ : ∃ b, Hid ((Lt.mk kind1 node1 pinc1 round1 snode1 sinc1 n1 body1 cid1 cut1 want1).may = b) := ⟨_, Lib.hid rfl⟩
      go_wp2_with fail
      refine wp_region_f (fun dn xv W => Sep w W [Ce w.heap.size 30 #[.int .i64 kind1, .int .i64 node1, .int .u64 (pinc1 : Int), .int .u64 (round1 : Int), .int .i64 snode1, .int .u64 (sinc1 : Int), .int .u64 (n1 : Int), .slice A1 body1.length c1, .int .u64 (cid1 : Int), .slice E1 cut1.length d1, .bool want1], Ce (w.heap.size + 1) 30 #[.int .i64 kind2, .int .i64 node2, .int .u64 (pinc2 : Int), .int .u64 (round2 : Int), .int .i64 snode2, .int .u64 (sinc2 : Int), .int .u64 (n2 : Int), .slice A2 body2.length c2, .int .u64 (cid2 : Int), .slice E2 cut2.length d2, .bool want2]]) (fun _ _ => True) [fun v _ => v = .agg #[.int .i64 kind1, .int .i64 node1, .int .u64 (pinc1 : Int), .int .u64 (round1 : Int), .int .i64 snode1, .int .u64 (sinc1 : Int), .int .u64 (n1 : Int), .slice A1 body1.length c1, .int .u64 (cid1 : Int), .slice E1 cut1.length d1, .bool want1], fun v _ => v = .bool mb, fun v _ => v = .agg #[.int .i64 kind1, .int .i64 node1, .int .u64 (pinc1 : Int), .int .u64 (round1 : Int), .int .i64 snode1, .int .u64 (sinc1 : Int), .int .u64 (n1 : Int), .slice A1 body1.length c1, .int .u64 (cid1 : Int), .slice E1 cut1.length d1, .bool want1], fun v _ => v = .bool mb, fun v _ => v = .bool true, fun v _ => v = .bool true, fun v _ => v = .agg #[.int .i64 kind1, .int .i64 node1, .int .u64 (pinc1 : Int), .int .u64 (round1 : Int), .int .i64 snode1, .int .u64 (sinc1 : Int), .int .u64 (n1 : Int), .slice A1 body1.length c1, .int .u64 (cid1 : Int), .slice E1 cut1.length d1, .bool want1], fun v _ => v = .agg #[.int .i64 kind2, .int .i64 node2, .int .u64 (pinc2 : Int), .int .u64 (round2 : Int), .int .i64 snode2, .int .u64 (sinc2 : Int), .int .u64 (n2 : Int), .slice A2 body2.length c2, .int .u64 (cid2 : Int), .slice E2 cut2.length d2, .bool want2], fun v _ => v = .bool qb, fun v _ => v = .agg #[.int .i64 kind1, .int .i64 node1, .int .u64 (pinc1 : Int), .int .u64 (round1 : Int), .int .i64 snode1, .int .u64 (sinc1 : Int), .int .u64 (n1 : Int), .slice A1 body1.length c1, .int .u64 (cid1 : Int), .slice E1 cut1.length d1, .bool want1], fun v _ => v = .agg #[.int .i64 kind2, .int .i64 node2, .int .u64 (pinc2 : Int), .int .u64 (round2 : Int), .int .i64 snode2, .int .u64 (sinc2 : Int), .int .u64 (n2 : Int), .slice A2 body2.length c2, .int .u64 (cid2 : Int), .slice E2 cut2.length d2, .bool want2], fun v _ => v = .bool qb, fun v _ => v = .bool true, fun v _ => v = .bool true, fun v _ => v = .bool true, fun v _ => v = .bool true, fun v _ => v = .bool true, fun v _ => v = .bool true] (by kernel_rfl) (by kernel_rfl) (by kernel_rfl) (by kernel_rfl) (fun xv => by simpa using HS2.out.drew)
        (by exact ⟨fun _ _ _ _ h => h, fun _ _ _ _ h => h, fun _ _ _ _ h => h, fun _ _ _ _ h => h, fun _ _ _ _ h => h, fun _ _ _ _ h => h, fun _ _ _ _ h => h, fun _ _ _ _ h => h, fun _ _ _ _ h => h, fun _ _ _ _ h => h, fun _ _ _ _ h => h, fun _ _ _ _ h => h, fun _ _ _ _ h => h, fun _ _ _ _ h => h, fun _ _ _ _ h => h, fun _ _ _ _ h => h, fun _ _ _ _ h => h, fun _ _ _ _ h => h, trivial⟩) ?_ ?_
      · refine EachF.cons 1 rfl (fun dn xv W F hF hd hN hX hI H K hK => ?_) ?_
        · have f2 : F.tmps.getD 2 undef = .pointer (some ⟨w.heap.size, 0, none⟩) := (hF 2).trans (by kernel_rfl)
          have k0 := sep_ceAt (i := 0) hI rfl 0 rfl
          have k1 := sep_ceAt (i := 0) hI rfl 1 rfl
          have k2 := sep_ceAt (i := 0) hI rfl 2 rfl
          have k3 := sep_ceAt (i := 0) hI rfl 3 rfl
          have k4 := sep_ceAt (i := 0) hI rfl 4 rfl
          have k5 := sep_ceAt (i := 0) hI rfl 5 rfl
          have k6 := sep_ceAt (i := 0) hI rfl 6 rfl
          have k7 := sep_ceAt (i := 0) hI rfl 7 rfl
          have k8 := sep_ceAt (i := 0) hI rfl 8 rfl
          have k9 := sep_ceAt (i := 0) hI rfl 9 rfl
          have k10 := sep_ceAt (i := 0) hI rfl 10 rfl
          clear H hN hd hX hF
          refine on_plain rfl ?_
          go_simp
          exact hK.out _ _ rfl trivial (by simpa [upB, upd] using hI)
        refine EachF.cons 2 rfl (fun dn xv W F hF hd hN hX hI H K hK => ?_) ?_
        · have h0 : xv 0 = .agg #[.int .i64 kind1, .int .i64 node1, .int .u64 (pinc1 : Int), .int .u64 (round1 : Int), .int .i64 snode1, .int .u64 (sinc1 : Int), .int .u64 (n1 : Int), .slice A1 body1.length c1, .int .u64 (cid1 : Int), .slice E1 cut1.length d1, .bool want1] := (H 0 (.edge (by kernel_rfl))).2
          have f12 : F.tmps.getD 12 undef = .agg #[.int .i64 kind1, .int .i64 node1, .int .u64 (pinc1 : Int), .int .u64 (round1 : Int), .int .i64 snode1, .int .u64 (sinc1 : Int), .int .u64 (n1 : Int), .slice A1 body1.length c1, .int .u64 (cid1 : Int), .slice E1 cut1.length d1, .bool want1] := (hF 12).trans (Eq.trans (by kernel_rfl) h0)
          clear H hN hd hX hF
          refine on_plain rfl ?_
          go_simp
          refine (mayL (w := W) (B := w.heap.size) (x := (Lt.mk kind1 node1 pinc1 round1 snode1 sinc1 n1 body1 cid1 cut1 want1)) (A := A1) (A2 := E1) (c := c1) (c2 := d1) HMB.out (hI.has HE1.out) hI.size (Nat.le_trans HL1.out.1 (by omega)) (Nat.le_trans HL1.out.2 (by omega)) HU1.out).mono ?_
          rintro e W' ⟨rfl, hb⟩
          exact hK.out _ W' rfl trivial (by simpa [upB, upd] using hI.grow hb)
        refine EachF.cons 3 rfl (fun dn xv W F hF hd hN hX hI H K hK => ?_) ?_
        · have f2 : F.tmps.getD 2 undef = .pointer (some ⟨w.heap.size, 0, none⟩) := (hF 2).trans (by kernel_rfl)
          have k0 := sep_ceAt (i := 0) hI rfl 0 rfl
          have k1 := sep_ceAt (i := 0) hI rfl 1 rfl
          have k2 := sep_ceAt (i := 0) hI rfl 2 rfl
          have k3 := sep_ceAt (i := 0) hI rfl 3 rfl
          have k4 := sep_ceAt (i := 0) hI rfl 4 rfl
          have k5 := sep_ceAt (i := 0) hI rfl 5 rfl
          have k6 := sep_ceAt (i := 0) hI rfl 6 rfl
          have k7 := sep_ceAt (i := 0) hI rfl 7 rfl
          have k8 := sep_ceAt (i := 0) hI rfl 8 rfl
          have k9 := sep_ceAt (i := 0) hI rfl 9 rfl
          have k10 := sep_ceAt (i := 0) hI rfl 10 rfl
          clear H hN hd hX hF
          refine on_plain rfl ?_
          go_simp
          exact hK.out _ _ rfl trivial (by simpa [upB, upd] using hI)
        refine EachF.cons 4 rfl (fun dn xv W F hF hd hN hX hI H K hK => ?_) ?_
        · have h2 : xv 2 = .agg #[.int .i64 kind1, .int .i64 node1, .int .u64 (pinc1 : Int), .int .u64 (round1 : Int), .int .i64 snode1, .int .u64 (sinc1 : Int), .int .u64 (n1 : Int), .slice A1 body1.length c1, .int .u64 (cid1 : Int), .slice E1 cut1.length d1, .bool want1] := (H 2 (.edge (by kernel_rfl))).2
          have f14 : F.tmps.getD 14 undef = .agg #[.int .i64 kind1, .int .i64 node1, .int .u64 (pinc1 : Int), .int .u64 (round1 : Int), .int .i64 snode1, .int .u64 (sinc1 : Int), .int .u64 (n1 : Int), .slice A1 body1.length c1, .int .u64 (cid1 : Int), .slice E1 cut1.length d1, .bool want1] := (hF 14).trans (Eq.trans (by kernel_rfl) h2)
          clear H hN hd hX hF
          refine on_plain rfl ?_
          go_simp
          refine (ref10MayL (w := W) (B := w.heap.size) (x := (Lt.mk kind1 node1 pinc1 round1 snode1 sinc1 n1 body1 cid1 cut1 want1)) (A := A1) (A2 := E1) (c := c1) (c2 := d1) HMB.out (hI.has HE1.out) hI.size (Nat.le_trans HL1.out.1 (by omega)) (Nat.le_trans HL1.out.2 (by omega)) HU1.out).mono ?_
          rintro e W' ⟨rfl, hb⟩
          exact hK.out _ W' rfl trivial (by simpa [upB, upd] using hI.grow hb)
        refine EachF.cons 5 rfl (fun dn xv W F hF hd hN hX hI H K hK => ?_) ?_
        · have h1 : xv 1 = .bool mb := (H 1 (.edge (by kernel_rfl))).2
          have f13 : F.tmps.getD 13 undef = .bool mb := (hF 13).trans (Eq.trans (by kernel_rfl) h1)
          have h3 : xv 3 = .bool mb := (H 3 (.edge (by kernel_rfl))).2
          have f15 : F.tmps.getD 15 undef = .bool mb := (hF 15).trans (Eq.trans (by kernel_rfl) h3)
          clear H hN hd hX hF
          refine on_plain rfl ?_
          go_simp
          exact hK.out _ _ rfl trivial (by simpa [upB, upd] using hI)
        refine EachF.cons 6 rfl (fun dn xv W F hF hd hN hX hI H K hK => ?_) ?_
        · have h4 : xv 4 = .bool true := (H 4 (.edge (by kernel_rfl))).2
          have f16 : F.tmps.getD 16 undef = .bool true := (hF 16).trans (Eq.trans (by kernel_rfl) h4)
          clear H hN hd hX hF
          refine on_plain rfl ?_
          go_simp
          exact hK.out _ _ rfl trivial (by simpa [upB, upd] using hI)
        refine EachF.cons 7 rfl (fun dn xv W F hF hd hN hX hI H K hK => ?_) ?_
        · have f2 : F.tmps.getD 2 undef = .pointer (some ⟨w.heap.size, 0, none⟩) := (hF 2).trans (by kernel_rfl)
          have h5 : xv 5 = .bool true := (H 5 (.edge (by kernel_rfl))).2
          have f17 : F.tmps.getD 17 undef = .bool true := (hF 17).trans (Eq.trans (by kernel_rfl) h5)
          have k0 := sep_ceAt (i := 0) hI rfl 0 rfl
          have k1 := sep_ceAt (i := 0) hI rfl 1 rfl
          have k2 := sep_ceAt (i := 0) hI rfl 2 rfl
          have k3 := sep_ceAt (i := 0) hI rfl 3 rfl
          have k4 := sep_ceAt (i := 0) hI rfl 4 rfl
          have k5 := sep_ceAt (i := 0) hI rfl 5 rfl
          have k6 := sep_ceAt (i := 0) hI rfl 6 rfl
          have k7 := sep_ceAt (i := 0) hI rfl 7 rfl
          have k8 := sep_ceAt (i := 0) hI rfl 8 rfl
          have k9 := sep_ceAt (i := 0) hI rfl 9 rfl
          have k10 := sep_ceAt (i := 0) hI rfl 10 rfl
          clear H hN hd hX hF
          refine on_guard rfl (by kernel_rfl) f17 ?_
          go_simp
          exact hK.out _ _ rfl trivial (by simpa [upB, upd] using hI)
        refine EachF.cons 8 rfl (fun dn xv W F hF hd hN hX hI H K hK => ?_) ?_
        · have f3 : F.tmps.getD 3 undef = .pointer (some ⟨w.heap.size + 1, 0, none⟩) := (hF 3).trans (by kernel_rfl)
          have h5 : xv 5 = .bool true := (H 5 (.edge (by kernel_rfl))).2
          have f17 : F.tmps.getD 17 undef = .bool true := (hF 17).trans (Eq.trans (by kernel_rfl) h5)
          have k0 := sep_ceAt (i := 1) hI rfl 0 rfl
          have k1 := sep_ceAt (i := 1) hI rfl 1 rfl
          have k2 := sep_ceAt (i := 1) hI rfl 2 rfl
          have k3 := sep_ceAt (i := 1) hI rfl 3 rfl
          have k4 := sep_ceAt (i := 1) hI rfl 4 rfl
          have k5 := sep_ceAt (i := 1) hI rfl 5 rfl
          have k6 := sep_ceAt (i := 1) hI rfl 6 rfl
          have k7 := sep_ceAt (i := 1) hI rfl 7 rfl
          have k8 := sep_ceAt (i := 1) hI rfl 8 rfl
          have k9 := sep_ceAt (i := 1) hI rfl 9 rfl
          have k10 := sep_ceAt (i := 1) hI rfl 10 rfl
          clear H hN hd hX hF
          refine on_guard rfl (by kernel_rfl) f17 ?_
          go_simp
          exact hK.out _ _ rfl trivial (by simpa [upB, upd] using hI)
        refine EachF.cons 9 rfl (fun dn xv W F hF hd hN hX hI H K hK => ?_) ?_
        · have h6 : xv 6 = .agg #[.int .i64 kind1, .int .i64 node1, .int .u64 (pinc1 : Int), .int .u64 (round1 : Int), .int .i64 snode1, .int .u64 (sinc1 : Int), .int .u64 (n1 : Int), .slice A1 body1.length c1, .int .u64 (cid1 : Int), .slice E1 cut1.length d1, .bool want1] := (H 6 (.edge (by kernel_rfl))).2
          have f18 : F.tmps.getD 18 undef = .agg #[.int .i64 kind1, .int .i64 node1, .int .u64 (pinc1 : Int), .int .u64 (round1 : Int), .int .i64 snode1, .int .u64 (sinc1 : Int), .int .u64 (n1 : Int), .slice A1 body1.length c1, .int .u64 (cid1 : Int), .slice E1 cut1.length d1, .bool want1] := (hF 18).trans (Eq.trans (by kernel_rfl) h6)
          have h7 : xv 7 = .agg #[.int .i64 kind2, .int .i64 node2, .int .u64 (pinc2 : Int), .int .u64 (round2 : Int), .int .i64 snode2, .int .u64 (sinc2 : Int), .int .u64 (n2 : Int), .slice A2 body2.length c2, .int .u64 (cid2 : Int), .slice E2 cut2.length d2, .bool want2] := (H 7 (.edge (by kernel_rfl))).2
          have f19 : F.tmps.getD 19 undef = .agg #[.int .i64 kind2, .int .i64 node2, .int .u64 (pinc2 : Int), .int .u64 (round2 : Int), .int .i64 snode2, .int .u64 (sinc2 : Int), .int .u64 (n2 : Int), .slice A2 body2.length c2, .int .u64 (cid2 : Int), .slice E2 cut2.length d2, .bool want2] := (hF 19).trans (Eq.trans (by kernel_rfl) h7)
          have h5 : xv 5 = .bool true := (H 5 (.edge (by kernel_rfl))).2
          have f17 : F.tmps.getD 17 undef = .bool true := (hF 17).trans (Eq.trans (by kernel_rfl) h5)
          clear H hN hd hX hF
          refine on_guard rfl (by kernel_rfl) f17 ?_
          go_simp
          refine (sameB (w := W) (B := w.heap.size) (x := (Lt.mk kind1 node1 pinc1 round1 snode1 sinc1 n1 body1 cid1 cut1 want1)) (y := (Lt.mk kind2 node2 pinc2 round2 snode2 sinc2 n2 body2 cid2 cut2 want2)) (A := A1) (A2 := E1) (A' := A2) (A2' := E2) (c := c1) (c2 := d1) (c' := c2) (c2' := d2) HQB.out (hI.has HA1.out) (hI.has HE1.out) (hI.has HA2.out) (hI.has HE2.out) hI.size HL1.out.1 HL2.out.1 HL1.out.2 HL2.out.2).mono ?_
          rintro e W' ⟨rfl, hb⟩
          exact hK.out _ W' rfl trivial (by simpa [upB, upd] using hI.grow hb)
        refine EachF.cons 10 rfl (fun dn xv W F hF hd hN hX hI H K hK => ?_) ?_
        · have f2 : F.tmps.getD 2 undef = .pointer (some ⟨w.heap.size, 0, none⟩) := (hF 2).trans (by kernel_rfl)
          have h5 : xv 5 = .bool true := (H 5 (.edge (by kernel_rfl))).2
          have f17 : F.tmps.getD 17 undef = .bool true := (hF 17).trans (Eq.trans (by kernel_rfl) h5)
          have k0 := sep_ceAt (i := 0) hI rfl 0 rfl
          have k1 := sep_ceAt (i := 0) hI rfl 1 rfl
          have k2 := sep_ceAt (i := 0) hI rfl 2 rfl
          have k3 := sep_ceAt (i := 0) hI rfl 3 rfl
          have k4 := sep_ceAt (i := 0) hI rfl 4 rfl
          have k5 := sep_ceAt (i := 0) hI rfl 5 rfl
          have k6 := sep_ceAt (i := 0) hI rfl 6 rfl
          have k7 := sep_ceAt (i := 0) hI rfl 7 rfl
          have k8 := sep_ceAt (i := 0) hI rfl 8 rfl
          have k9 := sep_ceAt (i := 0) hI rfl 9 rfl
          have k10 := sep_ceAt (i := 0) hI rfl 10 rfl
          clear H hN hd hX hF
          refine on_guard rfl (by kernel_rfl) f17 ?_
          go_simp
          exact hK.out _ _ rfl trivial (by simpa [upB, upd] using hI)
        refine EachF.cons 11 rfl (fun dn xv W F hF hd hN hX hI H K hK => ?_) ?_
        · have f3 : F.tmps.getD 3 undef = .pointer (some ⟨w.heap.size + 1, 0, none⟩) := (hF 3).trans (by kernel_rfl)
          have h5 : xv 5 = .bool true := (H 5 (.edge (by kernel_rfl))).2
          have f17 : F.tmps.getD 17 undef = .bool true := (hF 17).trans (Eq.trans (by kernel_rfl) h5)
          have k0 := sep_ceAt (i := 1) hI rfl 0 rfl
          have k1 := sep_ceAt (i := 1) hI rfl 1 rfl
          have k2 := sep_ceAt (i := 1) hI rfl 2 rfl
          have k3 := sep_ceAt (i := 1) hI rfl 3 rfl
          have k4 := sep_ceAt (i := 1) hI rfl 4 rfl
          have k5 := sep_ceAt (i := 1) hI rfl 5 rfl
          have k6 := sep_ceAt (i := 1) hI rfl 6 rfl
          have k7 := sep_ceAt (i := 1) hI rfl 7 rfl
          have k8 := sep_ceAt (i := 1) hI rfl 8 rfl
          have k9 := sep_ceAt (i := 1) hI rfl 9 rfl
          have k10 := sep_ceAt (i := 1) hI rfl 10 rfl
          clear H hN hd hX hF
          refine on_guard rfl (by kernel_rfl) f17 ?_
          go_simp
          exact hK.out _ _ rfl trivial (by simpa [upB, upd] using hI)
        refine EachF.cons 12 rfl (fun dn xv W F hF hd hN hX hI H K hK => ?_) ?_
        · have h9 : xv 9 = .agg #[.int .i64 kind1, .int .i64 node1, .int .u64 (pinc1 : Int), .int .u64 (round1 : Int), .int .i64 snode1, .int .u64 (sinc1 : Int), .int .u64 (n1 : Int), .slice A1 body1.length c1, .int .u64 (cid1 : Int), .slice E1 cut1.length d1, .bool want1] := (H 9 (.edge (by kernel_rfl))).2
          have f21 : F.tmps.getD 21 undef = .agg #[.int .i64 kind1, .int .i64 node1, .int .u64 (pinc1 : Int), .int .u64 (round1 : Int), .int .i64 snode1, .int .u64 (sinc1 : Int), .int .u64 (n1 : Int), .slice A1 body1.length c1, .int .u64 (cid1 : Int), .slice E1 cut1.length d1, .bool want1] := (hF 21).trans (Eq.trans (by kernel_rfl) h9)
          have h10 : xv 10 = .agg #[.int .i64 kind2, .int .i64 node2, .int .u64 (pinc2 : Int), .int .u64 (round2 : Int), .int .i64 snode2, .int .u64 (sinc2 : Int), .int .u64 (n2 : Int), .slice A2 body2.length c2, .int .u64 (cid2 : Int), .slice E2 cut2.length d2, .bool want2] := (H 10 (.edge (by kernel_rfl))).2
          have f22 : F.tmps.getD 22 undef = .agg #[.int .i64 kind2, .int .i64 node2, .int .u64 (pinc2 : Int), .int .u64 (round2 : Int), .int .i64 snode2, .int .u64 (sinc2 : Int), .int .u64 (n2 : Int), .slice A2 body2.length c2, .int .u64 (cid2 : Int), .slice E2 cut2.length d2, .bool want2] := (hF 22).trans (Eq.trans (by kernel_rfl) h10)
          have h5 : xv 5 = .bool true := (H 5 (.edge (by kernel_rfl))).2
          have f17 : F.tmps.getD 17 undef = .bool true := (hF 17).trans (Eq.trans (by kernel_rfl) h5)
          clear H hN hd hX hF
          refine on_guard rfl (by kernel_rfl) f17 ?_
          go_simp
          refine (ref10SameB (w := W) (B := w.heap.size) (x := (Lt.mk kind1 node1 pinc1 round1 snode1 sinc1 n1 body1 cid1 cut1 want1)) (y := (Lt.mk kind2 node2 pinc2 round2 snode2 sinc2 n2 body2 cid2 cut2 want2)) (A := A1) (A2 := E1) (A' := A2) (A2' := E2) (c := c1) (c2 := d1) (c' := c2) (c2' := d2) HQB.out (hI.has HA1.out) (hI.has HE1.out) (hI.has HA2.out) (hI.has HE2.out) hI.size HL1.out.1 HL2.out.1 HL1.out.2 HL2.out.2).mono ?_
          rintro e W' ⟨rfl, hb⟩
          exact hK.out _ W' rfl trivial (by simpa [upB, upd] using hI.grow hb)
        refine EachF.cons 13 rfl (fun dn xv W F hF hd hN hX hI H K hK => ?_) ?_
        · have h8 : xv 8 = .bool qb := (H 8 (.edge (by kernel_rfl))).2
          have f20 : F.tmps.getD 20 undef = .bool qb := (hF 20).trans (Eq.trans (by kernel_rfl) h8)
          have h11 : xv 11 = .bool qb := (H 11 (.edge (by kernel_rfl))).2
          have f23 : F.tmps.getD 23 undef = .bool qb := (hF 23).trans (Eq.trans (by kernel_rfl) h11)
          have h5 : xv 5 = .bool true := (H 5 (.edge (by kernel_rfl))).2
          have f17 : F.tmps.getD 17 undef = .bool true := (hF 17).trans (Eq.trans (by kernel_rfl) h5)
          clear H hN hd hX hF
          refine on_guard rfl (by kernel_rfl) f17 ?_
          go_simp
          exact hK.out _ _ rfl trivial (by simpa [upB, upd] using hI)
        refine EachF.cons 14 rfl (fun dn xv W F hF hd hN hX hI H K hK => ?_) ?_
        · have h5 : xv 5 = .bool true := (H 5 (.edge (by kernel_rfl))).2
          have f17 : F.tmps.getD 17 undef = .bool true := (hF 17).trans (Eq.trans (by kernel_rfl) h5)
          have h12 : xv 12 = .bool true := (H 12 (.edge (by kernel_rfl))).2
          have f24 : F.tmps.getD 24 undef = .bool true := (hF 24).trans (Eq.trans (by kernel_rfl) h12)
          clear H hN hd hX hF
          refine on_plain rfl ?_
          go_simp
          exact hK.out _ _ rfl trivial (by simpa [upB, upd] using hI)
        refine EachF.cons 15 rfl (fun dn xv W F hF hd hN hX hI H K hK => ?_) ?_
        · have h13 : xv 13 = .bool true := (H 13 (.edge (by kernel_rfl))).2
          have f25 : F.tmps.getD 25 undef = .bool true := (hF 25).trans (Eq.trans (by kernel_rfl) h13)
          clear H hN hd hX hF
          refine on_plain rfl ?_
          go_simp
          exact hK.out _ _ rfl trivial (by simpa [upB, upd] using hI)
        refine EachF.cons 16 rfl (fun dn xv W F hF hd hN hX hI H K hK => ?_) ?_
        · have h14 : xv 14 = .bool true := (H 14 (.edge (by kernel_rfl))).2
          have f26 : F.tmps.getD 26 undef = .bool true := (hF 26).trans (Eq.trans (by kernel_rfl) h14)
          clear H hN hd hX hF
          refine on_guard rfl (by kernel_rfl) f26 ?_
          go_simp
          refine (awake10 W).mono ?_
          rintro e W' ⟨rfl, hb⟩
          exact hK.out _ W' rfl trivial (by simpa [upB, upd] using hI.grow hb)
        refine EachF.cons 17 rfl (fun dn xv W F hF hd hN hX hI H K hK => ?_) ?_
        · have h14 : xv 14 = .bool true := (H 14 (.edge (by kernel_rfl))).2
          have f26 : F.tmps.getD 26 undef = .bool true := (hF 26).trans (Eq.trans (by kernel_rfl) h14)
          have h15 : xv 15 = .bool true := (H 15 (.edge (by kernel_rfl))).2
          have f27 : F.tmps.getD 27 undef = .bool true := (hF 27).trans (Eq.trans (by kernel_rfl) h15)
          clear H hN hd hX hF
          refine on_plain rfl ?_
          go_simp
          exact hK.out _ _ rfl trivial (by simpa [upB, upd] using hI)
        refine EachF.cons 18 rfl (fun dn xv W F hF hd hN hX hI H K hK => ?_) ?_
        · have h16 : xv 16 = .bool true := (H 16 (.edge (by kernel_rfl))).2
          have f28 : F.tmps.getD 28 undef = .bool true := (hF 28).trans (Eq.trans (by kernel_rfl) h16)
          clear H hN hd hX hF
          refine on_plain rfl ?_
          go_simp
          exact hK.out _ _ rfl trivial (by simpa [upB, upd] using hI)
        exact EachF.nil
      · intro dn xv W hI H
        have q17 : xv 17 = .bool true := (H 17 (of_decide_eq_true (by kernel_rfl))).2
        have hS : Sep w W [Ce w.heap.size 30 #[.int .i64 kind1, .int .i64 node1, .int .u64 (pinc1 : Int), .int .u64 (round1 : Int), .int .i64 snode1, .int .u64 (sinc1 : Int), .int .u64 (n1 : Int), .slice A1 body1.length c1, .int .u64 (cid1 : Int), .slice E1 cut1.length d1, .bool want1], Ce (w.heap.size + 1) 30 #[.int .i64 kind2, .int .i64 node2, .int .u64 (pinc2 : Int), .int .u64 (round2 : Int), .int .i64 snode2, .int .u64 (sinc2 : Int), .int .u64 (n2 : Int), .slice A2 body2.length c2, .int .u64 (cid2 : Int), .slice E2 cut2.length d2, .bool want2]] := hI
        clear H hI
        simp only [putAll, Act.put, List.setIfInBounds_toArray, List.set_cons_zero, List.set_cons_succ, Nat.reduceAdd, q17]
        clear q17
        go_wp2_with fail
        go_ret
        exact ⟨rfl, hS.bel⟩
end Go.Proofs.Ytbnjlminjopaaaa
