/- The walk of the law LetterUnlike. -/
import Derived.Test.YtbnjlminjopaaaaLetA
import Derived.Test.YtbnjlminjopaaaaLetH
import Derived.Test.YtbnjlminjopaaaaLetT
import Derived.Test.YtbnjlminjopaaaaRgF
import Derived.Test.YtbnjlminjopaaaaLetL
namespace Go.Proofs.Ytbnjlminjopaaaa
open Go Go.RowKit
set_option linter.unusedVariables false
set_option maxRecDepth 100000
set_option linter.unusedSimpArgs false

set_option maxHeartbeats 6400000 in
theorem letterUnlike_walk (w : World) (x1 : Lt) (A1 E1 : Option Addr) (c1 d1 : Nat) (x2 : Lt) (A2 E2 : Option Addr) (c2 d2 : Nat) (hA1 : Has w w.heap.size A1 (us x1.body)) (hE1 : Has w w.heap.size E1 (u64s x1.cut)) (hf1 : x1.fits) (hu1 : ∀ y ∈ x1.cut, y < 18446744073709551616) (hA2 : Has w w.heap.size A2 (us x2.body)) (hE2 : Has w w.heap.size E2 (u64s x2.cut)) (hf2 : x2.fits) (hu2 : ∀ y ∈ x2.cut, y < 18446744073709551616) :
    Calls Try.prog 8 #[.agg (x1.cells A1 c1 E1 d1), .agg (x2.cells A2 c2 E2 d2)] w fun e w' => e = .returned (.bool true) ∧ Below w.heap.size w w' := by
  have HA1 := Lib.hid hA1
  have HE1 := Lib.hid hE1
  have HF1 := Lib.hid hf1
  have HU1 := Lib.hid hu1
  clear hA1 hE1 hf1 hu1
  obtain ⟨kind1, node1, pinc1, round1, snode1, sinc1, n1, body1, cid1, cut1, want1⟩ := x1
  simp only at HA1 HE1 HU1
  have HA2 := Lib.hid hA2
  have HE2 := Lib.hid hE2
  have HF2 := Lib.hid hf2
  have HU2 := Lib.hid hu2
  clear hA2 hE2 hf2 hu2
  obtain ⟨kind2, node2, pinc2, round2, snode2, sinc2, n2, body2, cid2, cut2, want2⟩ := x2
  simp only at HA2 HE2 HU2
  have HS0 := Lib.hid (show Sep w ((w.alloc (.cells #[.int .i64 kind1, .int .i64 node1, .int .u64 (pinc1 : Int), .int .u64 (round1 : Int), .int .i64 snode1, .int .u64 (sinc1 : Int), .int .u64 (n1 : Int), .slice A1 body1.length c1, .int .u64 (cid1 : Int), .slice E1 cut1.length d1, .bool want1] 30)).alloc (.cells #[.int .i64 kind2, .int .i64 node2, .int .u64 (pinc2 : Int), .int .u64 (round2 : Int), .int .i64 snode2, .int .u64 (sinc2 : Int), .int .u64 (n2 : Int), .slice A2 body2.length c2, .int .u64 (cid2 : Int), .slice E2 cut2.length d2, .bool want2] 30)) [Ce w.heap.size 30 #[.int .i64 kind1, .int .i64 node1, .int .u64 (pinc1 : Int), .int .u64 (round1 : Int), .int .i64 snode1, .int .u64 (sinc1 : Int), .int .u64 (n1 : Int), .slice A1 body1.length c1, .int .u64 (cid1 : Int), .slice E1 cut1.length d1, .bool want1], Ce (w.heap.size + 1) 30 #[.int .i64 kind2, .int .i64 node2, .int .u64 (pinc2 : Int), .int .u64 (round2 : Int), .int .i64 snode2, .int .u64 (sinc2 : Int), .int .u64 (n2 : Int), .slice A2 body2.length c2, .int .u64 (cid2 : Int), .slice E2 cut2.length d2, .bool want2]] by
    have := sep_ce (sep_ce (Sep.nil w) #[.int .i64 kind1, .int .i64 node1, .int .u64 (pinc1 : Int), .int .u64 (round1 : Int), .int .i64 snode1, .int .u64 (sinc1 : Int), .int .u64 (n1 : Int), .slice A1 body1.length c1, .int .u64 (cid1 : Int), .slice E1 cut1.length d1, .bool want1] 30) #[.int .i64 kind2, .int .i64 node2, .int .u64 (pinc2 : Int), .int .u64 (round2 : Int), .int .i64 snode2, .int .u64 (sinc2 : Int), .int .u64 (n2 : Int), .slice A2 body2.length c2, .int .u64 (cid2 : Int), .slice E2 cut2.length d2, .bool want2] 30
    simp only [World.size_alloc] at this
    exact this)
  by_cases hv1 : 3000 < body1.length ∨ 300 < cut1.length
  · simp only [Lt.cells]
    go_enter Try.func8, Try.ntmps8
    go_wp2_with fail
    refine (heavyB (x := (Lt.mk kind1 node1 pinc1 round1 snode1 sinc1 n1 body1 cid1 cut1 want1)) (b := true) (decide_eq_true hv1)).mono ?_
    rintro e w1 ⟨rfl, hb1⟩
    have HS1 := Lib.hid (HS0.out.grow hb1)
    clear HS0 hb1
    go_wp2_with fail
    refine (awake10 _).mono ?_
    rintro e w6 ⟨rfl, hb6⟩
    go_wp2_with fail
    go_ret
    exact ⟨rfl, HS1.out.bel.trans (hb6.mono HS1.out.size)⟩
  · have HV1 := Lib.hid (show decide (3000 < body1.length ∨ 300 < cut1.length) = false from decide_eq_false hv1)
    have hl1 : body1.length ≤ 3000 := by omega
    have hm1 : cut1.length ≤ 300 := by omega
    clear hv1
    have hz1 : World.heap w = World.heap w := rfl
    by_cases hv2 : 3000 < body2.length ∨ 300 < cut2.length
    · simp only [Lt.cells]
      go_enter Try.func8, Try.ntmps8
      go_wp2_with fail
      refine (heavyB (x := (Lt.mk kind1 node1 pinc1 round1 snode1 sinc1 n1 body1 cid1 cut1 want1)) (b := false) HV1.out).mono ?_
      rintro e w1 ⟨rfl, hb1⟩
      have HS1 := Lib.hid (HS0.out.grow hb1)
      clear HS0 hb1
      have k0 := sep_ceAt (i := 1) HS1.out rfl 0 rfl
      have k1 := sep_ceAt (i := 1) HS1.out rfl 1 rfl
      have k2 := sep_ceAt (i := 1) HS1.out rfl 2 rfl
      have k3 := sep_ceAt (i := 1) HS1.out rfl 3 rfl
      have k4 := sep_ceAt (i := 1) HS1.out rfl 4 rfl
      have k5 := sep_ceAt (i := 1) HS1.out rfl 5 rfl
      have k6 := sep_ceAt (i := 1) HS1.out rfl 6 rfl
      have k7 := sep_ceAt (i := 1) HS1.out rfl 7 rfl
      have k8 := sep_ceAt (i := 1) HS1.out rfl 8 rfl
      have k9 := sep_ceAt (i := 1) HS1.out rfl 9 rfl
      have k10 := sep_ceAt (i := 1) HS1.out rfl 10 rfl
      go_wp2_with fail
      clear k0 k1 k2 k3 k4 k5 k6 k7 k8 k9 k10
      refine (heavyB (x := (Lt.mk kind2 node2 pinc2 round2 snode2 sinc2 n2 body2 cid2 cut2 want2)) (b := true) (decide_eq_true hv2)).mono ?_
      rintro e w2 ⟨rfl, hb2⟩
      have HS2 := Lib.hid (HS1.out.grow hb2)
      clear HS1 hb2
      go_wp2_with fail
      refine (awake10 _).mono ?_
      rintro e w6 ⟨rfl, hb6⟩
      go_wp2_with fail
      go_ret
      exact ⟨rfl, HS2.out.bel.trans (hb6.mono HS2.out.size)⟩
    · have HV2 := Lib.hid (show decide (3000 < body2.length ∨ 300 < cut2.length) = false from decide_eq_false hv2)
      have hl2 : body2.length ≤ 3000 := by omega
      have hm2 : cut2.length ≤ 300 := by omega
      clear hv2 hz1
      simp only [Lt.cells]
      go_enter Try.func8, Try.ntmps8
      go_wp2_with fail
      refine (heavyB (x := (Lt.mk kind1 node1 pinc1 round1 snode1 sinc1 n1 body1 cid1 cut1 want1)) (b := false) HV1.out).mono ?_
      rintro e w1 ⟨rfl, hb1⟩
      have HS1 := Lib.hid (HS0.out.grow hb1)
      clear HS0 hb1 HV1
      have k0 := sep_ceAt (i := 1) HS1.out rfl 0 rfl
      have k1 := sep_ceAt (i := 1) HS1.out rfl 1 rfl
      have k2 := sep_ceAt (i := 1) HS1.out rfl 2 rfl
      have k3 := sep_ceAt (i := 1) HS1.out rfl 3 rfl
      have k4 := sep_ceAt (i := 1) HS1.out rfl 4 rfl
      have k5 := sep_ceAt (i := 1) HS1.out rfl 5 rfl
      have k6 := sep_ceAt (i := 1) HS1.out rfl 6 rfl
      have k7 := sep_ceAt (i := 1) HS1.out rfl 7 rfl
      have k8 := sep_ceAt (i := 1) HS1.out rfl 8 rfl
      have k9 := sep_ceAt (i := 1) HS1.out rfl 9 rfl
      have k10 := sep_ceAt (i := 1) HS1.out rfl 10 rfl
      go_wp2_with fail
      clear k0 k1 k2 k3 k4 k5 k6 k7 k8 k9 k10
      refine (heavyB (x := (Lt.mk kind2 node2 pinc2 round2 snode2 sinc2 n2 body2 cid2 cut2 want2)) (b := false) HV2.out).mono ?_
      rintro e w2 ⟨rfl, hb2⟩
      have HS2 := Lib.hid (HS1.out.grow hb2)
      clear HS1 hb2 HV2
      have HL1 : Hid (body1.length ≤ 5000 ∧ cut1.length ≤ 300) := Lib.hid ⟨by omega, hm1⟩
      have HL2 : Hid (body2.length ≤ 5000 ∧ cut2.length ≤ 300) := Lib.hid ⟨by omega, hm2⟩
      clear hl1 hl2 hm1 hm2
      obtain ⟨qb, HQB⟩ : ∃ b, Hid ((Lt.mk kind1 node1 pinc1 round1 snode1 sinc1 n1 body1 cid1 cut1 want1).eqB (Lt.mk kind2 node2 pinc2 round2 snode2 sinc2 n2 body2 cid2 cut2 want2) = b) := ⟨_, Lib.hid rfl⟩
      have k0 := sep_ceAt (i := 0) HS2.out rfl 0 rfl
      have k1 := sep_ceAt (i := 0) HS2.out rfl 1 rfl
      have k2 := sep_ceAt (i := 0) HS2.out rfl 2 rfl
      have k3 := sep_ceAt (i := 0) HS2.out rfl 3 rfl
      have k4 := sep_ceAt (i := 0) HS2.out rfl 4 rfl
      have k5 := sep_ceAt (i := 0) HS2.out rfl 5 rfl
      have k6 := sep_ceAt (i := 0) HS2.out rfl 6 rfl
      have k7 := sep_ceAt (i := 0) HS2.out rfl 7 rfl
      have k8 := sep_ceAt (i := 0) HS2.out rfl 8 rfl
      have k9 := sep_ceAt (i := 0) HS2.out rfl 9 rfl
      have k10 := sep_ceAt (i := 0) HS2.out rfl 10 rfl
      go_wp2_with fail
      clear k0 k1 k2 k3 k4 k5 k6 k7 k8 k9 k10
      refine (encL_or w2 w.heap.size (Lt.mk kind1 node1 pinc1 round1 snode1 sinc1 n1 body1 cid1 cut1 want1) A1 E1 c1 d1 (HS2.out.has HA1.out) (HS2.out.has HE1.out) HS2.out.size HF1.out HU1.out HL1.out.1 HL1.out.2).mono ?_
      rintro e w3 ⟨B1, k1, P1, z1, he1, ho1, rfl, hb3⟩
      have HE1' := Lib.hid he1
      have HS3 := Lib.hid (show Sep w w3 [Ce w.heap.size 30 #[.int .i64 kind1, .int .i64 node1, .int .u64 (pinc1 : Int), .int .u64 (round1 : Int), .int .i64 snode1, .int .u64 (sinc1 : Int), .int .u64 (n1 : Int), .slice A1 body1.length c1, .int .u64 (cid1 : Int), .slice E1 cut1.length d1, .bool want1], Ce (w.heap.size + 1) 30 #[.int .i64 kind2, .int .i64 node2, .int .u64 (pinc2 : Int), .int .u64 (round2 : Int), .int .i64 snode2, .int .u64 (sinc2 : Int), .int .u64 (n2 : Int), .slice A2 body2.length c2, .int .u64 (cid2 : Int), .slice E2 cut2.length d2, .bool want2], By (.slice B1 P1.length k1) P1] from sep_newBy HS2.out ho1 hb3)
      clear HS2 ho1 hb3 he1
      have z0 := sep_ceAt (i := 1) HS3.out rfl 0 rfl
      have z1 := sep_ceAt (i := 1) HS3.out rfl 1 rfl
      have z2 := sep_ceAt (i := 1) HS3.out rfl 2 rfl
      have z3 := sep_ceAt (i := 1) HS3.out rfl 3 rfl
      have z4 := sep_ceAt (i := 1) HS3.out rfl 4 rfl
      have z5 := sep_ceAt (i := 1) HS3.out rfl 5 rfl
      have z6 := sep_ceAt (i := 1) HS3.out rfl 6 rfl
      have z7 := sep_ceAt (i := 1) HS3.out rfl 7 rfl
      have z8 := sep_ceAt (i := 1) HS3.out rfl 8 rfl
      have z9 := sep_ceAt (i := 1) HS3.out rfl 9 rfl
      have z10 := sep_ceAt (i := 1) HS3.out rfl 10 rfl
      go_wp2_with fail
      clear z0 z1 z2 z3 z4 z5 z6 z7 z8 z9 z10
      refine (encL_or w3 w.heap.size (Lt.mk kind2 node2 pinc2 round2 snode2 sinc2 n2 body2 cid2 cut2 want2) A2 E2 c2 d2 (HS3.out.has HA2.out) (HS3.out.has HE2.out) HS3.out.size HF2.out HU2.out HL2.out.1 HL2.out.2).mono ?_
      rintro e w4 ⟨B2, k2, P2, z2, he2, ho2, rfl, hb4⟩
      have HE2' := Lib.hid he2
      have HS4 := Lib.hid (show Sep w w4 [Ce w.heap.size 30 #[.int .i64 kind1, .int .i64 node1, .int .u64 (pinc1 : Int), .int .u64 (round1 : Int), .int .i64 snode1, .int .u64 (sinc1 : Int), .int .u64 (n1 : Int), .slice A1 body1.length c1, .int .u64 (cid1 : Int), .slice E1 cut1.length d1, .bool want1], Ce (w.heap.size + 1) 30 #[.int .i64 kind2, .int .i64 node2, .int .u64 (pinc2 : Int), .int .u64 (round2 : Int), .int .i64 snode2, .int .u64 (sinc2 : Int), .int .u64 (n2 : Int), .slice A2 body2.length c2, .int .u64 (cid2 : Int), .slice E2 cut2.length d2, .bool want2], By (.slice B1 P1.length k1) P1, By (.slice B2 P2.length k2) P2] from sep_newBy HS3.out ho2 hb4)
      clear HS3 ho2 hb4 he2
      rcases HE1'.out with ⟨hz1, hm1, hp1⟩ | ⟨hz1, hm1, hp1⟩
      · have HM1' := Lib.hid hm1
        have HP1 := Lib.hid hp1
        clear HE1' hm1 hp1
        rcases HE2'.out with ⟨hz2, hm2, hp2⟩ | ⟨hz2, hm2, hp2⟩
        · have HM2' := Lib.hid hm2
          have HP2 := Lib.hid hp2
          clear HE2' hm2 hp2
          subst hz1 hz2
          have HQ : Hid (decide (P1 = P2) = qb) := Lib.hid (by
            rw [← HQB.out]
            by_cases h : (Lt.mk kind1 node1 pinc1 round1 snode1 sinc1 n1 body1 cid1 cut1 want1) = (Lt.mk kind2 node2 pinc2 round2 snode2 sinc2 n2 body2 cid2 cut2 want2)
            · rw [Lt.eqB_iff.2 h, HP1.out, HP2.out, h]; simp
            · rw [Lt.eqB_ne h, decide_eq_false]
              intro e
              rw [HP1.out, HP2.out] at e
              exact h (plainL_inj HM1'.out HF1.out HM2'.out HF2.out e))
          go_wp2_with fail
          refine wp_region_f (fun dn xv W => Sep w W [Ce w.heap.size 30 #[.int .i64 kind1, .int .i64 node1, .int .u64 (pinc1 : Int), .int .u64 (round1 : Int), .int .i64 snode1, .int .u64 (sinc1 : Int), .int .u64 (n1 : Int), .slice A1 body1.length c1, .int .u64 (cid1 : Int), .slice E1 cut1.length d1, .bool want1], Ce (w.heap.size + 1) 30 #[.int .i64 kind2, .int .i64 node2, .int .u64 (pinc2 : Int), .int .u64 (round2 : Int), .int .i64 snode2, .int .u64 (sinc2 : Int), .int .u64 (n2 : Int), .slice A2 body2.length c2, .int .u64 (cid2 : Int), .slice E2 cut2.length d2, .bool want2], By (.slice B1 P1.length k1) P1, By (.slice B2 P2.length k2) P2]) (fun _ _ => True) [fun v _ => v = .slice B1 P1.length k1, fun v _ => v = .string ⟨P1.toArray⟩, fun v _ => v = .slice B2 P2.length k2, fun v _ => v = .string ⟨P2.toArray⟩, fun v _ => v = .bool qb, fun v _ => v = .agg #[.int .i64 kind1, .int .i64 node1, .int .u64 (pinc1 : Int), .int .u64 (round1 : Int), .int .i64 snode1, .int .u64 (sinc1 : Int), .int .u64 (n1 : Int), .slice A1 body1.length c1, .int .u64 (cid1 : Int), .slice E1 cut1.length d1, .bool want1], fun v _ => v = .agg #[.int .i64 kind2, .int .i64 node2, .int .u64 (pinc2 : Int), .int .u64 (round2 : Int), .int .i64 snode2, .int .u64 (sinc2 : Int), .int .u64 (n2 : Int), .slice A2 body2.length c2, .int .u64 (cid2 : Int), .slice E2 cut2.length d2, .bool want2], fun v _ => v = .bool qb, fun v _ => v = .bool true, fun v _ => v = .bool true, fun v _ => v = .agg #[.int .i64 kind1, .int .i64 node1, .int .u64 (pinc1 : Int), .int .u64 (round1 : Int), .int .i64 snode1, .int .u64 (sinc1 : Int), .int .u64 (n1 : Int), .slice A1 body1.length c1, .int .u64 (cid1 : Int), .slice E1 cut1.length d1, .bool want1], fun v _ => v = .agg #[.int .i64 kind2, .int .i64 node2, .int .u64 (pinc2 : Int), .int .u64 (round2 : Int), .int .i64 snode2, .int .u64 (sinc2 : Int), .int .u64 (n2 : Int), .slice A2 body2.length c2, .int .u64 (cid2 : Int), .slice E2 cut2.length d2, .bool want2], fun v _ => v = .bool qb, fun v _ => v = .agg #[.int .i64 kind1, .int .i64 node1, .int .u64 (pinc1 : Int), .int .u64 (round1 : Int), .int .i64 snode1, .int .u64 (sinc1 : Int), .int .u64 (n1 : Int), .slice A1 body1.length c1, .int .u64 (cid1 : Int), .slice E1 cut1.length d1, .bool want1], fun v _ => v = .agg #[.int .i64 kind2, .int .i64 node2, .int .u64 (pinc2 : Int), .int .u64 (round2 : Int), .int .i64 snode2, .int .u64 (sinc2 : Int), .int .u64 (n2 : Int), .slice A2 body2.length c2, .int .u64 (cid2 : Int), .slice E2 cut2.length d2, .bool want2], fun v _ => v = .bool qb, fun v _ => v = .bool true, fun v _ => v = .bool true, fun v _ => v = .bool true, fun v _ => v = .bool true, fun v _ => v = .bool true, fun v _ => v = .bool true] (by kernel_rfl) (by kernel_rfl) (by kernel_rfl) (by kernel_rfl) (fun xv => by simpa using HS4.out.drew)
            (by exact ⟨fun _ _ _ _ h => h, fun _ _ _ _ h => h, fun _ _ _ _ h => h, fun _ _ _ _ h => h, fun _ _ _ _ h => h, fun _ _ _ _ h => h, fun _ _ _ _ h => h, fun _ _ _ _ h => h, fun _ _ _ _ h => h, fun _ _ _ _ h => h, fun _ _ _ _ h => h, fun _ _ _ _ h => h, fun _ _ _ _ h => h, fun _ _ _ _ h => h, fun _ _ _ _ h => h, fun _ _ _ _ h => h, fun _ _ _ _ h => h, fun _ _ _ _ h => h, fun _ _ _ _ h => h, fun _ _ _ _ h => h, fun _ _ _ _ h => h, fun _ _ _ _ h => h, trivial⟩) ?_ ?_
          · refine EachF.cons 1 rfl (fun dn xv W F hF hd hN hX hI H K hK => ?_) ?_
            · have f5 : F.tmps.getD 5 undef = .slice B1 P1.length k1 := (hF 5).trans (by kernel_rfl)
              clear H hN hd hX hF
              refine on_plain rfl ?_
              go_simp
              exact hK.out _ _ rfl trivial (by simpa [upB, upd] using hI)
            refine EachF.cons 2 rfl (fun dn xv W F hF hd hN hX hI H K hK => ?_) ?_
            · have h0 : xv 0 = .slice B1 P1.length k1 := (H 0 (.edge (by kernel_rfl))).2
              have f33 : F.tmps.getD 33 undef = .slice B1 P1.length k1 := (hF 33).trans (Eq.trans (by kernel_rfl) h0)
              obtain ⟨A9, c9, e9, _, _, h9⟩ := sep_byForm (i := 2) hI rfl
              injection e9 with e9 _ e99
              subst e9 e99
              have t9 := run_str (c := k1) h9
              clear h9
              clear H hN hd hX hF
              refine on_plain rfl ?_
              go_simp
              exact hK.out _ _ rfl trivial (by simpa [upB, upd] using hI)
            refine EachF.cons 3 rfl (fun dn xv W F hF hd hN hX hI H K hK => ?_) ?_
            · have f7 : F.tmps.getD 7 undef = .slice B2 P2.length k2 := (hF 7).trans (by kernel_rfl)
              clear H hN hd hX hF
              refine on_plain rfl ?_
              go_simp
              exact hK.out _ _ rfl trivial (by simpa [upB, upd] using hI)
            refine EachF.cons 4 rfl (fun dn xv W F hF hd hN hX hI H K hK => ?_) ?_
            · have h2 : xv 2 = .slice B2 P2.length k2 := (H 2 (.edge (by kernel_rfl))).2
              have f35 : F.tmps.getD 35 undef = .slice B2 P2.length k2 := (hF 35).trans (Eq.trans (by kernel_rfl) h2)
              obtain ⟨A9, c9, e9, _, _, h9⟩ := sep_byForm (i := 3) hI rfl
              injection e9 with e9 _ e99
              subst e9 e99
              have t9 := run_str (c := k2) h9
              clear h9
              clear H hN hd hX hF
              refine on_plain rfl ?_
              go_simp
              exact hK.out _ _ rfl trivial (by simpa [upB, upd] using hI)
            refine EachF.cons 5 rfl (fun dn xv W F hF hd hN hX hI H K hK => ?_) ?_
            · have h1 : xv 1 = .string ⟨P1.toArray⟩ := (H 1 (.edge (by kernel_rfl))).2
              have f34 : F.tmps.getD 34 undef = .string ⟨P1.toArray⟩ := (hF 34).trans (Eq.trans (by kernel_rfl) h1)
              have h3 : xv 3 = .string ⟨P2.toArray⟩ := (H 3 (.edge (by kernel_rfl))).2
              have f36 : F.tmps.getD 36 undef = .string ⟨P2.toArray⟩ := (hF 36).trans (Eq.trans (by kernel_rfl) h3)
              clear H hN hd hX hF
              refine on_plain rfl ?_
              go_simp
              rw [str_eq, HQ.out]
              exact hK.out _ W rfl trivial (by simpa [upB, upd] using hI)
            refine EachF.cons 6 rfl (fun dn xv W F hF hd hN hX hI H K hK => ?_) ?_
            · have f2 : F.tmps.getD 2 undef = .pointer (some ⟨w.heap.size, 0, none⟩) := (hF 2).trans (by kernel_rfl)
              have k0 := sep_ceAt (i := 0) hI rfl 0 rfl
              have k1 := sep_ceAt (i := 0) hI rfl 1 rfl
              have k2 := sep_ceAt (i := 0) hI rfl 2 rfl
              have k3 := sep_ceAt (i := 0) hI rfl 3 rfl
              have k4 := sep_ceAt (i := 0) hI rfl 4 rfl
              have k5 := sep_ceAt (i := 0) hI rfl 5 rfl
              have k6 := sep_ceAt (i := 0) hI rfl 6 rfl
              have k7 := sep_ceAt (i := 0) hI rfl 7 rfl
              have k8 := sep_ceAt (i := 0) hI rfl 8 rfl
              have k9 := sep_ceAt (i := 0) hI rfl 9 rfl
              have k10 := sep_ceAt (i := 0) hI rfl 10 rfl
              clear H hN hd hX hF
              refine on_plain rfl ?_
              go_simp
              exact hK.out _ _ rfl trivial (by simpa [upB, upd] using hI)
            refine EachF.cons 7 rfl (fun dn xv W F hF hd hN hX hI H K hK => ?_) ?_
            · have f3 : F.tmps.getD 3 undef = .pointer (some ⟨w.heap.size + 1, 0, none⟩) := (hF 3).trans (by kernel_rfl)
              have k0 := sep_ceAt (i := 1) hI rfl 0 rfl
              have k1 := sep_ceAt (i := 1) hI rfl 1 rfl
              have k2 := sep_ceAt (i := 1) hI rfl 2 rfl
              have k3 := sep_ceAt (i := 1) hI rfl 3 rfl
              have k4 := sep_ceAt (i := 1) hI rfl 4 rfl
              have k5 := sep_ceAt (i := 1) hI rfl 5 rfl
              have k6 := sep_ceAt (i := 1) hI rfl 6 rfl
              have k7 := sep_ceAt (i := 1) hI rfl 7 rfl
              have k8 := sep_ceAt (i := 1) hI rfl 8 rfl
              have k9 := sep_ceAt (i := 1) hI rfl 9 rfl
              have k10 := sep_ceAt (i := 1) hI rfl 10 rfl
              clear H hN hd hX hF
              refine on_plain rfl ?_
              go_simp
              exact hK.out _ _ rfl trivial (by simpa [upB, upd] using hI)
            refine EachF.cons 8 rfl (fun dn xv W F hF hd hN hX hI H K hK => ?_) ?_
            · have h5 : xv 5 = .agg #[.int .i64 kind1, .int .i64 node1, .int .u64 (pinc1 : Int), .int .u64 (round1 : Int), .int .i64 snode1, .int .u64 (sinc1 : Int), .int .u64 (n1 : Int), .slice A1 body1.length c1, .int .u64 (cid1 : Int), .slice E1 cut1.length d1, .bool want1] := (H 5 (.edge (by kernel_rfl))).2
              have f38 : F.tmps.getD 38 undef = .agg #[.int .i64 kind1, .int .i64 node1, .int .u64 (pinc1 : Int), .int .u64 (round1 : Int), .int .i64 snode1, .int .u64 (sinc1 : Int), .int .u64 (n1 : Int), .slice A1 body1.length c1, .int .u64 (cid1 : Int), .slice E1 cut1.length d1, .bool want1] := (hF 38).trans (Eq.trans (by kernel_rfl) h5)
              have h6 : xv 6 = .agg #[.int .i64 kind2, .int .i64 node2, .int .u64 (pinc2 : Int), .int .u64 (round2 : Int), .int .i64 snode2, .int .u64 (sinc2 : Int), .int .u64 (n2 : Int), .slice A2 body2.length c2, .int .u64 (cid2 : Int), .slice E2 cut2.length d2, .bool want2] := (H 6 (.edge (by kernel_rfl))).2
              have f39 : F.tmps.getD 39 undef = .agg #[.int .i64 kind2, .int .i64 node2, .int .u64 (pinc2 : Int), .int .u64 (round2 : Int), .int .i64 snode2, .int .u64 (sinc2 : Int), .int .u64 (n2 : Int), .slice A2 body2.length c2, .int .u64 (cid2 : Int), .slice E2 cut2.length d2, .bool want2] := (hF 39).trans (Eq.trans (by kernel_rfl) h6)
              clear H hN hd hX hF
              refine on_plain rfl ?_
              go_simp
              refine (ref10SameB (w := W) (B := w.heap.size) (x := (Lt.mk kind1 node1 pinc1 round1 snode1 sinc1 n1 body1 cid1 cut1 want1)) (y := (Lt.mk kind2 node2 pinc2 round2 snode2 sinc2 n2 body2 cid2 cut2 want2)) (A := A1) (A2 := E1) (A' := A2) (A2' := E2) (c := c1) (c2 := d1) (c' := c2) (c2' := d2) HQB.out (hI.has HA1.out) (hI.has HE1.out) (hI.has HA2.out) (hI.has HE2.out) hI.size HL1.out.1 HL2.out.1 HL1.out.2 HL2.out.2).mono ?_
              rintro e W' ⟨rfl, hb⟩
              exact hK.out _ W' rfl trivial (by simpa [upB, upd] using hI.grow hb)
            refine EachF.cons 9 rfl (fun dn xv W F hF hd hN hX hI H K hK => ?_) ?_
            · have h4 : xv 4 = .bool qb := (H 4 (.edge (by kernel_rfl))).2
              have f37 : F.tmps.getD 37 undef = .bool qb := (hF 37).trans (Eq.trans (by kernel_rfl) h4)
              have h7 : xv 7 = .bool qb := (H 7 (.edge (by kernel_rfl))).2
              have f40 : F.tmps.getD 40 undef = .bool qb := (hF 40).trans (Eq.trans (by kernel_rfl) h7)
              clear H hN hd hX hF
              refine on_plain rfl ?_
              go_simp
              exact hK.out _ _ rfl trivial (by simpa [upB, upd] using hI)
            refine EachF.cons 10 rfl (fun dn xv W F hF hd hN hX hI H K hK => ?_) ?_
            · have h8 : xv 8 = .bool true := (H 8 (.edge (by kernel_rfl))).2
              have f41 : F.tmps.getD 41 undef = .bool true := (hF 41).trans (Eq.trans (by kernel_rfl) h8)
              clear H hN hd hX hF
              refine on_plain rfl ?_
              go_simp
              exact hK.out _ _ rfl trivial (by simpa [upB, upd] using hI)
            refine EachF.cons 11 rfl (fun dn xv W F hF hd hN hX hI H K hK => ?_) ?_
            · have f2 : F.tmps.getD 2 undef = .pointer (some ⟨w.heap.size, 0, none⟩) := (hF 2).trans (by kernel_rfl)
              have h9 : xv 9 = .bool true := (H 9 (.edge (by kernel_rfl))).2
              have f42 : F.tmps.getD 42 undef = .bool true := (hF 42).trans (Eq.trans (by kernel_rfl) h9)
              have k0 := sep_ceAt (i := 0) hI rfl 0 rfl
              have k1 := sep_ceAt (i := 0) hI rfl 1 rfl
              have k2 := sep_ceAt (i := 0) hI rfl 2 rfl
              have k3 := sep_ceAt (i := 0) hI rfl 3 rfl
              have k4 := sep_ceAt (i := 0) hI rfl 4 rfl
              have k5 := sep_ceAt (i := 0) hI rfl 5 rfl
              have k6 := sep_ceAt (i := 0) hI rfl 6 rfl
              have k7 := sep_ceAt (i := 0) hI rfl 7 rfl
              have k8 := sep_ceAt (i := 0) hI rfl 8 rfl
              have k9 := sep_ceAt (i := 0) hI rfl 9 rfl
              have k10 := sep_ceAt (i := 0) hI rfl 10 rfl
              clear H hN hd hX hF
              refine on_guard rfl (by kernel_rfl) f42 ?_
              go_simp
              exact hK.out _ _ rfl trivial (by simpa [upB, upd] using hI)
            refine EachF.cons 12 rfl (fun dn xv W F hF hd hN hX hI H K hK => ?_) ?_
            · have f3 : F.tmps.getD 3 undef = .pointer (some ⟨w.heap.size + 1, 0, none⟩) := (hF 3).trans (by kernel_rfl)
              have h9 : xv 9 = .bool true := (H 9 (.edge (by kernel_rfl))).2
              have f42 : F.tmps.getD 42 undef = .bool true := (hF 42).trans (Eq.trans (by kernel_rfl) h9)
              have k0 := sep_ceAt (i := 1) hI rfl 0 rfl
              have k1 := sep_ceAt (i := 1) hI rfl 1 rfl
              have k2 := sep_ceAt (i := 1) hI rfl 2 rfl
              have k3 := sep_ceAt (i := 1) hI rfl 3 rfl
              have k4 := sep_ceAt (i := 1) hI rfl 4 rfl
              have k5 := sep_ceAt (i := 1) hI rfl 5 rfl
              have k6 := sep_ceAt (i := 1) hI rfl 6 rfl
              have k7 := sep_ceAt (i := 1) hI rfl 7 rfl
              have k8 := sep_ceAt (i := 1) hI rfl 8 rfl
              have k9 := sep_ceAt (i := 1) hI rfl 9 rfl
              have k10 := sep_ceAt (i := 1) hI rfl 10 rfl
              clear H hN hd hX hF
              refine on_guard rfl (by kernel_rfl) f42 ?_
              go_simp
              exact hK.out _ _ rfl trivial (by simpa [upB, upd] using hI)
            refine EachF.cons 13 rfl (fun dn xv W F hF hd hN hX hI H K hK => ?_) ?_
            · have h10 : xv 10 = .agg #[.int .i64 kind1, .int .i64 node1, .int .u64 (pinc1 : Int), .int .u64 (round1 : Int), .int .i64 snode1, .int .u64 (sinc1 : Int), .int .u64 (n1 : Int), .slice A1 body1.length c1, .int .u64 (cid1 : Int), .slice E1 cut1.length d1, .bool want1] := (H 10 (.edge (by kernel_rfl))).2
              have f43 : F.tmps.getD 43 undef = .agg #[.int .i64 kind1, .int .i64 node1, .int .u64 (pinc1 : Int), .int .u64 (round1 : Int), .int .i64 snode1, .int .u64 (sinc1 : Int), .int .u64 (n1 : Int), .slice A1 body1.length c1, .int .u64 (cid1 : Int), .slice E1 cut1.length d1, .bool want1] := (hF 43).trans (Eq.trans (by kernel_rfl) h10)
              have h11 : xv 11 = .agg #[.int .i64 kind2, .int .i64 node2, .int .u64 (pinc2 : Int), .int .u64 (round2 : Int), .int .i64 snode2, .int .u64 (sinc2 : Int), .int .u64 (n2 : Int), .slice A2 body2.length c2, .int .u64 (cid2 : Int), .slice E2 cut2.length d2, .bool want2] := (H 11 (.edge (by kernel_rfl))).2
              have f44 : F.tmps.getD 44 undef = .agg #[.int .i64 kind2, .int .i64 node2, .int .u64 (pinc2 : Int), .int .u64 (round2 : Int), .int .i64 snode2, .int .u64 (sinc2 : Int), .int .u64 (n2 : Int), .slice A2 body2.length c2, .int .u64 (cid2 : Int), .slice E2 cut2.length d2, .bool want2] := (hF 44).trans (Eq.trans (by kernel_rfl) h11)
              have h9 : xv 9 = .bool true := (H 9 (.edge (by kernel_rfl))).2
              have f42 : F.tmps.getD 42 undef = .bool true := (hF 42).trans (Eq.trans (by kernel_rfl) h9)
              clear H hN hd hX hF
              refine on_guard rfl (by kernel_rfl) f42 ?_
              go_simp
              refine (sameB (w := W) (B := w.heap.size) (x := (Lt.mk kind1 node1 pinc1 round1 snode1 sinc1 n1 body1 cid1 cut1 want1)) (y := (Lt.mk kind2 node2 pinc2 round2 snode2 sinc2 n2 body2 cid2 cut2 want2)) (A := A1) (A2 := E1) (A' := A2) (A2' := E2) (c := c1) (c2 := d1) (c' := c2) (c2' := d2) HQB.out (hI.has HA1.out) (hI.has HE1.out) (hI.has HA2.out) (hI.has HE2.out) hI.size HL1.out.1 HL2.out.1 HL1.out.2 HL2.out.2).mono ?_
              rintro e W' ⟨rfl, hb⟩
              exact hK.out _ W' rfl trivial (by simpa [upB, upd] using hI.grow hb)
            refine EachF.cons 14 rfl (fun dn xv W F hF hd hN hX hI H K hK => ?_) ?_
            · have f2 : F.tmps.getD 2 undef = .pointer (some ⟨w.heap.size, 0, none⟩) := (hF 2).trans (by kernel_rfl)
              have h9 : xv 9 = .bool true := (H 9 (.edge (by kernel_rfl))).2
              have f42 : F.tmps.getD 42 undef = .bool true := (hF 42).trans (Eq.trans (by kernel_rfl) h9)
              have k0 := sep_ceAt (i := 0) hI rfl 0 rfl
              have k1 := sep_ceAt (i := 0) hI rfl 1 rfl
              have k2 := sep_ceAt (i := 0) hI rfl 2 rfl
              have k3 := sep_ceAt (i := 0) hI rfl 3 rfl
              have k4 := sep_ceAt (i := 0) hI rfl 4 rfl
              have k5 := sep_ceAt (i := 0) hI rfl 5 rfl
              have k6 := sep_ceAt (i := 0) hI rfl 6 rfl
              have k7 := sep_ceAt (i := 0) hI rfl 7 rfl
              have k8 := sep_ceAt (i := 0) hI rfl 8 rfl
              have k9 := sep_ceAt (i := 0) hI rfl 9 rfl
              have k10 := sep_ceAt (i := 0) hI rfl 10 rfl
              clear H hN hd hX hF
              refine on_guard rfl (by kernel_rfl) f42 ?_
              go_simp
              exact hK.out _ _ rfl trivial (by simpa [upB, upd] using hI)
            refine EachF.cons 15 rfl (fun dn xv W F hF hd hN hX hI H K hK => ?_) ?_
            · have f3 : F.tmps.getD 3 undef = .pointer (some ⟨w.heap.size + 1, 0, none⟩) := (hF 3).trans (by kernel_rfl)
              have h9 : xv 9 = .bool true := (H 9 (.edge (by kernel_rfl))).2
              have f42 : F.tmps.getD 42 undef = .bool true := (hF 42).trans (Eq.trans (by kernel_rfl) h9)
              have k0 := sep_ceAt (i := 1) hI rfl 0 rfl
              have k1 := sep_ceAt (i := 1) hI rfl 1 rfl
              have k2 := sep_ceAt (i := 1) hI rfl 2 rfl
              have k3 := sep_ceAt (i := 1) hI rfl 3 rfl
              have k4 := sep_ceAt (i := 1) hI rfl 4 rfl
              have k5 := sep_ceAt (i := 1) hI rfl 5 rfl
              have k6 := sep_ceAt (i := 1) hI rfl 6 rfl
              have k7 := sep_ceAt (i := 1) hI rfl 7 rfl
              have k8 := sep_ceAt (i := 1) hI rfl 8 rfl
              have k9 := sep_ceAt (i := 1) hI rfl 9 rfl
              have k10 := sep_ceAt (i := 1) hI rfl 10 rfl
              clear H hN hd hX hF
              refine on_guard rfl (by kernel_rfl) f42 ?_
              go_simp
              exact hK.out _ _ rfl trivial (by simpa [upB, upd] using hI)
            refine EachF.cons 16 rfl (fun dn xv W F hF hd hN hX hI H K hK => ?_) ?_
            · have h13 : xv 13 = .agg #[.int .i64 kind1, .int .i64 node1, .int .u64 (pinc1 : Int), .int .u64 (round1 : Int), .int .i64 snode1, .int .u64 (sinc1 : Int), .int .u64 (n1 : Int), .slice A1 body1.length c1, .int .u64 (cid1 : Int), .slice E1 cut1.length d1, .bool want1] := (H 13 (.edge (by kernel_rfl))).2
              have f46 : F.tmps.getD 46 undef = .agg #[.int .i64 kind1, .int .i64 node1, .int .u64 (pinc1 : Int), .int .u64 (round1 : Int), .int .i64 snode1, .int .u64 (sinc1 : Int), .int .u64 (n1 : Int), .slice A1 body1.length c1, .int .u64 (cid1 : Int), .slice E1 cut1.length d1, .bool want1] := (hF 46).trans (Eq.trans (by kernel_rfl) h13)
              have h14 : xv 14 = .agg #[.int .i64 kind2, .int .i64 node2, .int .u64 (pinc2 : Int), .int .u64 (round2 : Int), .int .i64 snode2, .int .u64 (sinc2 : Int), .int .u64 (n2 : Int), .slice A2 body2.length c2, .int .u64 (cid2 : Int), .slice E2 cut2.length d2, .bool want2] := (H 14 (.edge (by kernel_rfl))).2
              have f47 : F.tmps.getD 47 undef = .agg #[.int .i64 kind2, .int .i64 node2, .int .u64 (pinc2 : Int), .int .u64 (round2 : Int), .int .i64 snode2, .int .u64 (sinc2 : Int), .int .u64 (n2 : Int), .slice A2 body2.length c2, .int .u64 (cid2 : Int), .slice E2 cut2.length d2, .bool want2] := (hF 47).trans (Eq.trans (by kernel_rfl) h14)
              have h9 : xv 9 = .bool true := (H 9 (.edge (by kernel_rfl))).2
              have f42 : F.tmps.getD 42 undef = .bool true := (hF 42).trans (Eq.trans (by kernel_rfl) h9)
              clear H hN hd hX hF
              refine on_guard rfl (by kernel_rfl) f42 ?_
              go_simp
              refine (ref10SameB (w := W) (B := w.heap.size) (x := (Lt.mk kind1 node1 pinc1 round1 snode1 sinc1 n1 body1 cid1 cut1 want1)) (y := (Lt.mk kind2 node2 pinc2 round2 snode2 sinc2 n2 body2 cid2 cut2 want2)) (A := A1) (A2 := E1) (A' := A2) (A2' := E2) (c := c1) (c2 := d1) (c' := c2) (c2' := d2) HQB.out (hI.has HA1.out) (hI.has HE1.out) (hI.has HA2.out) (hI.has HE2.out) hI.size HL1.out.1 HL2.out.1 HL1.out.2 HL2.out.2).mono ?_
              rintro e W' ⟨rfl, hb⟩
              exact hK.out _ W' rfl trivial (by simpa [upB, upd] using hI.grow hb)
            refine EachF.cons 17 rfl (fun dn xv W F hF hd hN hX hI H K hK => ?_) ?_
            · have h12 : xv 12 = .bool qb := (H 12 (.edge (by kernel_rfl))).2
              have f45 : F.tmps.getD 45 undef = .bool qb := (hF 45).trans (Eq.trans (by kernel_rfl) h12)
              have h15 : xv 15 = .bool qb := (H 15 (.edge (by kernel_rfl))).2
              have f48 : F.tmps.getD 48 undef = .bool qb := (hF 48).trans (Eq.trans (by kernel_rfl) h15)
              have h9 : xv 9 = .bool true := (H 9 (.edge (by kernel_rfl))).2
              have f42 : F.tmps.getD 42 undef = .bool true := (hF 42).trans (Eq.trans (by kernel_rfl) h9)
              clear H hN hd hX hF
              refine on_guard rfl (by kernel_rfl) f42 ?_
              go_simp
              exact hK.out _ _ rfl trivial (by simpa [upB, upd] using hI)
            refine EachF.cons 18 rfl (fun dn xv W F hF hd hN hX hI H K hK => ?_) ?_
            · have h9 : xv 9 = .bool true := (H 9 (.edge (by kernel_rfl))).2
              have f42 : F.tmps.getD 42 undef = .bool true := (hF 42).trans (Eq.trans (by kernel_rfl) h9)
              have h16 : xv 16 = .bool true := (H 16 (.edge (by kernel_rfl))).2
              have f49 : F.tmps.getD 49 undef = .bool true := (hF 49).trans (Eq.trans (by kernel_rfl) h16)
              clear H hN hd hX hF
              refine on_plain rfl ?_
              go_simp
              exact hK.out _ _ rfl trivial (by simpa [upB, upd] using hI)
            refine EachF.cons 19 rfl (fun dn xv W F hF hd hN hX hI H K hK => ?_) ?_
            · have h17 : xv 17 = .bool true := (H 17 (.edge (by kernel_rfl))).2
              have f50 : F.tmps.getD 50 undef = .bool true := (hF 50).trans (Eq.trans (by kernel_rfl) h17)
              clear H hN hd hX hF
              refine on_plain rfl ?_
              go_simp
              exact hK.out _ _ rfl trivial (by simpa [upB, upd] using hI)
            refine EachF.cons 20 rfl (fun dn xv W F hF hd hN hX hI H K hK => ?_) ?_
            · have h18 : xv 18 = .bool true := (H 18 (.edge (by kernel_rfl))).2
              have f51 : F.tmps.getD 51 undef = .bool true := (hF 51).trans (Eq.trans (by kernel_rfl) h18)
              clear H hN hd hX hF
              refine on_guard rfl (by kernel_rfl) f51 ?_
              go_simp
              refine (awake10 W).mono ?_
              rintro e W' ⟨rfl, hb⟩
              exact hK.out _ W' rfl trivial (by simpa [upB, upd] using hI.grow hb)
            refine EachF.cons 21 rfl (fun dn xv W F hF hd hN hX hI H K hK => ?_) ?_
            · have h18 : xv 18 = .bool true := (H 18 (.edge (by kernel_rfl))).2
              have f51 : F.tmps.getD 51 undef = .bool true := (hF 51).trans (Eq.trans (by kernel_rfl) h18)
              have h19 : xv 19 = .bool true := (H 19 (.edge (by kernel_rfl))).2
              have f52 : F.tmps.getD 52 undef = .bool true := (hF 52).trans (Eq.trans (by kernel_rfl) h19)
              clear H hN hd hX hF
              refine on_plain rfl ?_
              go_simp
              exact hK.out _ _ rfl trivial (by simpa [upB, upd] using hI)
            refine EachF.cons 22 rfl (fun dn xv W F hF hd hN hX hI H K hK => ?_) ?_
            · have h20 : xv 20 = .bool true := (H 20 (.edge (by kernel_rfl))).2
              have f53 : F.tmps.getD 53 undef = .bool true := (hF 53).trans (Eq.trans (by kernel_rfl) h20)
              clear H hN hd hX hF
              refine on_plain rfl ?_
              go_simp
              exact hK.out _ _ rfl trivial (by simpa [upB, upd] using hI)
            exact EachF.nil
          · intro dn xv W hI H
            have q21 : xv 21 = .bool true := (H 21 (of_decide_eq_true (by kernel_rfl))).2
            have hS : Sep w W [Ce w.heap.size 30 #[.int .i64 kind1, .int .i64 node1, .int .u64 (pinc1 : Int), .int .u64 (round1 : Int), .int .i64 snode1, .int .u64 (sinc1 : Int), .int .u64 (n1 : Int), .slice A1 body1.length c1, .int .u64 (cid1 : Int), .slice E1 cut1.length d1, .bool want1], Ce (w.heap.size + 1) 30 #[.int .i64 kind2, .int .i64 node2, .int .u64 (pinc2 : Int), .int .u64 (round2 : Int), .int .i64 snode2, .int .u64 (sinc2 : Int), .int .u64 (n2 : Int), .slice A2 body2.length c2, .int .u64 (cid2 : Int), .slice E2 cut2.length d2, .bool want2], By (.slice B1 P1.length k1) P1, By (.slice B2 P2.length k2) P2] := hI
            clear H hI
            simp only [putAll, Act.put, List.setIfInBounds_toArray, List.set_cons_zero, List.set_cons_succ, Nat.reduceAdd, q21]
            clear q21
            go_wp2_with fail
            go_ret
            exact ⟨rfl, hS.bel⟩
        · subst hz1 hz2
          clear HE2' hm2 hp2
          go_wp2_with fail
          refine (awake10 _).mono ?_
          rintro e w6 ⟨rfl, hb6⟩
          go_wp2_with fail
          go_ret
          exact ⟨rfl, HS4.out.bel.trans (hb6.mono HS4.out.size)⟩
      · subst hz1
        clear HE1' hm1 hp1
        go_wp2_with fail
        refine (awake10 _).mono ?_
        rintro e w6 ⟨rfl, hb6⟩
        go_wp2_with fail
        go_ret
        exact ⟨rfl, HS4.out.bel.trans (hb6.mono HS4.out.size)⟩
end Go.Proofs.Ytbnjlminjopaaaa
