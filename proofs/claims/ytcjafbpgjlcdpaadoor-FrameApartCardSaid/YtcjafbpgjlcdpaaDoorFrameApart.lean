/- The walk of the law FrameApart. -/
import Derived.Test.YtcjafbpgjlcdpaaDoorFrmW
import Derived.Test.YtcjafbpgjlcdpaaDoorRgF
namespace Go.Proofs.YtcjafbpgjlcdpaaDoor
open Go Go.RowKit
set_option linter.unusedVariables false
set_option maxRecDepth 100000
set_option linter.unusedSimpArgs false

/-- what Encode answers, either way -/
theorem enc_or (w : World) (hT : Table w) (B : Nat) (f : Fr) (A : Option Addr) (c : Nat) (hA : Has w B A (us f.body)) (hB : B ≤ w.heap.size) (hl : f.body.length ≤ maxLen) :
    Calls Tryd.prog 14 #[.agg (f.cells A c)] w fun e w' => ∃ A1 c1 P z, ((z = 0 ∧ f.may = true ∧ P = Crc.sealed f.plain) ∨ (z = 3 ∧ f.may = false ∧ P = [])) ∧ Own w' w.heap.size (.slice A1 P.length c1) P ∧ e = .returned (.tuple #[.slice A1 P.length c1, .int .i64 z]) ∧ Below w.heap.size w w' := by
  cases hm : f.may with
  | true =>
    refine (encode_yes w hT B f A c hA hB hm).mono ?_
    rintro e w' ⟨v, rfl, ho, hb⟩
    obtain ⟨A1, c1, rfl, _, _, _⟩ := ho.form
    exact ⟨A1, c1, _, 0, .inl ⟨rfl, rfl, rfl⟩, ho, rfl, hb⟩
  | false =>
    refine (encode_no w f A c hl hm).mono ?_
    rintro e w' ⟨rfl, hb⟩
    exact ⟨none, 0, [], 3, .inr ⟨rfl, rfl, rfl⟩, Own.nil _ _, rfl, hb⟩
set_option maxHeartbeats 6400000 in
theorem frameApart_walk (w : World) (hT : Table w) (kind1 fr1 to1 : Int) (inc1 conn1 pinc1 pconn1 ack1 seq1 : Nat) (A1 : Option Addr) (c1 : Nat) (body1 : List UInt8) (kind2 fr2 to2 : Int) (inc2 conn2 pinc2 pconn2 ack2 seq2 : Nat) (A2 : Option Addr) (c2 : Nat) (body2 : List UInt8) (hA1 : Has w w.heap.size A1 (us body1)) (hx1 : inc1 < 18446744073709551616 ∧ conn1 < 18446744073709551616 ∧ pinc1 < 18446744073709551616 ∧ pconn1 < 18446744073709551616 ∧ ack1 < 18446744073709551616 ∧ seq1 < 18446744073709551616) (hc1 : body1.length ≤ c1) (hm1 : c1 ≤ maxLen) (hr1 : body1.length ≤ 140737488355328) (hA2 : Has w w.heap.size A2 (us body2)) (hx2 : inc2 < 18446744073709551616 ∧ conn2 < 18446744073709551616 ∧ pinc2 < 18446744073709551616 ∧ pconn2 < 18446744073709551616 ∧ ack2 < 18446744073709551616 ∧ seq2 < 18446744073709551616) (hc2 : body2.length ≤ c2) (hm2 : c2 ≤ maxLen) (hr2 : body2.length ≤ 140737488355328) :
    Calls Tryd.prog 9 #[.agg ((Fr.mk kind1 fr1 to1 inc1 conn1 pinc1 pconn1 ack1 seq1 body1).cells A1 c1), .agg ((Fr.mk kind2 fr2 to2 inc2 conn2 pinc2 pconn2 ack2 seq2 body2).cells A2 c2)] w fun e w' => e = .returned (.bool true) ∧ Below w.heap.size w w' := by
  have HT := Lib.hid hT
  have HA1 := Lib.hid hA1
  have HA2 := Lib.hid hA2
  have HL1 : Hid (body1.length ≤ maxLen) := Lib.hid (Nat.le_trans hc1 hm1)
  have HL2 : Hid (body2.length ≤ maxLen) := Lib.hid (Nat.le_trans hc2 hm2)
  clear hT hA1 hc1 hm1 hx1 hA2 hc2 hm2 hx2
  have HS0 := Lib.hid (show Sep w ((w.alloc (.cells #[.int .i64 kind1, .int .i64 fr1, .int .i64 to1, .int .u64 (inc1 : Int), .int .u64 (conn1 : Int), .int .u64 (pinc1 : Int), .int .u64 (pconn1 : Int), .int .u64 (ack1 : Int), .int .u64 (seq1 : Int), .slice A1 body1.length c1] 25)).alloc (.cells #[.int .i64 kind2, .int .i64 fr2, .int .i64 to2, .int .u64 (inc2 : Int), .int .u64 (conn2 : Int), .int .u64 (pinc2 : Int), .int .u64 (pconn2 : Int), .int .u64 (ack2 : Int), .int .u64 (seq2 : Int), .slice A2 body2.length c2] 25)) [Ce w.heap.size 25 #[.int .i64 kind1, .int .i64 fr1, .int .i64 to1, .int .u64 (inc1 : Int), .int .u64 (conn1 : Int), .int .u64 (pinc1 : Int), .int .u64 (pconn1 : Int), .int .u64 (ack1 : Int), .int .u64 (seq1 : Int), .slice A1 body1.length c1], Ce (w.heap.size + 1) 25 #[.int .i64 kind2, .int .i64 fr2, .int .i64 to2, .int .u64 (inc2 : Int), .int .u64 (conn2 : Int), .int .u64 (pinc2 : Int), .int .u64 (pconn2 : Int), .int .u64 (ack2 : Int), .int .u64 (seq2 : Int), .slice A2 body2.length c2]] by
    have := sep_ce (sep_ce (Sep.nil w) #[.int .i64 kind1, .int .i64 fr1, .int .i64 to1, .int .u64 (inc1 : Int), .int .u64 (conn1 : Int), .int .u64 (pinc1 : Int), .int .u64 (pconn1 : Int), .int .u64 (ack1 : Int), .int .u64 (seq1 : Int), .slice A1 body1.length c1] 25) #[.int .i64 kind2, .int .i64 fr2, .int .i64 to2, .int .u64 (inc2 : Int), .int .u64 (conn2 : Int), .int .u64 (pinc2 : Int), .int .u64 (pconn2 : Int), .int .u64 (ack2 : Int), .int .u64 (seq2 : Int), .slice A2 body2.length c2] 25
    simp only [World.size_alloc] at this
    exact this)
  by_cases hl : 4096 < body1.length ∨ 4096 < body2.length
  · by_cases hl1 : 4096 < body1.length
    · simp only [Fr.cells]
      go_enter Tryd.func9, Tryd.ntmps9
      go_wp2_with fail
      refine (awake5 _ (HT.out.below HS0.out.bel HT.out.lt)).mono ?_
      rintro e w6 ⟨rfl, hb6⟩
      go_wp2_with fail
      go_ret
      exact ⟨rfl, HS0.out.bel.trans (hb6.mono HS0.out.size)⟩
    · have hl2 : 4096 < body2.length := by omega
      simp only [Fr.cells]
      go_enter Tryd.func9, Tryd.ntmps9
      go_wp2_with fail
      refine (awake5 _ (HT.out.below HS0.out.bel HT.out.lt)).mono ?_
      rintro e w6 ⟨rfl, hb6⟩
      go_wp2_with fail
      go_ret
      exact ⟨rfl, HS0.out.bel.trans (hb6.mono HS0.out.size)⟩
  · have hl1 : body1.length ≤ 4096 := by omega
    have hl2 : body2.length ≤ 4096 := by omega
    clear hl
    obtain ⟨m1, HM1⟩ : ∃ b, Hid ((Fr.mk kind1 fr1 to1 inc1 conn1 pinc1 pconn1 ack1 seq1 body1).may = b) := ⟨_, Lib.hid rfl⟩
    obtain ⟨m2, HM2⟩ : ∃ b, Hid ((Fr.mk kind2 fr2 to2 inc2 conn2 pinc2 pconn2 ack2 seq2 body2).may = b) := ⟨_, Lib.hid rfl⟩
    have he := enc_or ((w.alloc (.cells #[.int .i64 kind1, .int .i64 fr1, .int .i64 to1, .int .u64 (inc1 : Int), .int .u64 (conn1 : Int), .int .u64 (pinc1 : Int), .int .u64 (pconn1 : Int), .int .u64 (ack1 : Int), .int .u64 (seq1 : Int), .slice A1 body1.length c1] 25)).alloc (.cells #[.int .i64 kind2, .int .i64 fr2, .int .i64 to2, .int .u64 (inc2 : Int), .int .u64 (conn2 : Int), .int .u64 (pinc2 : Int), .int .u64 (pconn2 : Int), .int .u64 (ack2 : Int), .int .u64 (seq2 : Int), .slice A2 body2.length c2] 25)) (HT.out.below HS0.out.bel HT.out.lt) w.heap.size (Fr.mk kind1 fr1 to1 inc1 conn1 pinc1 pconn1 ack1 seq1 body1) A1 c1 (HS0.out.has HA1.out) HS0.out.size HL1.out
    simp only [Fr.cells] at he ⊢
    go_enter Tryd.func9, Tryd.ntmps9
    go_wp2_with fail
    refine he.mono ?_
    clear he
    rintro e w1 ⟨B1, d1, P1, z1, he1, ho1, rfl, hb1⟩
    have HE1 := Lib.hid he1
    have HS1 := Lib.hid (show Sep w w1 [Ce w.heap.size 25 #[.int .i64 kind1, .int .i64 fr1, .int .i64 to1, .int .u64 (inc1 : Int), .int .u64 (conn1 : Int), .int .u64 (pinc1 : Int), .int .u64 (pconn1 : Int), .int .u64 (ack1 : Int), .int .u64 (seq1 : Int), .slice A1 body1.length c1], Ce (w.heap.size + 1) 25 #[.int .i64 kind2, .int .i64 fr2, .int .i64 to2, .int .u64 (inc2 : Int), .int .u64 (conn2 : Int), .int .u64 (pinc2 : Int), .int .u64 (pconn2 : Int), .int .u64 (ack2 : Int), .int .u64 (seq2 : Int), .slice A2 body2.length c2], By (.slice B1 P1.length d1) P1] from sep_new5 HS0.out ho1 hb1)
    clear HS0 ho1 hb1 he1
    have k0 := sep_ceAt (i := 1) HS1.out rfl 0 rfl
    have k1 := sep_ceAt (i := 1) HS1.out rfl 1 rfl
    have k2 := sep_ceAt (i := 1) HS1.out rfl 2 rfl
    have k3 := sep_ceAt (i := 1) HS1.out rfl 3 rfl
    have k4 := sep_ceAt (i := 1) HS1.out rfl 4 rfl
    have k5 := sep_ceAt (i := 1) HS1.out rfl 5 rfl
    have k6 := sep_ceAt (i := 1) HS1.out rfl 6 rfl
    have k7 := sep_ceAt (i := 1) HS1.out rfl 7 rfl
    have k8 := sep_ceAt (i := 1) HS1.out rfl 8 rfl
    have k9 := sep_ceAt (i := 1) HS1.out rfl 9 rfl
    go_wp2_with fail
    clear k0 k1 k2 k3 k4 k5 k6 k7 k8 k9
    refine (enc_or w1 (HT.out.below HS1.out.bel HT.out.lt) w.heap.size (Fr.mk kind2 fr2 to2 inc2 conn2 pinc2 pconn2 ack2 seq2 body2) A2 c2 (HS1.out.has HA2.out) HS1.out.size HL2.out).mono ?_
    rintro e w2 ⟨B2, d2, P2, z2, he2, ho2, rfl, hb2⟩
    have HE2 := Lib.hid he2
    have HS2 := Lib.hid (show Sep w w2 [Ce w.heap.size 25 #[.int .i64 kind1, .int .i64 fr1, .int .i64 to1, .int .u64 (inc1 : Int), .int .u64 (conn1 : Int), .int .u64 (pinc1 : Int), .int .u64 (pconn1 : Int), .int .u64 (ack1 : Int), .int .u64 (seq1 : Int), .slice A1 body1.length c1], Ce (w.heap.size + 1) 25 #[.int .i64 kind2, .int .i64 fr2, .int .i64 to2, .int .u64 (inc2 : Int), .int .u64 (conn2 : Int), .int .u64 (pinc2 : Int), .int .u64 (pconn2 : Int), .int .u64 (ack2 : Int), .int .u64 (seq2 : Int), .slice A2 body2.length c2], By (.slice B1 P1.length d1) P1, By (.slice B2 P2.length d2) P2] from sep_new5 HS1.out ho2 hb2)
    clear HS1 ho2 hb2 he2
    rcases HE1.out with ⟨hz1, hm1, hp1⟩ | ⟨hz1, hm1, hp1⟩
    · have HM1' := Lib.hid hm1
      have HP1 := Lib.hid hp1
      clear HE1 hm1 hp1
      rcases HE2.out with ⟨hz2, hm2, hp2⟩ | ⟨hz2, hm2, hp2⟩
      · have HM2' := Lib.hid hm2
        have HP2 := Lib.hid hp2
        clear HE2 hm2 hp2
        subst hz1 hz2
        go_wp2_with fail
        have HQ : Hid (decide (P1 = P2) = (Fr.mk kind1 fr1 to1 inc1 conn1 pinc1 pconn1 ack1 seq1 body1).eqB (Fr.mk kind2 fr2 to2 inc2 conn2 pinc2 pconn2 ack2 seq2 body2)) := Lib.hid (by
          by_cases h : (Fr.mk kind1 fr1 to1 inc1 conn1 pinc1 pconn1 ack1 seq1 body1) = (Fr.mk kind2 fr2 to2 inc2 conn2 pinc2 pconn2 ack2 seq2 body2)
          · rw [Fr.eqB_iff.2 h, HP1.out, HP2.out, h]; simp
          · rw [Fr.eqB_ne h, decide_eq_false]
            intro e
            rw [HP1.out, HP2.out] at e
            exact h (plain_inj HM1'.out HM2'.out (sealed_inj e)))
        obtain ⟨qb, HQB⟩ : ∃ b, Hid ((Fr.mk kind1 fr1 to1 inc1 conn1 pinc1 pconn1 ack1 seq1 body1).eqB (Fr.mk kind2 fr2 to2 inc2 conn2 pinc2 pconn2 ack2 seq2 body2) = b) := ⟨_, Lib.hid rfl⟩
        rw [HQB.out] at HQ
        refine wp_region_f (fun dn xv W => Sep w W [Ce w.heap.size 25 #[.int .i64 kind1, .int .i64 fr1, .int .i64 to1, .int .u64 (inc1 : Int), .int .u64 (conn1 : Int), .int .u64 (pinc1 : Int), .int .u64 (pconn1 : Int), .int .u64 (ack1 : Int), .int .u64 (seq1 : Int), .slice A1 body1.length c1], Ce (w.heap.size + 1) 25 #[.int .i64 kind2, .int .i64 fr2, .int .i64 to2, .int .u64 (inc2 : Int), .int .u64 (conn2 : Int), .int .u64 (pinc2 : Int), .int .u64 (pconn2 : Int), .int .u64 (ack2 : Int), .int .u64 (seq2 : Int), .slice A2 body2.length c2], By (.slice B1 P1.length d1) P1, By (.slice B2 P2.length d2) P2]) (fun _ _ => True) [fun v _ => v = .slice B1 P1.length d1, fun v _ => v = .string ⟨P1.toArray⟩, fun v _ => v = .slice B2 P2.length d2, fun v _ => v = .string ⟨P2.toArray⟩, fun v _ => v = .bool qb, fun v _ => v = .agg #[.int .i64 kind1, .int .i64 fr1, .int .i64 to1, .int .u64 (inc1 : Int), .int .u64 (conn1 : Int), .int .u64 (pinc1 : Int), .int .u64 (pconn1 : Int), .int .u64 (ack1 : Int), .int .u64 (seq1 : Int), .slice A1 body1.length c1], fun v _ => v = .agg #[.int .i64 kind2, .int .i64 fr2, .int .i64 to2, .int .u64 (inc2 : Int), .int .u64 (conn2 : Int), .int .u64 (pinc2 : Int), .int .u64 (pconn2 : Int), .int .u64 (ack2 : Int), .int .u64 (seq2 : Int), .slice A2 body2.length c2], fun v _ => v = .bool qb, fun v _ => v = .bool true, fun v _ => v = .bool true, fun v _ => v = .bool true, fun v _ => v = .bool true, fun v _ => v = .bool true] (by kernel_rfl) (by kernel_rfl) (by kernel_rfl) (by kernel_rfl) (fun xv => by simpa using HS2.out.drew)
          (by exact ⟨fun _ _ _ _ h => h, fun _ _ _ _ h => h, fun _ _ _ _ h => h, fun _ _ _ _ h => h, fun _ _ _ _ h => h, fun _ _ _ _ h => h, fun _ _ _ _ h => h, fun _ _ _ _ h => h, fun _ _ _ _ h => h, fun _ _ _ _ h => h, fun _ _ _ _ h => h, fun _ _ _ _ h => h, fun _ _ _ _ h => h, trivial⟩) ?_ ?_
        · refine EachF.cons 1 rfl (fun dn xv W F hF hd hN hX hI H K hK => ?_) ?_
          · have f5 : F.tmps.getD 5 undef = .slice B1 P1.length d1 := (hF 5).trans (by kernel_rfl)
            clear H hN hd hX hF
            refine on_plain rfl ?_
            go_simp
            exact hK.out _ _ rfl trivial (by simpa [upB, upd] using hI)
          refine EachF.cons 2 rfl (fun dn xv W F hF hd hN hX hI H K hK => ?_) ?_
          · have h0 : xv 0 = .slice B1 P1.length d1 := (H 0 (.edge (by kernel_rfl))).2
            have f37 : F.tmps.getD 37 undef = .slice B1 P1.length d1 := (hF 37).trans (Eq.trans (by kernel_rfl) h0)
            obtain ⟨A9, c9, e9, _, _, h9⟩ := sep_byForm (i := 2) hI rfl
            injection e9 with e9 _ e99
            subst e9 e99
            have t9 := run_str (c := d1) h9
            clear h9
            clear H hN hd hX hF
            refine on_plain rfl ?_
            go_simp
            exact hK.out _ _ rfl trivial (by simpa [upB, upd] using hI)
          refine EachF.cons 3 rfl (fun dn xv W F hF hd hN hX hI H K hK => ?_) ?_
          · have f7 : F.tmps.getD 7 undef = .slice B2 P2.length d2 := (hF 7).trans (by kernel_rfl)
            clear H hN hd hX hF
            refine on_plain rfl ?_
            go_simp
            exact hK.out _ _ rfl trivial (by simpa [upB, upd] using hI)
          refine EachF.cons 4 rfl (fun dn xv W F hF hd hN hX hI H K hK => ?_) ?_
          · have h2 : xv 2 = .slice B2 P2.length d2 := (H 2 (.edge (by kernel_rfl))).2
            have f39 : F.tmps.getD 39 undef = .slice B2 P2.length d2 := (hF 39).trans (Eq.trans (by kernel_rfl) h2)
            obtain ⟨A9, c9, e9, _, _, h9⟩ := sep_byForm (i := 3) hI rfl
            injection e9 with e9 _ e99
            subst e9 e99
            have t9 := run_str (c := d2) h9
            clear h9
            clear H hN hd hX hF
            refine on_plain rfl ?_
            go_simp
            exact hK.out _ _ rfl trivial (by simpa [upB, upd] using hI)
          refine EachF.cons 5 rfl (fun dn xv W F hF hd hN hX hI H K hK => ?_) ?_
          · have h1 : xv 1 = .string ⟨P1.toArray⟩ := (H 1 (.edge (by kernel_rfl))).2
            have f38 : F.tmps.getD 38 undef = .string ⟨P1.toArray⟩ := (hF 38).trans (Eq.trans (by kernel_rfl) h1)
            have h3 : xv 3 = .string ⟨P2.toArray⟩ := (H 3 (.edge (by kernel_rfl))).2
            have f40 : F.tmps.getD 40 undef = .string ⟨P2.toArray⟩ := (hF 40).trans (Eq.trans (by kernel_rfl) h3)
            clear H hN hd hX hF
            refine on_plain rfl ?_
            go_simp
            rw [str_eq, HQ.out]
            exact hK.out _ W rfl trivial (by simpa [upB, upd] using hI)
          refine EachF.cons 6 rfl (fun dn xv W F hF hd hN hX hI H K hK => ?_) ?_
          · have f2 : F.tmps.getD 2 undef = .pointer (some ⟨w.heap.size, 0, none⟩) := (hF 2).trans (by kernel_rfl)
            have k0 := sep_ceAt (i := 0) hI rfl 0 rfl
            have k1 := sep_ceAt (i := 0) hI rfl 1 rfl
            have k2 := sep_ceAt (i := 0) hI rfl 2 rfl
            have k3 := sep_ceAt (i := 0) hI rfl 3 rfl
            have k4 := sep_ceAt (i := 0) hI rfl 4 rfl
            have k5 := sep_ceAt (i := 0) hI rfl 5 rfl
            have k6 := sep_ceAt (i := 0) hI rfl 6 rfl
            have k7 := sep_ceAt (i := 0) hI rfl 7 rfl
            have k8 := sep_ceAt (i := 0) hI rfl 8 rfl
            have k9 := sep_ceAt (i := 0) hI rfl 9 rfl
            clear H hN hd hX hF
            refine on_plain rfl ?_
            go_simp
            exact hK.out _ _ rfl trivial (by simpa [upB, upd] using hI)
          refine EachF.cons 7 rfl (fun dn xv W F hF hd hN hX hI H K hK => ?_) ?_
          · have f3 : F.tmps.getD 3 undef = .pointer (some ⟨w.heap.size + 1, 0, none⟩) := (hF 3).trans (by kernel_rfl)
            have k0 := sep_ceAt (i := 1) hI rfl 0 rfl
            have k1 := sep_ceAt (i := 1) hI rfl 1 rfl
            have k2 := sep_ceAt (i := 1) hI rfl 2 rfl
            have k3 := sep_ceAt (i := 1) hI rfl 3 rfl
            have k4 := sep_ceAt (i := 1) hI rfl 4 rfl
            have k5 := sep_ceAt (i := 1) hI rfl 5 rfl
            have k6 := sep_ceAt (i := 1) hI rfl 6 rfl
            have k7 := sep_ceAt (i := 1) hI rfl 7 rfl
            have k8 := sep_ceAt (i := 1) hI rfl 8 rfl
            have k9 := sep_ceAt (i := 1) hI rfl 9 rfl
            clear H hN hd hX hF
            refine on_plain rfl ?_
            go_simp
            exact hK.out _ _ rfl trivial (by simpa [upB, upd] using hI)
          refine EachF.cons 8 rfl (fun dn xv W F hF hd hN hX hI H K hK => ?_) ?_
          · have h5 : xv 5 = .agg #[.int .i64 kind1, .int .i64 fr1, .int .i64 to1, .int .u64 (inc1 : Int), .int .u64 (conn1 : Int), .int .u64 (pinc1 : Int), .int .u64 (pconn1 : Int), .int .u64 (ack1 : Int), .int .u64 (seq1 : Int), .slice A1 body1.length c1] := (H 5 (.edge (by kernel_rfl))).2
            have f42 : F.tmps.getD 42 undef = .agg #[.int .i64 kind1, .int .i64 fr1, .int .i64 to1, .int .u64 (inc1 : Int), .int .u64 (conn1 : Int), .int .u64 (pinc1 : Int), .int .u64 (pconn1 : Int), .int .u64 (ack1 : Int), .int .u64 (seq1 : Int), .slice A1 body1.length c1] := (hF 42).trans (Eq.trans (by kernel_rfl) h5)
            have h6 : xv 6 = .agg #[.int .i64 kind2, .int .i64 fr2, .int .i64 to2, .int .u64 (inc2 : Int), .int .u64 (conn2 : Int), .int .u64 (pinc2 : Int), .int .u64 (pconn2 : Int), .int .u64 (ack2 : Int), .int .u64 (seq2 : Int), .slice A2 body2.length c2] := (H 6 (.edge (by kernel_rfl))).2
            have f43 : F.tmps.getD 43 undef = .agg #[.int .i64 kind2, .int .i64 fr2, .int .i64 to2, .int .u64 (inc2 : Int), .int .u64 (conn2 : Int), .int .u64 (pinc2 : Int), .int .u64 (pconn2 : Int), .int .u64 (ack2 : Int), .int .u64 (seq2 : Int), .slice A2 body2.length c2] := (hF 43).trans (Eq.trans (by kernel_rfl) h6)
            clear H hN hd hX hF
            refine on_plain rfl ?_
            go_simp
            refine (same5_any W w.heap.size (Fr.mk kind1 fr1 to1 inc1 conn1 pinc1 pconn1 ack1 seq1 body1) (Fr.mk kind2 fr2 to2 inc2 conn2 pinc2 pconn2 ack2 seq2 body2) A1 A2 c1 c2 (hI.has HA1.out) (hI.has HA2.out) hI.size HL1.out HL2.out).mono ?_
            rintro e W' ⟨rfl, hb⟩
            rw [HQB.out]
            exact hK.out _ W' rfl trivial (by simpa [upB, upd] using hI.grow hb)
          refine EachF.cons 9 rfl (fun dn xv W F hF hd hN hX hI H K hK => ?_) ?_
          · have h4 : xv 4 = .bool qb := (H 4 (.edge (by kernel_rfl))).2
            have f41 : F.tmps.getD 41 undef = .bool qb := (hF 41).trans (Eq.trans (by kernel_rfl) h4)
            have h7 : xv 7 = .bool qb := (H 7 (.edge (by kernel_rfl))).2
            have f44 : F.tmps.getD 44 undef = .bool qb := (hF 44).trans (Eq.trans (by kernel_rfl) h7)
            clear H hN hd hX hF
            refine on_plain rfl ?_
            go_simp
            exact hK.out _ _ rfl trivial (by simpa [upB, upd] using hI)
          refine EachF.cons 10 rfl (fun dn xv W F hF hd hN hX hI H K hK => ?_) ?_
          · have h8 : xv 8 = .bool true := (H 8 (.edge (by kernel_rfl))).2
            have f45 : F.tmps.getD 45 undef = .bool true := (hF 45).trans (Eq.trans (by kernel_rfl) h8)
            clear H hN hd hX hF
            refine on_plain rfl ?_
            go_simp
            exact hK.out _ _ rfl trivial (by simpa [upB, upd] using hI)
          refine EachF.cons 11 rfl (fun dn xv W F hF hd hN hX hI H K hK => ?_) ?_
          · have h9 : xv 9 = .bool true := (H 9 (.edge (by kernel_rfl))).2
            have f46 : F.tmps.getD 46 undef = .bool true := (hF 46).trans (Eq.trans (by kernel_rfl) h9)
            clear H hN hd hX hF
            refine on_guard rfl (by kernel_rfl) f46 ?_
            go_simp
            refine (awake5 W (HT.out.below hI.bel HT.out.lt)).mono ?_
            rintro e W' ⟨rfl, hb⟩
            exact hK.out _ W' rfl trivial (by simpa [upB, upd] using hI.grow hb)
          refine EachF.cons 12 rfl (fun dn xv W F hF hd hN hX hI H K hK => ?_) ?_
          · have h9 : xv 9 = .bool true := (H 9 (.edge (by kernel_rfl))).2
            have f46 : F.tmps.getD 46 undef = .bool true := (hF 46).trans (Eq.trans (by kernel_rfl) h9)
            have h10 : xv 10 = .bool true := (H 10 (.edge (by kernel_rfl))).2
            have f47 : F.tmps.getD 47 undef = .bool true := (hF 47).trans (Eq.trans (by kernel_rfl) h10)
            clear H hN hd hX hF
            refine on_plain rfl ?_
            go_simp
            exact hK.out _ _ rfl trivial (by simpa [upB, upd] using hI)
          refine EachF.cons 13 rfl (fun dn xv W F hF hd hN hX hI H K hK => ?_) ?_
          · have h11 : xv 11 = .bool true := (H 11 (.edge (by kernel_rfl))).2
            have f48 : F.tmps.getD 48 undef = .bool true := (hF 48).trans (Eq.trans (by kernel_rfl) h11)
            clear H hN hd hX hF
            refine on_plain rfl ?_
            go_simp
            exact hK.out _ _ rfl trivial (by simpa [upB, upd] using hI)
          exact EachF.nil
        · intro dn xv W hI H
          have q12 : xv 12 = .bool true := (H 12 (of_decide_eq_true (by kernel_rfl))).2
          have hS : Sep w W [Ce w.heap.size 25 #[.int .i64 kind1, .int .i64 fr1, .int .i64 to1, .int .u64 (inc1 : Int), .int .u64 (conn1 : Int), .int .u64 (pinc1 : Int), .int .u64 (pconn1 : Int), .int .u64 (ack1 : Int), .int .u64 (seq1 : Int), .slice A1 body1.length c1], Ce (w.heap.size + 1) 25 #[.int .i64 kind2, .int .i64 fr2, .int .i64 to2, .int .u64 (inc2 : Int), .int .u64 (conn2 : Int), .int .u64 (pinc2 : Int), .int .u64 (pconn2 : Int), .int .u64 (ack2 : Int), .int .u64 (seq2 : Int), .slice A2 body2.length c2], By (.slice B1 P1.length d1) P1, By (.slice B2 P2.length d2) P2] := hI
          clear H hI
          simp only [putAll, Act.put, List.setIfInBounds_toArray, List.set_cons_zero, List.set_cons_succ, Nat.reduceAdd, q12]
          clear q12
          go_wp2_with fail
          go_ret
          exact ⟨rfl, hS.bel⟩
      · subst hz1 hz2
        clear HE2
        go_wp2_with fail
        refine (awake5 _ (HT.out.below HS2.out.bel HT.out.lt)).mono ?_
        rintro e w6 ⟨rfl, hb6⟩
        go_wp2_with fail
        go_ret
        exact ⟨rfl, HS2.out.bel.trans (hb6.mono HS2.out.size)⟩
    · subst hz1
      clear HE1
      go_wp2_with fail
      refine (awake5 _ (HT.out.below HS2.out.bel HT.out.lt)).mono ?_
      rintro e w6 ⟨rfl, hb6⟩
      go_wp2_with fail
      go_ret
      exact ⟨rfl, HS2.out.bel.trans (hb6.mono HS2.out.size)⟩
end Go.Proofs.YtcjafbpgjlcdpaaDoor
