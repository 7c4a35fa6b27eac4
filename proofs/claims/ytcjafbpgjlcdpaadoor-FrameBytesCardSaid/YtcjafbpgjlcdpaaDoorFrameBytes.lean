/- The walk of the law FrameBytes. -/
import Derived.Test.YtcjafbpgjlcdpaaDoorFrmW
import Derived.Test.YtcjafbpgjlcdpaaDoorRgF
import Derived.Test.YtcjafbpgjlcdpaaDoorFrameMay
import Derived.Test.YtcjafbpgjlcdpaaDoorRgB
namespace Go.Proofs.YtcjafbpgjlcdpaaDoor
open Go Go.RowKit
set_option linter.unusedVariables false
set_option maxRecDepth 100000
set_option linter.unusedSimpArgs false

theorem sep_byHas {w0 w : World} {Ps : List SP} {i n c : Nat} {A : Option Addr} {l : List UInt8} (h : Sep w0 w Ps) (hi : Ps[i]? = some (By (.slice A n c) l)) : Has w w.heap.size A (us l) := by
  obtain ⟨A9, c9, e9, _, _, h9⟩ := sep_byForm h hi
  injection e9 with e9 _ _
  rw [e9]
  exact h9
theorem IsB.keep' {l : List UInt8} {v : Value} {w w' : World} (h : IsB l v w) (hb : Below w.heap.size w w') : IsB l v w' := h.keep hb
/-- what Encode answers, either way -/
theorem enc_or (w : World) (hT : Table w) (B : Nat) (f : Fr) (A : Option Addr) (c : Nat) (hA : Has w B A (us f.body)) (hB : B ≤ w.heap.size) (hl : f.body.length ≤ maxLen) :
    Calls Tryd.prog 14 #[.agg (f.cells A c)] w fun e w' => ∃ A1 c1 P z, ((z = 0 ∧ f.may = true ∧ P = Crc.sealed f.plain) ∨ (z = 3 ∧ f.may = false ∧ P = [])) ∧ Own w' w.heap.size (.slice A1 P.length c1) P ∧ e = .returned (.tuple #[.slice A1 P.length c1, .int .i64 z]) ∧ Below w.heap.size w w' := by
  cases hm : f.may with
  | true =>
    refine (encode_yes w hT B f A c hA hB hm).mono ?_
    rintro e w' ⟨v, rfl, ho, hb⟩
    obtain ⟨A1, c1, rfl, _, _, _⟩ := ho.form
    exact ⟨A1, c1, _, 0, .inl ⟨rfl, rfl, rfl⟩, ho, rfl, hb⟩
  | false =>
    refine (encode_no w f A c hl hm).mono ?_
    rintro e w' ⟨rfl, hb⟩
    exact ⟨none, 0, [], 3, .inr ⟨rfl, rfl, rfl⟩, Own.nil _ _, rfl, hb⟩
theorem grown_setCell5 {a w : World} {g : Nat} (h : a.grownBy w (some g)) (o : Nat) (u : Value) : a.grownBy (w.setCell ⟨g, o, none⟩ u) (some g) :=
  ⟨h.os, h.tape, h.output, by simpa [World.setCell] using h.size, fun i hi hne => (Below.heap_setCell w ⟨g, o, none⟩ u i (fun e => hne (by rw [e]))).trans (h.block i hi hne)⟩
set_option maxHeartbeats 6400000 in
theorem frameBytes_walk (w : World) (hT : Table w) (kind fr to : Int) (inc conn pinc pconn ack seq : Nat) (A : Option Addr) (c : Nat) (body : List UInt8) (hA : Has w w.heap.size A (us body)) (hx : inc < 18446744073709551616 ∧ conn < 18446744073709551616 ∧ pinc < 18446744073709551616 ∧ pconn < 18446744073709551616 ∧ ack < 18446744073709551616 ∧ seq < 18446744073709551616) (hc : body.length ≤ c) (hm : c ≤ maxLen) (hr : body.length ≤ 140737488355328) :
    Calls Tryd.prog 4 #[.agg ((Fr.mk kind fr to inc conn pinc pconn ack seq body).cells A c)] w fun e w' => e = .returned (.bool true) ∧ Below w.heap.size w w' := by
  have HT := Lib.hid hT
  have HA := Lib.hid hA
  have HL : Hid (body.length ≤ maxLen) := Lib.hid (Nat.le_trans hc hm)
  clear hT hA hc hm hx hr
  have HS0 := Lib.hid (show Sep w (w.alloc (.cells #[.int .i64 kind, .int .i64 fr, .int .i64 to, .int .u64 (inc : Int), .int .u64 (conn : Int), .int .u64 (pinc : Int), .int .u64 (pconn : Int), .int .u64 (ack : Int), .int .u64 (seq : Int), .slice A body.length c] 25)) [Ce w.heap.size 25 #[.int .i64 kind, .int .i64 fr, .int .i64 to, .int .u64 (inc : Int), .int .u64 (conn : Int), .int .u64 (pinc : Int), .int .u64 (pconn : Int), .int .u64 (ack : Int), .int .u64 (seq : Int), .slice A body.length c]] from sep_ce (Sep.nil w) #[.int .i64 kind, .int .i64 fr, .int .i64 to, .int .u64 (inc : Int), .int .u64 (conn : Int), .int .u64 (pinc : Int), .int .u64 (pconn : Int), .int .u64 (ack : Int), .int .u64 (seq : Int), .slice A body.length c] 25)
  by_cases hlong : 65536 < body.length
  · simp only [Fr.cells]
    go_enter Tryd.func4, Tryd.ntmps4
    go_wp2_with fail
    refine (awake5 _ (HT.out.below HS0.out.bel HT.out.lt)).mono ?_
    rintro e w6 ⟨rfl, hb6⟩
    go_wp2_with fail
    go_ret
    exact ⟨rfl, HS0.out.bel.trans (hb6.mono HS0.out.size)⟩
  · have ho := own5_any (w.alloc (.cells #[.int .i64 kind, .int .i64 fr, .int .i64 to, .int .u64 (inc : Int), .int .u64 (conn : Int), .int .u64 (pinc : Int), .int .u64 (pconn : Int), .int .u64 (ack : Int), .int .u64 (seq : Int), .slice A body.length c] 25)) w.heap.size (Fr.mk kind fr to inc conn pinc pconn ack seq body) A c (HS0.out.has HA.out) HS0.out.size (by simp; omega)
    simp only [Fr.cells] at ho ⊢
    go_enter Tryd.func4, Tryd.ntmps4
    go_wp2_with fail
    refine ho.mono ?_
    clear ho
    rintro e w1 ⟨A1, c1, rfl, ho1, hb1⟩
    have HS1 := Lib.hid (show Sep w w1 [Ce w.heap.size 25 #[.int .i64 kind, .int .i64 fr, .int .i64 to, .int .u64 (inc : Int), .int .u64 (conn : Int), .int .u64 (pinc : Int), .int .u64 (pconn : Int), .int .u64 (ack : Int), .int .u64 (seq : Int), .slice A body.length c], By (.slice A1 body.length c1) body] from sep_new5 HS0.out ho1 hb1)
    clear HS0 ho1 hb1
    have HS2 := Lib.hid (show Sep w (w1.alloc (.cells #[.int .i64 kind, .int .i64 fr, .int .i64 to, .int .u64 (inc : Int), .int .u64 (conn : Int), .int .u64 (pinc : Int), .int .u64 (pconn : Int), .int .u64 (ack : Int), .int .u64 (seq : Int), .slice A1 body.length c1] 25)) [Ce w.heap.size 25 #[.int .i64 kind, .int .i64 fr, .int .i64 to, .int .u64 (inc : Int), .int .u64 (conn : Int), .int .u64 (pinc : Int), .int .u64 (pconn : Int), .int .u64 (ack : Int), .int .u64 (seq : Int), .slice A body.length c], By (.slice A1 body.length c1) body, Ce w1.heap.size 25 #[.int .i64 kind, .int .i64 fr, .int .i64 to, .int .u64 (inc : Int), .int .u64 (conn : Int), .int .u64 (pinc : Int), .int .u64 (pconn : Int), .int .u64 (ack : Int), .int .u64 (seq : Int), .slice A1 body.length c1]] from sep_ce HS1.out _ _)
    have hz := sep_ceLt (i := 0) HS1.out rfl
    have k0 := sep_ceAt (i := 0) HS1.out rfl 0 rfl
    have k1 := sep_ceAt (i := 0) HS1.out rfl 1 rfl
    have k2 := sep_ceAt (i := 0) HS1.out rfl 2 rfl
    have k3 := sep_ceAt (i := 0) HS1.out rfl 3 rfl
    have k4 := sep_ceAt (i := 0) HS1.out rfl 4 rfl
    have k5 := sep_ceAt (i := 0) HS1.out rfl 5 rfl
    have k6 := sep_ceAt (i := 0) HS1.out rfl 6 rfl
    have k7 := sep_ceAt (i := 0) HS1.out rfl 7 rfl
    have k8 := sep_ceAt (i := 0) HS1.out rfl 8 rfl
    have k9 := sep_ceAt (i := 0) HS1.out rfl 9 rfl
    have hen := enc_or (w1.alloc (.cells #[.int .i64 kind, .int .i64 fr, .int .i64 to, .int .u64 (inc : Int), .int .u64 (conn : Int), .int .u64 (pinc : Int), .int .u64 (pconn : Int), .int .u64 (ack : Int), .int .u64 (seq : Int), .slice A1 body.length c1] 25)) (HT.out.below HS2.out.bel HT.out.lt) w.heap.size (Fr.mk kind fr to inc conn pinc pconn ack seq body) A c (HS2.out.has HA.out) HS2.out.size HL.out
    simp only [Fr.cells] at hen
    go_wp2_with fail
    clear k0 k1 k2 k3 k4 k5 k6 k7 k8 k9
    refine hen.mono ?_
    clear hen
    rintro e w2 ⟨A2, c2, P2, z2, he2, ho2, rfl, hb2⟩
    have HE2 := Lib.hid he2
    have HS3 := Lib.hid (show Sep w w2 [Ce w.heap.size 25 #[.int .i64 kind, .int .i64 fr, .int .i64 to, .int .u64 (inc : Int), .int .u64 (conn : Int), .int .u64 (pinc : Int), .int .u64 (pconn : Int), .int .u64 (ack : Int), .int .u64 (seq : Int), .slice A body.length c], By (.slice A1 body.length c1) body, Ce w1.heap.size 25 #[.int .i64 kind, .int .i64 fr, .int .i64 to, .int .u64 (inc : Int), .int .u64 (conn : Int), .int .u64 (pinc : Int), .int .u64 (pconn : Int), .int .u64 (ack : Int), .int .u64 (seq : Int), .slice A1 body.length c1], By (.slice A2 P2.length c2) P2] from sep_new5 HS2.out ho2 hb2)
    clear HS2 HS1 ho2 hb2 he2
    have z0 := sep_ceAt (i := 2) HS3.out rfl 0 rfl
    have z1 := sep_ceAt (i := 2) HS3.out rfl 1 rfl
    have z2 := sep_ceAt (i := 2) HS3.out rfl 2 rfl
    have z3 := sep_ceAt (i := 2) HS3.out rfl 3 rfl
    have z4 := sep_ceAt (i := 2) HS3.out rfl 4 rfl
    have z5 := sep_ceAt (i := 2) HS3.out rfl 5 rfl
    have z6 := sep_ceAt (i := 2) HS3.out rfl 6 rfl
    have z7 := sep_ceAt (i := 2) HS3.out rfl 7 rfl
    have z8 := sep_ceAt (i := 2) HS3.out rfl 8 rfl
    have z9 := sep_ceAt (i := 2) HS3.out rfl 9 rfl
    rcases HE2.out with ⟨hz2, hm2, hp2⟩ | ⟨hz2, hm2, hp2⟩
    · have HM := Lib.hid hm2
      have HLb := Lib.hid hp2.symm
      clear HE2 hm2 hp2
      subst hz2
      obtain ⟨Lb, HL2⟩ : ∃ L, Hid (P2 = L) := ⟨_, Lib.hid rfl⟩
      rw [HL2.out] at HLb HS3 ⊢
      have hLb4 : 4 ≤ Lb.length := by rw [← HLb.out, sealed_len]; omega
      have hLb9 : Lb.length ≤ 504 := by rw [← HLb.out, sealed_len]; have := Fr.plain_len HM.out; omega
      obtain ⟨n, HN⟩ : ∃ n, Hid (Lb.length = n) := ⟨_, Lib.hid rfl⟩
      rw [HN.out] at hLb4 hLb9 HS3 ⊢
      clear HL2
      go_wp2_with fail
      clear z0 z1 z2 z3 z4 z5 z6 z7 z8 z9
      refine (mayRb (f := (Fr.mk kind fr to inc conn pinc pconn ack seq body)) (A := A1) (c := c1) HM.out HL.out).mono ?_
      rintro e w3 ⟨rfl, hb3⟩
      have HS4 := Lib.hid (HS3.out.grow hb3)
      clear HS3 hb3
      go_wp2_with fail
      refine wp_region_f (fun dn xv W => Sep w W [Ce w.heap.size 25 #[.int .i64 kind, .int .i64 fr, .int .i64 to, .int .u64 (inc : Int), .int .u64 (conn : Int), .int .u64 (pinc : Int), .int .u64 (pconn : Int), .int .u64 (ack : Int), .int .u64 (seq : Int), .slice A body.length c], By (.slice A1 body.length c1) body, Ce w1.heap.size 25 #[.int .i64 kind, .int .i64 fr, .int .i64 to, .int .u64 (inc : Int), .int .u64 (conn : Int), .int .u64 (pinc : Int), .int .u64 (pconn : Int), .int .u64 (ack : Int), .int .u64 (seq : Int), .slice A1 body.length c1], By (.slice A2 n c2) Lb]) (fun W W' => Below W.heap.size W W') [fun v _ => v = .int .i64 0, fun v _ => v = .bool false, fun v _ => v = .bool false, fun v _ => v = .slice A2 n c2, fun v _ => v = .string ⟨Lb.toArray⟩, fun v _ => v = .agg #[.int .i64 kind, .int .i64 fr, .int .i64 to, .int .u64 (inc : Int), .int .u64 (conn : Int), .int .u64 (pinc : Int), .int .u64 (pconn : Int), .int .u64 (ack : Int), .int .u64 (seq : Int), .slice A1 body.length c1], IsB Lb, fun v _ => v = .string ⟨Lb.toArray⟩, fun v _ => v = .bool false, fun v _ => v = .bool false] (by kernel_rfl) (by kernel_rfl) (by kernel_rfl) (by kernel_rfl) (fun xv => by simpa using HS4.out.drew)
        (by exact ⟨fun _ _ _ _ h => h, fun _ _ _ _ h => h, fun _ _ _ _ h => h, fun _ _ _ _ h => h, fun _ _ _ _ h => h, fun _ _ _ _ h => h, fun _ _ _ hR h => h.keep hR, fun _ _ _ _ h => h, fun _ _ _ _ h => h, fun _ _ _ _ h => h, trivial⟩) ?_ ?_
      · refine EachF.cons 1 rfl (fun dn xv W F hF hd hN hX hI H K hK => ?_) ?_
        · have f5 : F.tmps.getD 5 undef = .int .i64 0 := (hF 5).trans (by kernel_rfl)
          clear H hN hd hX hF
          refine on_plain rfl ?_
          go_simp
          exact hK.out _ _ rfl (Below.refl _ _) (by simpa [upB, upd] using hI)
        refine EachF.cons 2 rfl (fun dn xv W F hF hd hN hX hI H K hK => ?_) ?_
        · have h0 : xv 0 = .int .i64 0 := (H 0 (.edge (by kernel_rfl))).2
          have f32 : F.tmps.getD 32 undef = .int .i64 0 := (hF 32).trans (Eq.trans (by kernel_rfl) h0)
          clear H hN hd hX hF
          refine on_plain rfl ?_
          go_simp
          exact hK.out _ _ rfl (Below.refl _ _) (by simpa [upB, upd] using hI)
        refine EachF.cons 3 rfl (fun dn xv W F hF hd hN hX hI H K hK => ?_) ?_
        · have h1 : xv 1 = .bool false := (H 1 (.edge (by kernel_rfl))).2
          have f33 : F.tmps.getD 33 undef = .bool false := (hF 33).trans (Eq.trans (by kernel_rfl) h1)
          clear H hN hd hX hF
          refine on_plain rfl ?_
          go_simp
          exact hK.out _ _ rfl (Below.refl _ _) (by simpa [upB, upd] using hI)
        refine EachF.cons 4 rfl (fun dn xv W F hF hd hN hX hI H K hK => ?_) ?_
        · have f4 : F.tmps.getD 4 undef = .slice A2 n c2 := (hF 4).trans (by kernel_rfl)
          have h2 : xv 2 = .bool false := (H 2 (.edge (by kernel_rfl))).2
          have f34 : F.tmps.getD 34 undef = .bool false := (hF 34).trans (Eq.trans (by kernel_rfl) h2)
          clear H hN hd hX hF
          refine on_guard rfl (by kernel_rfl) f34 ?_
          go_simp
          exact hK.out _ _ rfl (Below.refl _ _) (by simpa [upB, upd] using hI)
        refine EachF.cons 5 rfl (fun dn xv W F hF hd hN hX hI H K hK => ?_) ?_
        · have h3 : xv 3 = .slice A2 n c2 := (H 3 (.edge (by kernel_rfl))).2
          have f35 : F.tmps.getD 35 undef = .slice A2 n c2 := (hF 35).trans (Eq.trans (by kernel_rfl) h3)
          have h2 : xv 2 = .bool false := (H 2 (.edge (by kernel_rfl))).2
          have f34 : F.tmps.getD 34 undef = .bool false := (hF 34).trans (Eq.trans (by kernel_rfl) h2)
          obtain ⟨A9, c9, e9, _, _, h9⟩ := sep_byForm (i := 3) hI rfl
          injection e9 with e9 e98 e99
          subst e9 e99
          clear e98
          have t9 := run_str (c := c2) h9
          rw [HN.out] at t9
          clear h9
          clear H hN hd hX hF
          refine on_guard rfl (by kernel_rfl) f34 ?_
          go_simp
          exact hK.out _ _ rfl (Below.refl _ _) (by simpa [upB, upd] using hI)
        refine EachF.cons 6 rfl (fun dn xv W F hF hd hN hX hI H K hK => ?_) ?_
        · have f3 : F.tmps.getD 3 undef = .pointer (some ⟨w1.heap.size, 0, none⟩) := (hF 3).trans (by kernel_rfl)
          have h2 : xv 2 = .bool false := (H 2 (.edge (by kernel_rfl))).2
          have f34 : F.tmps.getD 34 undef = .bool false := (hF 34).trans (Eq.trans (by kernel_rfl) h2)
          have k0 := sep_ceAt (i := 2) hI rfl 0 rfl
          have k1 := sep_ceAt (i := 2) hI rfl 1 rfl
          have k2 := sep_ceAt (i := 2) hI rfl 2 rfl
          have k3 := sep_ceAt (i := 2) hI rfl 3 rfl
          have k4 := sep_ceAt (i := 2) hI rfl 4 rfl
          have k5 := sep_ceAt (i := 2) hI rfl 5 rfl
          have k6 := sep_ceAt (i := 2) hI rfl 6 rfl
          have k7 := sep_ceAt (i := 2) hI rfl 7 rfl
          have k8 := sep_ceAt (i := 2) hI rfl 8 rfl
          have k9 := sep_ceAt (i := 2) hI rfl 9 rfl
          clear H hN hd hX hF
          refine on_guard rfl (by kernel_rfl) f34 ?_
          go_simp
          exact hK.out _ _ rfl (Below.refl _ _) (by simpa [upB, upd] using hI)
        refine EachF.cons 7 rfl (fun dn xv W F hF hd hN hX hI H K hK => ?_) ?_
        · have h5 : xv 5 = .agg #[.int .i64 kind, .int .i64 fr, .int .i64 to, .int .u64 (inc : Int), .int .u64 (conn : Int), .int .u64 (pinc : Int), .int .u64 (pconn : Int), .int .u64 (ack : Int), .int .u64 (seq : Int), .slice A1 body.length c1] := (H 5 (.edge (by kernel_rfl))).2
          have f37 : F.tmps.getD 37 undef = .agg #[.int .i64 kind, .int .i64 fr, .int .i64 to, .int .u64 (inc : Int), .int .u64 (conn : Int), .int .u64 (pinc : Int), .int .u64 (pconn : Int), .int .u64 (ack : Int), .int .u64 (seq : Int), .slice A1 body.length c1] := (hF 37).trans (Eq.trans (by kernel_rfl) h5)
          have h2 : xv 2 = .bool false := (H 2 (.edge (by kernel_rfl))).2
          have f34 : F.tmps.getD 34 undef = .bool false := (hF 34).trans (Eq.trans (by kernel_rfl) h2)
          clear H hN hd hX hF
          refine on_guard rfl (by kernel_rfl) f34 ?_
          go_simp
          refine (refBytes_yes W W.heap.size (Fr.mk kind fr to inc conn pinc pconn ack seq body) A1 c1 (sep_byHas (i := 1) hI rfl) (Nat.le_refl _) HM.out).mono ?_
          rintro e W' ⟨v, rfl, ho, hb⟩
          rw [HLb.out] at ho
          exact hK.out v W' (IsB.of_own ho) hb (by simpa [upB, upd] using hI.grow hb)
        refine EachF.cons 8 rfl (fun dn xv W F hF hd hN hX hI H K hK => ?_) ?_
        · have h6 := (H 6 (.edge (by kernel_rfl))).2
          simp only [Dl] at h6
          have f38 : F.tmps.getD 38 undef = xv 6 := (hF 38).trans (by kernel_rfl)
          have h2 : xv 2 = .bool false := (H 2 (.edge (by kernel_rfl))).2
          have f34 : F.tmps.getD 34 undef = .bool false := (hF 34).trans (Eq.trans (by kernel_rfl) h2)
          clear H hN hd hX hF
          refine on_guard rfl (by kernel_rfl) f34 ?_
          obtain ⟨A9, c9, e9, h9⟩ := h6
          rw [e9] at f38
          have g38 := f38
          rw [Array.getD_eq_getD_getElem?] at g38
          have t9 := run_str (c := c9) h9
          clear h9
          go_simp
          exact hK.out _ W rfl (Below.refl _ _) (by simpa [upB, upd] using hI)
        refine EachF.cons 9 rfl (fun dn xv W F hF hd hN hX hI H K hK => ?_) ?_
        · have h4 : xv 4 = .string ⟨Lb.toArray⟩ := (H 4 (.edge (by kernel_rfl))).2
          have f36 : F.tmps.getD 36 undef = .string ⟨Lb.toArray⟩ := (hF 36).trans (Eq.trans (by kernel_rfl) h4)
          have h7 : xv 7 = .string ⟨Lb.toArray⟩ := (H 7 (.edge (by kernel_rfl))).2
          have f39 : F.tmps.getD 39 undef = .string ⟨Lb.toArray⟩ := (hF 39).trans (Eq.trans (by kernel_rfl) h7)
          have h2 : xv 2 = .bool false := (H 2 (.edge (by kernel_rfl))).2
          have f34 : F.tmps.getD 34 undef = .bool false := (hF 34).trans (Eq.trans (by kernel_rfl) h2)
          clear H hN hd hX hF
          refine on_guard rfl (by kernel_rfl) f34 ?_
          go_simp
          exact hK.out _ _ rfl (Below.refl _ _) (by simpa [upB, upd] using hI)
        refine EachF.cons 10 rfl (fun dn xv W F hF hd hN hX hI H K hK => ?_) ?_
        · have h2 : xv 2 = .bool false := (H 2 (.edge (by kernel_rfl))).2
          have f34 : F.tmps.getD 34 undef = .bool false := (hF 34).trans (Eq.trans (by kernel_rfl) h2)
          have h8 : xv 8 = .bool false := (H 8 (.edge (by kernel_rfl))).2
          have f40 : F.tmps.getD 40 undef = .bool false := (hF 40).trans (Eq.trans (by kernel_rfl) h8)
          clear H hN hd hX hF
          refine on_plain rfl ?_
          go_simp
          exact hK.out _ _ rfl (Below.refl _ _) (by simpa [upB, upd] using hI)
        exact EachF.nil
      · intro dn xv W hI H
        have q9 : xv 9 = .bool false := (H 9 (of_decide_eq_true (by kernel_rfl))).2
        have hS : Sep w W [Ce w.heap.size 25 #[.int .i64 kind, .int .i64 fr, .int .i64 to, .int .u64 (inc : Int), .int .u64 (conn : Int), .int .u64 (pinc : Int), .int .u64 (pconn : Int), .int .u64 (ack : Int), .int .u64 (seq : Int), .slice A body.length c], By (.slice A1 body.length c1) body, Ce w1.heap.size 25 #[.int .i64 kind, .int .i64 fr, .int .i64 to, .int .u64 (inc : Int), .int .u64 (conn : Int), .int .u64 (pinc : Int), .int .u64 (pconn : Int), .int .u64 (ack : Int), .int .u64 (seq : Int), .slice A1 body.length c1], By (.slice A2 n c2) Lb] := hI
        clear H hI
        simp only [putAll, Act.put, List.setIfInBounds_toArray, List.set_cons_zero, List.set_cons_succ, Nat.reduceAdd, q9]
        clear q9
        have HS5 := Lib.hid hS
        clear hS
        go_wp2_with fail
        go_loopw [6] (fun iv wr => ∃ (k : Nat) (L : List UInt8), k ≤ n ∧ iv = .int .i64 (k : Int) ∧ Hid (L.length = n) ∧ Hid (Sep w wr [Ce w.heap.size 25 #[.int .i64 kind, .int .i64 fr, .int .i64 to, .int .u64 (inc : Int), .int .u64 (conn : Int), .int .u64 (pinc : Int), .int .u64 (pconn : Int), .int .u64 (ack : Int), .int .u64 (seq : Int), .slice A body.length c], By (.slice A1 body.length c1) body, Ce w1.heap.size 25 #[.int .i64 kind, .int .i64 fr, .int .i64 to, .int .u64 (inc : Int), .int .u64 (conn : Int), .int .u64 (pinc : Int), .int .u64 (pconn : Int), .int .u64 (ack : Int), .int .u64 (seq : Int), .slice A1 body.length c1], By (.slice A2 n c2) L])) (fun iv _ => n - (intOf iv).toNat)
        case atStart => exact ⟨0, Lb, Nat.zero_le _, rfl, HN, HS5⟩
        case round =>
          obtain ⟨k, L, hk, rfl, HLL, HS⟩ := hrel
          by_cases hkt : k < n
          · obtain ⟨F9, hby⟩ := HS.out.get (i := 3) rfl
            obtain ⟨gx, hgx, _, _, hcx, hfx, hst⟩ := hby.1.at_ (k := k) (by rw [HLL.out]; exact hkt)
            subst hgx
            obtain ⟨zb, HZB⟩ : ∃ z, Hid (L[k]'(by rw [HLL.out]; exact hkt) = z) := ⟨_, Lib.hid rfl⟩
            rw [HZB.out] at hcx
            obtain ⟨zb', hzb⟩ := u8_succ zb
            have HST := Lib.hid (hst zb')
            have HZZ := Lib.hid hzb
            clear hst hby hzb
            have i0 : (0 : Int) ≤ (k : Int) := by omega
            have i1 : (k : Int) < (n : Int) := by omega
            go_wp2_with fail
            go_roundw
            case rel =>
              refine ⟨k + 1, L.set k zb', by omega, by go_num, Lib.hid (by rw [List.length_set]; exact HLL.out), Lib.hid ?_⟩
              rw [HZZ.out]
              exact (show Sep w _ [Ce w.heap.size 25 #[.int .i64 kind, .int .i64 fr, .int .i64 to, .int .u64 (inc : Int), .int .u64 (conn : Int), .int .u64 (pinc : Int), .int .u64 (pconn : Int), .int .u64 (ack : Int), .int .u64 (seq : Int), .slice A body.length c], By (.slice A1 body.length c1) body, Ce w1.heap.size 25 #[.int .i64 kind, .int .i64 fr, .int .i64 to, .int .u64 (inc : Int), .int .u64 (conn : Int), .int .u64 (pinc : Int), .int .u64 (pconn : Int), .int .u64 (ack : Int), .int .u64 (seq : Int), .slice A1 body.length c1], By (.slice (some ⟨gx, 0, none⟩) n c2) (L.set k zb')] from sep_grown (i := 3) HS.out rfl HST.out (grown_setCell5 (World.grownBy.refl _ _) _ _) (.inl rfl))
            case measure => simp [intOf]; omega
          ·
            have k0 := sep_ceAt (i := 0) HS.out rfl 0 rfl
            have k1 := sep_ceAt (i := 0) HS.out rfl 1 rfl
            have k2 := sep_ceAt (i := 0) HS.out rfl 2 rfl
            have k3 := sep_ceAt (i := 0) HS.out rfl 3 rfl
            have k4 := sep_ceAt (i := 0) HS.out rfl 4 rfl
            have k5 := sep_ceAt (i := 0) HS.out rfl 5 rfl
            have k6 := sep_ceAt (i := 0) HS.out rfl 6 rfl
            have k7 := sep_ceAt (i := 0) HS.out rfl 7 rfl
            have k8 := sep_ceAt (i := 0) HS.out rfl 8 rfl
            have k9 := sep_ceAt (i := 0) HS.out rfl 9 rfl
            have z0 := sep_ceAt (i := 2) HS.out rfl 0 rfl
            have z1 := sep_ceAt (i := 2) HS.out rfl 1 rfl
            have z2 := sep_ceAt (i := 2) HS.out rfl 2 rfl
            have z3 := sep_ceAt (i := 2) HS.out rfl 3 rfl
            have z4 := sep_ceAt (i := 2) HS.out rfl 4 rfl
            have z5 := sep_ceAt (i := 2) HS.out rfl 5 rfl
            have z6 := sep_ceAt (i := 2) HS.out rfl 6 rfl
            have z7 := sep_ceAt (i := 2) HS.out rfl 7 rfl
            have z8 := sep_ceAt (i := 2) HS.out rfl 8 rfl
            have z9 := sep_ceAt (i := 2) HS.out rfl 9 rfl
            go_wp2_with fail
            clear k0 k1 k2 k3 k4 k5 k6 k7 k8 k9 z0 z1 z2 z3 z4 z5 z6 z7 z8 z9
            refine (same5_any wr wr.heap.size (Fr.mk kind fr to inc conn pinc pconn ack seq body) (Fr.mk kind fr to inc conn pinc pconn ack seq body) A A1 c c1 ((HS.out.has HA.out).more HS.out.size) (sep_byHas (i := 1) HS.out rfl) (Nat.le_refl _) HL.out HL.out).mono ?_
            rintro e w5 ⟨rfl, hb5⟩
            have HS6 := Lib.hid (HS.out.grow hb5)
            clear HS hb5
            rw [Fr.eqB_self]
            go_wp2_with fail
            refine (awake5 _ (HT.out.below HS6.out.bel HT.out.lt)).mono ?_
            rintro e w6 ⟨rfl, hb6⟩
            go_wp2_with fail
            go_ret
            exact ⟨rfl, HS6.out.bel.trans (hb6.mono HS6.out.size)⟩
    · have HM := Lib.hid hm2
      have HLb := Lib.hid hp2
      clear HE2 hm2 hp2
      subst hz2
      rw [HLb.out] at HS3 ⊢
      go_wp2_with fail
      clear z0 z1 z2 z3 z4 z5 z6 z7 z8 z9
      refine (mayRb (f := (Fr.mk kind fr to inc conn pinc pconn ack seq body)) (A := A1) (c := c1) HM.out HL.out).mono ?_
      rintro e w3 ⟨rfl, hb3⟩
      have HS4 := Lib.hid (HS3.out.grow hb3)
      clear HS3 hb3
      go_wp2_with fail
      refine (awake5 _ (HT.out.below HS4.out.bel HT.out.lt)).mono ?_
      rintro e w6 ⟨rfl, hb6⟩
      go_wp2_with fail
      go_ret
      exact ⟨rfl, HS4.out.bel.trans (hb6.mono HS4.out.size)⟩
end Go.Proofs.YtcjafbpgjlcdpaaDoor
