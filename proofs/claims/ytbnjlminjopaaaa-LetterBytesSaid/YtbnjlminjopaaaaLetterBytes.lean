/- The walk of the law LetterBytes. -/
import Derived.Test.YtbnjlminjopaaaaLetA
import Derived.Test.YtbnjlminjopaaaaLetH
import Derived.Test.YtbnjlminjopaaaaLetT
import Derived.Test.YtbnjlminjopaaaaRgF
import Derived.Test.YtbnjlminjopaaaaLetterBack
import Derived.Test.YtbnjlminjopaaaaLetI
import Derived.Test.YtbnjlminjopaaaaLetC
namespace Go.Proofs.Ytbnjlminjopaaaa
open Go Go.RowKit
set_option linter.unusedVariables false
set_option maxRecDepth 100000
set_option linter.unusedSimpArgs false

theorem refB10_any (w : World) (B : Nat) (x : Lt) (A E : Option Addr) (c d : Nat) (hA : Has w B A (us x.body)) (hE : Has w B E (u64s x.cut)) (hB : B ≤ w.heap.size) (hf : x.fits) (hm : x.may = true) :
    Calls Try.prog 17 #[.agg (x.cells A c E d)] w fun e w' => ∃ v, e = .returned v ∧ Own w' w.heap.size v x.plain ∧ Below w.heap.size w w' := by
  have hk := Lt.kinds hm
  obtain ⟨a, b, _⟩ := Lt.may_iff hm
  obtain ⟨f1, f2, f3, f4⟩ := hf
  obtain ⟨kind, node, pinc, round, snode, sinc, n, body, cid, cut, want⟩ := x
  simp only at *
  obtain ⟨kn, rfl⟩ := Int.eq_ofNat_of_zero_le (show 0 ≤ kind by rcases hk with h | h | h <;> omega)
  obtain ⟨nn, rfl⟩ := Int.eq_ofNat_of_zero_le (show 0 ≤ node by omega)
  obtain ⟨sn, rfl⟩ := Int.eq_ofNat_of_zero_le (show 0 ≤ snode by omega)
  refine refB10_core w kn nn pinc round sn sinc n body cid cut want A E c d (hA.more hB) (hE.more hB) (by rcases hk with h | h | h <;> omega) (by omega) f1 f2 (by omega) f3 f4 ?_
  rcases hk with h | h | h
  · exact .inl ⟨by omega, by omega, h.2.2.2.1⟩
  · exact .inr ⟨.inl (by omega), h.2.2.2.1⟩
  · exact .inr ⟨.inr (by omega), h.2.2.2.2⟩
set_option maxHeartbeats 6400000 in
theorem letterBytes_walk (w : World) (x : Lt) (A E : Option Addr) (c d : Nat) (hA : Has w w.heap.size A (us x.body)) (hE : Has w w.heap.size E (u64s x.cut)) (hf : x.fits) (hu : ∀ y ∈ x.cut, y < 18446744073709551616) :
    Calls Try.prog 4 #[.agg (x.cells A c E d)] w fun e w' => e = .returned (.bool true) ∧ Below w.heap.size w w' := by
  have HA := Lib.hid hA
  have HE := Lib.hid hE
  have HF := Lib.hid hf
  have HU := Lib.hid hu
  clear hA hE hf hu
  obtain ⟨kind, node, pinc, round, snode, sinc, n, body, cid, cut, want⟩ := x
  simp only at HA HE HU
  have HS0 := Lib.hid (show Sep w (w.alloc (.cells #[.int .i64 kind, .int .i64 node, .int .u64 (pinc : Int), .int .u64 (round : Int), .int .i64 snode, .int .u64 (sinc : Int), .int .u64 (n : Int), .slice A body.length c, .int .u64 (cid : Int), .slice E cut.length d, .bool want] 30)) [Ce w.heap.size 30 #[.int .i64 kind, .int .i64 node, .int .u64 (pinc : Int), .int .u64 (round : Int), .int .i64 snode, .int .u64 (sinc : Int), .int .u64 (n : Int), .slice A body.length c, .int .u64 (cid : Int), .slice E cut.length d, .bool want]] from sep_ce (Sep.nil w) #[.int .i64 kind, .int .i64 node, .int .u64 (pinc : Int), .int .u64 (round : Int), .int .i64 snode, .int .u64 (sinc : Int), .int .u64 (n : Int), .slice A body.length c, .int .u64 (cid : Int), .slice E cut.length d, .bool want] 30)
  by_cases hv1 : 3000 < body.length ∨ 300 < cut.length
  · simp only [Lt.cells]
    go_enter Try.func4, Try.ntmps4
    go_wp2_with fail
    refine (heavyB (x := (Lt.mk kind node pinc round snode sinc n body cid cut want)) (b := true) (decide_eq_true hv1)).mono ?_
    rintro e w1 ⟨rfl, hb1⟩
    have HS1 := Lib.hid (HS0.out.grow hb1)
    clear HS0 hb1
    go_wp2_with fail
    refine (awake10 _).mono ?_
    rintro e w6 ⟨rfl, hb6⟩
    go_wp2_with fail
    go_ret
    exact ⟨rfl, HS1.out.bel.trans (hb6.mono HS1.out.size)⟩
  · have HV1 := Lib.hid (show decide (3000 < body.length ∨ 300 < cut.length) = false from decide_eq_false hv1)
    have hl1 : body.length ≤ 3000 := by omega
    have hm1 : cut.length ≤ 300 := by omega
    clear hv1
    simp only [Lt.cells]
    go_enter Try.func4, Try.ntmps4
    go_wp2_with fail
    refine (heavyB (x := (Lt.mk kind node pinc round snode sinc n body cid cut want)) (b := false) HV1.out).mono ?_
    rintro e w1 ⟨rfl, hb1⟩
    have HS1 := Lib.hid (HS0.out.grow hb1)
    clear HS0 hb1 HV1
    have k0 := sep_ceAt (i := 0) HS1.out rfl 0 rfl
    have k1 := sep_ceAt (i := 0) HS1.out rfl 1 rfl
    have k2 := sep_ceAt (i := 0) HS1.out rfl 2 rfl
    have k3 := sep_ceAt (i := 0) HS1.out rfl 3 rfl
    have k4 := sep_ceAt (i := 0) HS1.out rfl 4 rfl
    have k5 := sep_ceAt (i := 0) HS1.out rfl 5 rfl
    have k6 := sep_ceAt (i := 0) HS1.out rfl 6 rfl
    have k7 := sep_ceAt (i := 0) HS1.out rfl 7 rfl
    have k8 := sep_ceAt (i := 0) HS1.out rfl 8 rfl
    have k9 := sep_ceAt (i := 0) HS1.out rfl 9 rfl
    have k10 := sep_ceAt (i := 0) HS1.out rfl 10 rfl
    go_wp2_with fail
    clear k0 k1 k2 k3 k4 k5 k6 k7 k8 k9 k10
    refine (copy10_any w1 w.heap.size (Lt.mk kind node pinc round snode sinc n body cid cut want) A E c d (HS1.out.has HA.out) (HS1.out.has HE.out) HS1.out.size (by simp only; omega) (by simp only; omega)).mono ?_
    rintro e w2 ⟨A3, c3, E3, d3, rfl, ho, hu, hb2⟩
    obtain ⟨A33, c33, e33, _, _, hA3⟩ := ho.form
    injection e33 with e33 _ e34
    subst e33 e34
    obtain ⟨A33, c33, e33, _, _, hE3⟩ := hu.form
    injection e33 with e33 _ e34
    subst e33 e34
    have HA3 := Lib.hid (show Has w2 w2.heap.size A3 (us body) from hA3)
    have HE3 := Lib.hid (show Has w2 w2.heap.size E3 (u64s cut) from hE3)
    clear ho hu hA3 hE3
    have HS2 := Lib.hid (HS1.out.grow hb2)
    clear HS1 hb2
    have HS3 := Lib.hid (show Sep w (w2.alloc (.cells #[.int .i64 kind, .int .i64 node, .int .u64 (pinc : Int), .int .u64 (round : Int), .int .i64 snode, .int .u64 (sinc : Int), .int .u64 (n : Int), .slice A3 body.length c3, .int .u64 (cid : Int), .slice E3 cut.length d3, .bool want] 30)) [Ce w.heap.size 30 #[.int .i64 kind, .int .i64 node, .int .u64 (pinc : Int), .int .u64 (round : Int), .int .i64 snode, .int .u64 (sinc : Int), .int .u64 (n : Int), .slice A body.length c, .int .u64 (cid : Int), .slice E cut.length d, .bool want], Ce w2.heap.size 30 #[.int .i64 kind, .int .i64 node, .int .u64 (pinc : Int), .int .u64 (round : Int), .int .i64 snode, .int .u64 (sinc : Int), .int .u64 (n : Int), .slice A3 body.length c3, .int .u64 (cid : Int), .slice E3 cut.length d3, .bool want]] from sep_ce HS2.out #[.int .i64 kind, .int .i64 node, .int .u64 (pinc : Int), .int .u64 (round : Int), .int .i64 snode, .int .u64 (sinc : Int), .int .u64 (n : Int), .slice A3 body.length c3, .int .u64 (cid : Int), .slice E3 cut.length d3, .bool want] 30)
    have HA4 := Lib.hid (HA3.out.alloc (Nat.le_refl _) (.cells #[.int .i64 kind, .int .i64 node, .int .u64 (pinc : Int), .int .u64 (round : Int), .int .i64 snode, .int .u64 (sinc : Int), .int .u64 (n : Int), .slice A3 body.length c3, .int .u64 (cid : Int), .slice E3 cut.length d3, .bool want] 30))
    have HE4 := Lib.hid (HE3.out.alloc (Nat.le_refl _) (.cells #[.int .i64 kind, .int .i64 node, .int .u64 (pinc : Int), .int .u64 (round : Int), .int .i64 snode, .int .u64 (sinc : Int), .int .u64 (n : Int), .slice A3 body.length c3, .int .u64 (cid : Int), .slice E3 cut.length d3, .bool want] 30))
    have hz2 : w2.heap.size ≤ (w2.alloc (.cells #[.int .i64 kind, .int .i64 node, .int .u64 (pinc : Int), .int .u64 (round : Int), .int .i64 snode, .int .u64 (sinc : Int), .int .u64 (n : Int), .slice A3 body.length c3, .int .u64 (cid : Int), .slice E3 cut.length d3, .bool want] 30)).heap.size := le_alloc (Nat.le_refl _) _
    rw [show (Lt.mk kind node pinc round snode sinc n body cid cut want).cells A3 c3 E3 d3 = #[.int .i64 kind, .int .i64 node, .int .u64 (pinc : Int), .int .u64 (round : Int), .int .i64 snode, .int .u64 (sinc : Int), .int .u64 (n : Int), .slice A3 body.length c3, .int .u64 (cid : Int), .slice E3 cut.length d3, .bool want] from rfl]
    clear HS2 HA3 HE3
    by_cases hmy : (Lt.mk kind node pinc round snode sinc n body cid cut want).may = true
    · have HM := Lib.hid hmy
      have he := encL_yes (w2.alloc (.cells #[.int .i64 kind, .int .i64 node, .int .u64 (pinc : Int), .int .u64 (round : Int), .int .i64 snode, .int .u64 (sinc : Int), .int .u64 (n : Int), .slice A3 body.length c3, .int .u64 (cid : Int), .slice E3 cut.length d3, .bool want] 30)) w2.heap.size (Lt.mk kind node pinc round snode sinc n body cid cut want) A3 E3 c3 d3 HA4.out HE4.out hz2 HF.out.1 HF.out.2.1 HF.out.2.2.1 HF.out.2.2.2 hmy
      have hpl := (Lt.plain_len hmy).1
      have HRB := Lib.hid (fun (W : World) h1 h2 h3 => refB10_any W w.heap.size (Lt.mk kind node pinc round snode sinc n body cid cut want) A E c d h1 h2 h3 HF.out HM.out)
      have HMR := Lib.hid (fun (W : World) h1 h2 => ref10MayL (w := W) (B := w.heap.size) (x := (Lt.mk kind node pinc round snode sinc n body cid cut want)) (A := A) (A2 := E) (c := c) (c2 := d) HM.out h1 h2 (by simp only; omega) (by simp only; omega) HU.out)
      clear hmy
      obtain ⟨Lb, HLb⟩ : ∃ L, Hid ((Lt.mk kind node pinc round snode sinc n body cid cut want).plain = L) := ⟨_, Lib.hid rfl⟩
      rw [HLb.out] at he hpl HRB
      simp only [Lt.cells] at he
      go_wp2_with fail
      refine he.mono ?_
      clear he
      rintro e w5 ⟨v1, rfl, ho1, hb1⟩
      have HS5 := Lib.hid (show Sep w w5 [Ce w.heap.size 30 #[.int .i64 kind, .int .i64 node, .int .u64 (pinc : Int), .int .u64 (round : Int), .int .i64 snode, .int .u64 (sinc : Int), .int .u64 (n : Int), .slice A body.length c, .int .u64 (cid : Int), .slice E cut.length d, .bool want], Ce w2.heap.size 30 #[.int .i64 kind, .int .i64 node, .int .u64 (pinc : Int), .int .u64 (round : Int), .int .i64 snode, .int .u64 (sinc : Int), .int .u64 (n : Int), .slice A3 body.length c3, .int .u64 (cid : Int), .slice E3 cut.length d3, .bool want], By v1 Lb] from sep_newBy HS3.out ho1 hb1)
      have HA5 := Lib.hid (HA4.out.below (hb1.mono hz2))
      have HE5 := Lib.hid (HE4.out.below (hb1.mono hz2))
      have hz5 := Nat.le_trans hz2 hb1.size
      have hz9 := sep_ceLt (i := 0) HS3.out rfl
      have hz8 := HS3.out.size
      clear HS3 HA4 HE4 hz2 ho1 hb1
      obtain ⟨B1, k1, rfl, _, _, _⟩ := sep_byForm (i := 2) HS5.out rfl
      have k0 := sep_ceAt (i := 1) HS5.out rfl 0 rfl
      have k1 := sep_ceAt (i := 1) HS5.out rfl 1 rfl
      have k2 := sep_ceAt (i := 1) HS5.out rfl 2 rfl
      have k3 := sep_ceAt (i := 1) HS5.out rfl 3 rfl
      have k4 := sep_ceAt (i := 1) HS5.out rfl 4 rfl
      have k5 := sep_ceAt (i := 1) HS5.out rfl 5 rfl
      have k6 := sep_ceAt (i := 1) HS5.out rfl 6 rfl
      have k7 := sep_ceAt (i := 1) HS5.out rfl 7 rfl
      have k8 := sep_ceAt (i := 1) HS5.out rfl 8 rfl
      have k9 := sep_ceAt (i := 1) HS5.out rfl 9 rfl
      have k10 := sep_ceAt (i := 1) HS5.out rfl 10 rfl
      have z0 := sep_ceAt (i := 0) HS5.out rfl 0 rfl
      have z1 := sep_ceAt (i := 0) HS5.out rfl 1 rfl
      have z2 := sep_ceAt (i := 0) HS5.out rfl 2 rfl
      have z3 := sep_ceAt (i := 0) HS5.out rfl 3 rfl
      have z4 := sep_ceAt (i := 0) HS5.out rfl 4 rfl
      have z5 := sep_ceAt (i := 0) HS5.out rfl 5 rfl
      have z6 := sep_ceAt (i := 0) HS5.out rfl 6 rfl
      have z7 := sep_ceAt (i := 0) HS5.out rfl 7 rfl
      have z8 := sep_ceAt (i := 0) HS5.out rfl 8 rfl
      have z9 := sep_ceAt (i := 0) HS5.out rfl 9 rfl
      have z10 := sep_ceAt (i := 0) HS5.out rfl 10 rfl
      go_wp2_with fail
      clear k0 k1 k2 k3 k4 k5 k6 k7 k8 k9 k10 z0 z1 z2 z3 z4 z5 z6 z7 z8 z9 z10
      refine (ref10SameB (w := w5) (B := w5.heap.size) (x := (Lt.mk kind node pinc round snode sinc n body cid cut want)) (y := (Lt.mk kind node pinc round snode sinc n body cid cut want)) (A := A3) (A2 := E3) (A' := A) (A2' := E) (c := c3) (c2 := d3) (c' := c) (c2' := d) (Lt.eqB_self _) (HA5.out.more hz5) (HE5.out.more hz5) (HS5.out.hasHere HA.out) (HS5.out.hasHere HE.out) (Nat.le_refl _) (by simp only; omega) (by simp only; omega) (by simp only; omega) (by simp only; omega)).mono ?_
      rintro e w6 ⟨rfl, hb6⟩
      have HS6 := Lib.hid (HS5.out.grow hb6)
      clear HS5 HA5 HE5 hb6
      have k0 := sep_ceAt (i := 0) HS6.out rfl 0 rfl
      have k1 := sep_ceAt (i := 0) HS6.out rfl 1 rfl
      have k2 := sep_ceAt (i := 0) HS6.out rfl 2 rfl
      have k3 := sep_ceAt (i := 0) HS6.out rfl 3 rfl
      have k4 := sep_ceAt (i := 0) HS6.out rfl 4 rfl
      have k5 := sep_ceAt (i := 0) HS6.out rfl 5 rfl
      have k6 := sep_ceAt (i := 0) HS6.out rfl 6 rfl
      have k7 := sep_ceAt (i := 0) HS6.out rfl 7 rfl
      have k8 := sep_ceAt (i := 0) HS6.out rfl 8 rfl
      have k9 := sep_ceAt (i := 0) HS6.out rfl 9 rfl
      have k10 := sep_ceAt (i := 0) HS6.out rfl 10 rfl
      go_wp2_with fail
      clear k0 k1 k2 k3 k4 k5 k6 k7 k8 k9 k10
      refine (HMR.out w6 (HS6.out.has HE.out) HS6.out.size).mono ?_
      rintro e w7 ⟨rfl, hb7⟩
      have HS7 := Lib.hid (HS6.out.grow hb7)
      clear HS6 hb7 HMR
      go_wp2_with fail
      refine wp_region_f (fun dn xv W => Sep w W [Ce w.heap.size 30 #[.int .i64 kind, .int .i64 node, .int .u64 (pinc : Int), .int .u64 (round : Int), .int .i64 snode, .int .u64 (sinc : Int), .int .u64 (n : Int), .slice A body.length c, .int .u64 (cid : Int), .slice E cut.length d, .bool want], Ce w2.heap.size 30 #[.int .i64 kind, .int .i64 node, .int .u64 (pinc : Int), .int .u64 (round : Int), .int .i64 snode, .int .u64 (sinc : Int), .int .u64 (n : Int), .slice A3 body.length c3, .int .u64 (cid : Int), .slice E3 cut.length d3, .bool want], By (.slice B1 Lb.length k1) Lb]) (fun W W' => Below W.heap.size W W') [fun v _ => v = .int .i64 0, fun v _ => v = .bool true, fun v _ => v = .bool true, fun v _ => v = .slice B1 Lb.length k1, fun v _ => v = .string ⟨Lb.toArray⟩, fun v _ => v = .agg #[.int .i64 kind, .int .i64 node, .int .u64 (pinc : Int), .int .u64 (round : Int), .int .i64 snode, .int .u64 (sinc : Int), .int .u64 (n : Int), .slice A body.length c, .int .u64 (cid : Int), .slice E cut.length d, .bool want], fun v W => ∃ A c, v = .slice A Lb.length c ∧ Has W W.heap.size A (us Lb), fun v _ => v = .string ⟨Lb.toArray⟩, fun v _ => v = .bool true, fun v _ => v = .bool true, fun v _ => v = .bool true, fun v _ => v = .bool true, fun v _ => v = .bool true, fun v _ => v = .bool true] (by kernel_rfl) (by kernel_rfl) (by kernel_rfl) (by kernel_rfl) (fun xv => by simpa using HS7.out.drew)
        (by exact ⟨fun _ _ _ _ h => h, fun _ _ _ _ h => h, fun _ _ _ _ h => h, fun _ _ _ _ h => h, fun _ _ _ _ h => h, fun _ _ _ _ h => h, fun v W W' hR h => by obtain ⟨A, c, e, h⟩ := h; exact ⟨A, c, e, (h.below hR).more hR.size⟩, fun _ _ _ _ h => h, fun _ _ _ _ h => h, fun _ _ _ _ h => h, fun _ _ _ _ h => h, fun _ _ _ _ h => h, fun _ _ _ _ h => h, fun _ _ _ _ h => h, trivial⟩) ?_ ?_
      · refine EachF.cons 1 rfl (fun dn xv W F hF hd hN hX hI H K hK => ?_) ?_
        · have f5 : F.tmps.getD 5 undef = .int .i64 0 := (hF 5).trans (by kernel_rfl)
          clear H hN hd hX hF
          refine on_plain rfl ?_
          go_simp
          exact hK.out _ _ rfl (Below.refl _ _) (by simpa [upB, upd] using hI)
        refine EachF.cons 2 rfl (fun dn xv W F hF hd hN hX hI H K hK => ?_) ?_
        · have h0 : xv 0 = .int .i64 0 := (H 0 (.edge (by kernel_rfl))).2
          have f33 : F.tmps.getD 33 undef = .int .i64 0 := (hF 33).trans (Eq.trans (by kernel_rfl) h0)
          clear H hN hd hX hF
          refine on_plain rfl ?_
          go_simp
          exact hK.out _ _ rfl (Below.refl _ _) (by simpa [upB, upd] using hI)
        refine EachF.cons 3 rfl (fun dn xv W F hF hd hN hX hI H K hK => ?_) ?_
        · have h1 : xv 1 = .bool true := (H 1 (.edge (by kernel_rfl))).2
          have f34 : F.tmps.getD 34 undef = .bool true := (hF 34).trans (Eq.trans (by kernel_rfl) h1)
          clear H hN hd hX hF
          refine on_plain rfl ?_
          go_simp
          exact hK.out _ _ rfl (Below.refl _ _) (by simpa [upB, upd] using hI)
        refine EachF.cons 4 rfl (fun dn xv W F hF hd hN hX hI H K hK => ?_) ?_
        · have f4 : F.tmps.getD 4 undef = .slice B1 Lb.length k1 := (hF 4).trans (by kernel_rfl)
          have h2 : xv 2 = .bool true := (H 2 (.edge (by kernel_rfl))).2
          have f35 : F.tmps.getD 35 undef = .bool true := (hF 35).trans (Eq.trans (by kernel_rfl) h2)
          clear H hN hd hX hF
          refine on_guard rfl (by kernel_rfl) f35 ?_
          go_simp
          exact hK.out _ _ rfl (Below.refl _ _) (by simpa [upB, upd] using hI)
        refine EachF.cons 5 rfl (fun dn xv W F hF hd hN hX hI H K hK => ?_) ?_
        · have h3 : xv 3 = .slice B1 Lb.length k1 := (H 3 (.edge (by kernel_rfl))).2
          have f36 : F.tmps.getD 36 undef = .slice B1 Lb.length k1 := (hF 36).trans (Eq.trans (by kernel_rfl) h3)
          have h2 : xv 2 = .bool true := (H 2 (.edge (by kernel_rfl))).2
          have f35 : F.tmps.getD 35 undef = .bool true := (hF 35).trans (Eq.trans (by kernel_rfl) h2)
          obtain ⟨A9, c9, e9, _, _, h9⟩ := sep_byForm (i := 2) hI rfl
          injection e9 with e9 _ e99
          subst e9 e99
          have t9 := run_str (c := k1) h9
          clear h9
          clear H hN hd hX hF
          refine on_guard rfl (by kernel_rfl) f35 ?_
          go_simp
          exact hK.out _ _ rfl (Below.refl _ _) (by simpa [upB, upd] using hI)
        refine EachF.cons 6 rfl (fun dn xv W F hF hd hN hX hI H K hK => ?_) ?_
        · have f1 : F.tmps.getD 1 undef = .pointer (some ⟨w.heap.size, 0, none⟩) := (hF 1).trans (by kernel_rfl)
          have h2 : xv 2 = .bool true := (H 2 (.edge (by kernel_rfl))).2
          have f35 : F.tmps.getD 35 undef = .bool true := (hF 35).trans (Eq.trans (by kernel_rfl) h2)
          have k0 := sep_ceAt (i := 0) hI rfl 0 rfl
          have k1 := sep_ceAt (i := 0) hI rfl 1 rfl
          have k2 := sep_ceAt (i := 0) hI rfl 2 rfl
          have k3 := sep_ceAt (i := 0) hI rfl 3 rfl
          have k4 := sep_ceAt (i := 0) hI rfl 4 rfl
          have k5 := sep_ceAt (i := 0) hI rfl 5 rfl
          have k6 := sep_ceAt (i := 0) hI rfl 6 rfl
          have k7 := sep_ceAt (i := 0) hI rfl 7 rfl
          have k8 := sep_ceAt (i := 0) hI rfl 8 rfl
          have k9 := sep_ceAt (i := 0) hI rfl 9 rfl
          have k10 := sep_ceAt (i := 0) hI rfl 10 rfl
          clear H hN hd hX hF
          refine on_guard rfl (by kernel_rfl) f35 ?_
          go_simp
          exact hK.out _ _ rfl (Below.refl _ _) (by simpa [upB, upd] using hI)
        refine EachF.cons 7 rfl (fun dn xv W F hF hd hN hX hI H K hK => ?_) ?_
        · have h5 : xv 5 = .agg #[.int .i64 kind, .int .i64 node, .int .u64 (pinc : Int), .int .u64 (round : Int), .int .i64 snode, .int .u64 (sinc : Int), .int .u64 (n : Int), .slice A body.length c, .int .u64 (cid : Int), .slice E cut.length d, .bool want] := (H 5 (.edge (by kernel_rfl))).2
          have f38 : F.tmps.getD 38 undef = .agg #[.int .i64 kind, .int .i64 node, .int .u64 (pinc : Int), .int .u64 (round : Int), .int .i64 snode, .int .u64 (sinc : Int), .int .u64 (n : Int), .slice A body.length c, .int .u64 (cid : Int), .slice E cut.length d, .bool want] := (hF 38).trans (Eq.trans (by kernel_rfl) h5)
          have h2 : xv 2 = .bool true := (H 2 (.edge (by kernel_rfl))).2
          have f35 : F.tmps.getD 35 undef = .bool true := (hF 35).trans (Eq.trans (by kernel_rfl) h2)
          clear H hN hd hX hF
          refine on_guard rfl (by kernel_rfl) f35 ?_
          go_simp
          refine (HRB.out W (hI.has HA.out) (hI.has HE.out) hI.size).mono ?_
          rintro e W' ⟨v, rfl, ho, hb⟩
          obtain ⟨A9, c9, rfl, _, _, h9⟩ := ho.form
          exact hK.out _ W' ⟨A9, c9, rfl, h9⟩ hb (by simpa [upB, upd] using hI.grow hb)
        refine EachF.cons 8 rfl (fun dn xv W F hF hd hN hX hI H K hK => ?_) ?_
        · have h6 := (H 6 (.edge (by kernel_rfl))).2
          simp only [Dl] at h6
          have f39 : F.tmps.getD 39 undef = xv 6 := (hF 39).trans (by kernel_rfl)
          have h2 : xv 2 = .bool true := (H 2 (.edge (by kernel_rfl))).2
          have f35 : F.tmps.getD 35 undef = .bool true := (hF 35).trans (Eq.trans (by kernel_rfl) h2)
          obtain ⟨A9, c9, e9, h9⟩ := h6
          rw [e9] at f39
          have t9 := run_str (c := c9) h9
          clear h9 e9
          clear H hN hd hX hF
          refine on_guard rfl (by kernel_rfl) f35 ?_
          go_simp
          exact hK.out _ _ rfl (Below.refl _ _) (by simpa [upB, upd] using hI)
        refine EachF.cons 9 rfl (fun dn xv W F hF hd hN hX hI H K hK => ?_) ?_
        · have h4 : xv 4 = .string ⟨Lb.toArray⟩ := (H 4 (.edge (by kernel_rfl))).2
          have f37 : F.tmps.getD 37 undef = .string ⟨Lb.toArray⟩ := (hF 37).trans (Eq.trans (by kernel_rfl) h4)
          have h7 : xv 7 = .string ⟨Lb.toArray⟩ := (H 7 (.edge (by kernel_rfl))).2
          have f40 : F.tmps.getD 40 undef = .string ⟨Lb.toArray⟩ := (hF 40).trans (Eq.trans (by kernel_rfl) h7)
          have h2 : xv 2 = .bool true := (H 2 (.edge (by kernel_rfl))).2
          have f35 : F.tmps.getD 35 undef = .bool true := (hF 35).trans (Eq.trans (by kernel_rfl) h2)
          clear H hN hd hX hF
          refine on_guard rfl (by kernel_rfl) f35 ?_
          go_simp
          exact hK.out _ _ rfl (Below.refl _ _) (by simpa [upB, upd] using hI)
        refine EachF.cons 10 rfl (fun dn xv W F hF hd hN hX hI H K hK => ?_) ?_
        · have h2 : xv 2 = .bool true := (H 2 (.edge (by kernel_rfl))).2
          have f35 : F.tmps.getD 35 undef = .bool true := (hF 35).trans (Eq.trans (by kernel_rfl) h2)
          have h8 : xv 8 = .bool true := (H 8 (.edge (by kernel_rfl))).2
          have f41 : F.tmps.getD 41 undef = .bool true := (hF 41).trans (Eq.trans (by kernel_rfl) h8)
          clear H hN hd hX hF
          refine on_plain rfl ?_
          go_simp
          exact hK.out _ _ rfl (Below.refl _ _) (by simpa [upB, upd] using hI)
        refine EachF.cons 11 rfl (fun dn xv W F hF hd hN hX hI H K hK => ?_) ?_
        · have h9 : xv 9 = .bool true := (H 9 (.edge (by kernel_rfl))).2
          have f42 : F.tmps.getD 42 undef = .bool true := (hF 42).trans (Eq.trans (by kernel_rfl) h9)
          clear H hN hd hX hF
          refine on_plain rfl ?_
          go_simp
          exact hK.out _ _ rfl (Below.refl _ _) (by simpa [upB, upd] using hI)
        refine EachF.cons 12 rfl (fun dn xv W F hF hd hN hX hI H K hK => ?_) ?_
        · have h10 : xv 10 = .bool true := (H 10 (.edge (by kernel_rfl))).2
          have f43 : F.tmps.getD 43 undef = .bool true := (hF 43).trans (Eq.trans (by kernel_rfl) h10)
          clear H hN hd hX hF
          refine on_guard rfl (by kernel_rfl) f43 ?_
          go_simp
          refine (awake10 W).mono ?_
          rintro e W' ⟨rfl, hb⟩
          exact hK.out _ W' rfl hb (by simpa [upB, upd] using hI.grow hb)
        refine EachF.cons 13 rfl (fun dn xv W F hF hd hN hX hI H K hK => ?_) ?_
        · have h10 : xv 10 = .bool true := (H 10 (.edge (by kernel_rfl))).2
          have f43 : F.tmps.getD 43 undef = .bool true := (hF 43).trans (Eq.trans (by kernel_rfl) h10)
          have h11 : xv 11 = .bool true := (H 11 (.edge (by kernel_rfl))).2
          have f44 : F.tmps.getD 44 undef = .bool true := (hF 44).trans (Eq.trans (by kernel_rfl) h11)
          clear H hN hd hX hF
          refine on_plain rfl ?_
          go_simp
          exact hK.out _ _ rfl (Below.refl _ _) (by simpa [upB, upd] using hI)
        refine EachF.cons 14 rfl (fun dn xv W F hF hd hN hX hI H K hK => ?_) ?_
        · have h12 : xv 12 = .bool true := (H 12 (.edge (by kernel_rfl))).2
          have f45 : F.tmps.getD 45 undef = .bool true := (hF 45).trans (Eq.trans (by kernel_rfl) h12)
          clear H hN hd hX hF
          refine on_plain rfl ?_
          go_simp
          exact hK.out _ _ rfl (Below.refl _ _) (by simpa [upB, upd] using hI)
        exact EachF.nil
      · intro dn xv W hI H
        have q13 : xv 13 = .bool true := (H 13 (of_decide_eq_true (by kernel_rfl))).2
        have hS : Sep w W [Ce w.heap.size 30 #[.int .i64 kind, .int .i64 node, .int .u64 (pinc : Int), .int .u64 (round : Int), .int .i64 snode, .int .u64 (sinc : Int), .int .u64 (n : Int), .slice A body.length c, .int .u64 (cid : Int), .slice E cut.length d, .bool want], Ce w2.heap.size 30 #[.int .i64 kind, .int .i64 node, .int .u64 (pinc : Int), .int .u64 (round : Int), .int .i64 snode, .int .u64 (sinc : Int), .int .u64 (n : Int), .slice A3 body.length c3, .int .u64 (cid : Int), .slice E3 cut.length d3, .bool want], By (.slice B1 Lb.length k1) Lb] := hI
        clear H hI
        simp only [putAll, Act.put, List.setIfInBounds_toArray, List.set_cons_zero, List.set_cons_succ, Nat.reduceAdd, q13]
        clear q13
        go_wp2_with fail
        go_ret
        exact ⟨rfl, hS.bel⟩
    · have hmf : (Lt.mk kind node pinc round snode sinc n body cid cut want).may = false := by simpa using hmy
      have he := encL_no (w2.alloc (.cells #[.int .i64 kind, .int .i64 node, .int .u64 (pinc : Int), .int .u64 (round : Int), .int .i64 snode, .int .u64 (sinc : Int), .int .u64 (n : Int), .slice A3 body.length c3, .int .u64 (cid : Int), .slice E3 cut.length d3, .bool want] 30)) w2.heap.size (Lt.mk kind node pinc round snode sinc n body cid cut want) A3 E3 c3 d3 HE4.out hz2 (by simp only; omega) (by simp only; omega) HU.out hmf
      have HMR := Lib.hid (fun (W : World) h1 h2 => ref10MayL (w := W) (B := w.heap.size) (x := (Lt.mk kind node pinc round snode sinc n body cid cut want)) (A := A) (A2 := E) (c := c) (c2 := d) hmf h1 h2 (by simp only; omega) (by simp only; omega) HU.out)
      clear hmy hmf
      simp only [Lt.cells] at he
      go_wp2_with fail
      refine he.mono ?_
      clear he
      rintro e w5 ⟨rfl, hb1⟩
      have HS5 := Lib.hid (HS3.out.grow hb1)
      have HA5 := Lib.hid (HA4.out.below (hb1.mono hz2))
      have HE5 := Lib.hid (HE4.out.below (hb1.mono hz2))
      have hz5 := Nat.le_trans hz2 hb1.size
      clear HS3 HA4 HE4 hz2 hb1
      have k0 := sep_ceAt (i := 1) HS5.out rfl 0 rfl
      have k1 := sep_ceAt (i := 1) HS5.out rfl 1 rfl
      have k2 := sep_ceAt (i := 1) HS5.out rfl 2 rfl
      have k3 := sep_ceAt (i := 1) HS5.out rfl 3 rfl
      have k4 := sep_ceAt (i := 1) HS5.out rfl 4 rfl
      have k5 := sep_ceAt (i := 1) HS5.out rfl 5 rfl
      have k6 := sep_ceAt (i := 1) HS5.out rfl 6 rfl
      have k7 := sep_ceAt (i := 1) HS5.out rfl 7 rfl
      have k8 := sep_ceAt (i := 1) HS5.out rfl 8 rfl
      have k9 := sep_ceAt (i := 1) HS5.out rfl 9 rfl
      have k10 := sep_ceAt (i := 1) HS5.out rfl 10 rfl
      have z0 := sep_ceAt (i := 0) HS5.out rfl 0 rfl
      have z1 := sep_ceAt (i := 0) HS5.out rfl 1 rfl
      have z2 := sep_ceAt (i := 0) HS5.out rfl 2 rfl
      have z3 := sep_ceAt (i := 0) HS5.out rfl 3 rfl
      have z4 := sep_ceAt (i := 0) HS5.out rfl 4 rfl
      have z5 := sep_ceAt (i := 0) HS5.out rfl 5 rfl
      have z6 := sep_ceAt (i := 0) HS5.out rfl 6 rfl
      have z7 := sep_ceAt (i := 0) HS5.out rfl 7 rfl
      have z8 := sep_ceAt (i := 0) HS5.out rfl 8 rfl
      have z9 := sep_ceAt (i := 0) HS5.out rfl 9 rfl
      have z10 := sep_ceAt (i := 0) HS5.out rfl 10 rfl
      go_wp2_with fail
      clear k0 k1 k2 k3 k4 k5 k6 k7 k8 k9 k10 z0 z1 z2 z3 z4 z5 z6 z7 z8 z9 z10
      refine (ref10SameB (w := w5) (B := w5.heap.size) (x := (Lt.mk kind node pinc round snode sinc n body cid cut want)) (y := (Lt.mk kind node pinc round snode sinc n body cid cut want)) (A := A3) (A2 := E3) (A' := A) (A2' := E) (c := c3) (c2 := d3) (c' := c) (c2' := d) (Lt.eqB_self _) (HA5.out.more hz5) (HE5.out.more hz5) (HS5.out.hasHere HA.out) (HS5.out.hasHere HE.out) (Nat.le_refl _) (by simp only; omega) (by simp only; omega) (by simp only; omega) (by simp only; omega)).mono ?_
      rintro e w6 ⟨rfl, hb6⟩
      have HS6 := Lib.hid (HS5.out.grow hb6)
      clear HS5 HA5 HE5 hb6
      have k0 := sep_ceAt (i := 0) HS6.out rfl 0 rfl
      have k1 := sep_ceAt (i := 0) HS6.out rfl 1 rfl
      have k2 := sep_ceAt (i := 0) HS6.out rfl 2 rfl
      have k3 := sep_ceAt (i := 0) HS6.out rfl 3 rfl
      have k4 := sep_ceAt (i := 0) HS6.out rfl 4 rfl
      have k5 := sep_ceAt (i := 0) HS6.out rfl 5 rfl
      have k6 := sep_ceAt (i := 0) HS6.out rfl 6 rfl
      have k7 := sep_ceAt (i := 0) HS6.out rfl 7 rfl
      have k8 := sep_ceAt (i := 0) HS6.out rfl 8 rfl
      have k9 := sep_ceAt (i := 0) HS6.out rfl 9 rfl
      have k10 := sep_ceAt (i := 0) HS6.out rfl 10 rfl
      go_wp2_with fail
      clear k0 k1 k2 k3 k4 k5 k6 k7 k8 k9 k10
      refine (HMR.out w6 (HS6.out.has HE.out) HS6.out.size).mono ?_
      rintro e w7 ⟨rfl, hb7⟩
      have HS7 := Lib.hid (HS6.out.grow hb7)
      clear HS6 hb7 HMR
      go_wp2_with fail
      refine (awake10 _).mono ?_
      rintro e w6 ⟨rfl, hb6⟩
      go_wp2_with fail
      go_ret
      exact ⟨rfl, HS7.out.bel.trans (hb6.mono HS7.out.size)⟩
end Go.Proofs.Ytbnjlminjopaaaa
