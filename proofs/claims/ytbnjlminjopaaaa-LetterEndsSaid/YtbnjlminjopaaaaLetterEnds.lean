/- The walk of the law LetterEnds. -/
import Derived.Test.YtbnjlminjopaaaaLetA
import Derived.Test.YtbnjlminjopaaaaLetH
import Derived.Test.YtbnjlminjopaaaaLetT
import Derived.Test.YtbnjlminjopaaaaRgF
import Derived.Test.YtbnjlminjopaaaaLetterBack
import Derived.Test.YtbnjlminjopaaaaLetN
import Derived.Test.YtbnjlminjopaaaaLetO
namespace Go.Proofs.Ytbnjlminjopaaaa
open Go Go.RowKit
set_option linter.unusedVariables false
set_option maxRecDepth 100000
set_option linter.unusedSimpArgs false

set_option maxHeartbeats 6400000 in
theorem letterEnds_walk (w : World) (x : Lt) (A E : Option Addr) (c d : Nat) (A1 : Option Addr) (c1 : Nat) (l1 : List UInt8) (z : Int) (hA : Has w w.heap.size A (us x.body)) (hE : Has w w.heap.size E (u64s x.cut)) (hf : x.fits) (hu : ∀ y ∈ x.cut, y < 18446744073709551616) (hA1 : Has w w.heap.size A1 (us l1)) (hc1 : l1.length ≤ c1) (hm1 : c1 ≤ maxLen) (hz1 : -9223372036854775808 ≤ z) (hz2 : z ≤ 9223372036854775807) :
    Calls Try.prog 7 #[.agg (x.cells A c E d), .slice A1 l1.length c1, .int .i64 z] w fun e w' => e = .returned (.bool true) ∧ Below w.heap.size w w' := by
  have HA := Lib.hid hA
  have HE := Lib.hid hE
  have HF := Lib.hid hf
  have HU := Lib.hid hu
  clear hA hE hf hu
  obtain ⟨kind, node, pinc, round, snode, sinc, n, body, cid, cut, want⟩ := x
  simp only at HA HE HU
  have HA1 := Lib.hid hA1
  clear hA1 hc1 hm1
  have HS0 := Lib.hid (show Sep w (w.alloc (.cells #[.int .i64 kind, .int .i64 node, .int .u64 (pinc : Int), .int .u64 (round : Int), .int .i64 snode, .int .u64 (sinc : Int), .int .u64 (n : Int), .slice A body.length c, .int .u64 (cid : Int), .slice E cut.length d, .bool want] 30)) [Ce w.heap.size 30 #[.int .i64 kind, .int .i64 node, .int .u64 (pinc : Int), .int .u64 (round : Int), .int .i64 snode, .int .u64 (sinc : Int), .int .u64 (n : Int), .slice A body.length c, .int .u64 (cid : Int), .slice E cut.length d, .bool want]] from sep_ce (Sep.nil w) #[.int .i64 kind, .int .i64 node, .int .u64 (pinc : Int), .int .u64 (round : Int), .int .i64 snode, .int .u64 (sinc : Int), .int .u64 (n : Int), .slice A body.length c, .int .u64 (cid : Int), .slice E cut.length d, .bool want] 30)
  by_cases hv1 : 3000 < body.length ∨ 300 < cut.length
  · simp only [Lt.cells]
    go_enter Try.func7, Try.ntmps7
    go_wp2_with fail
    refine (heavyB (x := (Lt.mk kind node pinc round snode sinc n body cid cut want)) (b := true) (decide_eq_true hv1)).mono ?_
    rintro e w1 ⟨rfl, hb1⟩
    have HS1 := Lib.hid (HS0.out.grow hb1)
    clear HS0 hb1
    go_wp2_with fail
    refine (awake10 _).mono ?_
    rintro e w6 ⟨rfl, hb6⟩
    go_wp2_with fail
    go_ret
    exact ⟨rfl, HS1.out.bel.trans (hb6.mono HS1.out.size)⟩
  · have HV1 := Lib.hid (show decide (3000 < body.length ∨ 300 < cut.length) = false from decide_eq_false hv1)
    have hl1 : body.length ≤ 3000 := by omega
    have hm1 : cut.length ≤ 300 := by omega
    clear hv1
    by_cases hlong : 500 < l1.length
    · simp only [Lt.cells]
      go_enter Try.func7, Try.ntmps7
      go_wp2_with fail
      refine (heavyB (x := (Lt.mk kind node pinc round snode sinc n body cid cut want)) (b := false) HV1.out).mono ?_
      rintro e w1 ⟨rfl, hb1⟩
      have HS1 := Lib.hid (HS0.out.grow hb1)
      clear HS0 hb1
      go_wp2_with fail
      refine (awake10 _).mono ?_
      rintro e w6 ⟨rfl, hb6⟩
      go_wp2_with fail
      go_ret
      exact ⟨rfl, HS1.out.bel.trans (hb6.mono HS1.out.size)⟩
    · simp only [Lt.cells]
      go_enter Try.func7, Try.ntmps7
      go_wp2_with fail
      refine (heavyB (x := (Lt.mk kind node pinc round snode sinc n body cid cut want)) (b := false) HV1.out).mono ?_
      rintro e w1 ⟨rfl, hb1⟩
      have HS1 := Lib.hid (HS0.out.grow hb1)
      clear HS0 hb1 HV1
      have k0 := sep_ceAt (i := 0) HS1.out rfl 0 rfl
      have k1 := sep_ceAt (i := 0) HS1.out rfl 1 rfl
      have k2 := sep_ceAt (i := 0) HS1.out rfl 2 rfl
      have k3 := sep_ceAt (i := 0) HS1.out rfl 3 rfl
      have k4 := sep_ceAt (i := 0) HS1.out rfl 4 rfl
      have k5 := sep_ceAt (i := 0) HS1.out rfl 5 rfl
      have k6 := sep_ceAt (i := 0) HS1.out rfl 6 rfl
      have k7 := sep_ceAt (i := 0) HS1.out rfl 7 rfl
      have k8 := sep_ceAt (i := 0) HS1.out rfl 8 rfl
      have k9 := sep_ceAt (i := 0) HS1.out rfl 9 rfl
      have k10 := sep_ceAt (i := 0) HS1.out rfl 10 rfl
      go_wp2_with fail
      clear k0 k1 k2 k3 k4 k5 k6 k7 k8 k9 k10
      by_cases hmy : (Lt.mk kind node pinc round snode sinc n body cid cut want).may = true
      · have HM := Lib.hid hmy
        have he := encL_yes w1 w.heap.size (Lt.mk kind node pinc round snode sinc n body cid cut want) A E c d (HS1.out.has HA.out) (HS1.out.has HE.out) HS1.out.size HF.out.1 HF.out.2.1 HF.out.2.2.1 HF.out.2.2.2 hmy
        have hpl := Lt.plain_len hmy
        clear hmy
        refine he.mono ?_
        clear he
        rintro e w2 ⟨v1, rfl, ho1, hb1⟩
        have HS2 := Lib.hid (show Sep w w2 [Ce w.heap.size 30 #[.int .i64 kind, .int .i64 node, .int .u64 (pinc : Int), .int .u64 (round : Int), .int .i64 snode, .int .u64 (sinc : Int), .int .u64 (n : Int), .slice A body.length c, .int .u64 (cid : Int), .slice E cut.length d, .bool want], By v1 (Lt.mk kind node pinc round snode sinc n body cid cut want).plain] from sep_newBy HS1.out ho1 hb1)
        clear HS1 ho1 hb1
        obtain ⟨Lb, HLb⟩ : ∃ L, Hid ((Lt.mk kind node pinc round snode sinc n body cid cut want).plain = L) := ⟨_, Lib.hid rfl⟩
        rw [HLb.out] at HS2 hpl
        obtain ⟨B1, k1, rfl, h11, h12, h13⟩ := sep_byForm (i := 1) HS2.out rfl
        have H13 := Lib.hid h13
        clear h13
        have hz0 : ((Lb.length : Nat) : Int) ≠ 0 := by omega
        by_cases hzn : z < 0
        · go_wp2_with fail
          have hd := decodeL_any w2 w2.heap.size B1 k1 (Lb.take 0) (by rw [us_take]; exact H13.out.take 0) (Nat.le_refl _) (by rw [List.length_take]; omega)
          rw [show (Lb.take 0).length = 0 by rw [List.length_take]; omega] at hd
          refine hd.mono ?_
          clear hd
          rintro e w3 (⟨f3, A3, c3, E3, d3, hf, _⟩ | ⟨_, rfl, hb3⟩)
          · rw [← HLb.out] at hf
            exact (not_isLt_take HM.out HF.out (by rw [HLb.out]; omega) f3 hf).elim
          · have HS3 := Lib.hid (show Sep w (w3.alloc (.cells #[.int .i64 0, .int .i64 0, .int .u64 0, .int .u64 0, .int .i64 0, .int .u64 0, .int .u64 0, .slice none 0 0, .int .u64 0, .slice none 0 0, .bool false] 30)) [Ce w.heap.size 30 #[.int .i64 kind, .int .i64 node, .int .u64 (pinc : Int), .int .u64 (round : Int), .int .i64 snode, .int .u64 (sinc : Int), .int .u64 (n : Int), .slice A body.length c, .int .u64 (cid : Int), .slice E cut.length d, .bool want], By (.slice B1 Lb.length k1) Lb, Ce w3.heap.size 30 #[.int .i64 0, .int .i64 0, .int .u64 0, .int .u64 0, .int .i64 0, .int .u64 0, .int .u64 0, .slice none 0 0, .int .u64 0, .slice none 0 0, .bool false]] from sep_ce (HS2.out.grow hb3) #[.int .i64 0, .int .i64 0, .int .u64 0, .int .u64 0, .int .i64 0, .int .u64 0, .int .u64 0, .slice none 0 0, .int .u64 0, .slice none 0 0, .bool false] 30)
            rw [show Lt.nil.cells none 0 none 0 = #[.int .i64 0, .int .i64 0, .int .u64 0, .int .u64 0, .int .i64 0, .int .u64 0, .int .u64 0, .slice none 0 0, .int .u64 0, .slice none 0 0, .bool false] from rfl]
            clear HS2 hb3 H13
            go_wp2_with fail
            refine (ref10SameB (w := w3.alloc (.cells #[.int .i64 0, .int .i64 0, .int .u64 0, .int .u64 0, .int .i64 0, .int .u64 0, .int .u64 0, .slice none 0 0, .int .u64 0, .slice none 0 0, .bool false] 30)) (B := 0) (x := Lt.nil) (y := Lt.nil) (A := none) (A2 := none) (A' := none) (A2' := none) (c := 0) (c2 := 0) (c' := 0) (c2' := 0) (Lt.eqB_self _) Has.nil Has.nil Has.nil Has.nil (Nat.zero_le _) (by simp [Lt.nil]) (by simp [Lt.nil]) (by simp [Lt.nil]) (by simp [Lt.nil])).mono ?_
            rintro e w4 ⟨rfl, hb4⟩
            have HS5 := Lib.hid (show Sep w (w4.alloc (.cells #[] 5)) [Ce w.heap.size 30 #[.int .i64 kind, .int .i64 node, .int .u64 (pinc : Int), .int .u64 (round : Int), .int .i64 snode, .int .u64 (sinc : Int), .int .u64 (n : Int), .slice A body.length c, .int .u64 (cid : Int), .slice E cut.length d, .bool want], By (.slice B1 Lb.length k1) Lb, Ce w3.heap.size 30 #[.int .i64 0, .int .i64 0, .int .u64 0, .int .u64 0, .int .i64 0, .int .u64 0, .int .u64 0, .slice none 0 0, .int .u64 0, .slice none 0 0, .bool false], By (.slice (some ⟨w4.heap.size, 0, none⟩) 0 0) []] from sep_empty (HS3.out.grow hb4))
            clear HS3 hb4
            have hll : l1.length ≤ 500 := by omega
            go_wp2_with (at_builtin; first
              | (have ck := HS5; clear ck; go_must (refine sep_appB (i := 3) (m := Lb) rfl rfl (by rfl) (by rfl) HS5.out rfl (sep_byHas (i := 1) HS5.out rfl) (by simp; omega) ?_); intro v6 w6 hs6
                 have HS6 : Hid (Sep w w6 [Ce w.heap.size 30 #[.int .i64 kind, .int .i64 node, .int .u64 (pinc : Int), .int .u64 (round : Int), .int .i64 snode, .int .u64 (sinc : Int), .int .u64 (n : Int), .slice A body.length c, .int .u64 (cid : Int), .slice E cut.length d, .bool want], By (.slice B1 Lb.length k1) Lb, Ce w3.heap.size 30 #[.int .i64 0, .int .i64 0, .int .u64 0, .int .u64 0, .int .i64 0, .int .u64 0, .int .u64 0, .slice none 0 0, .int .u64 0, .slice none 0 0, .bool false], By v6 Lb]) := Lib.hid hs6
                 clear hs6 HS5)
              | (have ck := HS6; clear ck; go_must (refine sep_appB (i := 3) (m := l1) rfl rfl (by rfl) (by rfl) HS6.out rfl (HS6.out.has HA1.out) (by omega) ?_); intro v7 w7 hs7
                 have HS7 : Hid (Sep w w7 [Ce w.heap.size 30 #[.int .i64 kind, .int .i64 node, .int .u64 (pinc : Int), .int .u64 (round : Int), .int .i64 snode, .int .u64 (sinc : Int), .int .u64 (n : Int), .slice A body.length c, .int .u64 (cid : Int), .slice E cut.length d, .bool want], By (.slice B1 Lb.length k1) Lb, Ce w3.heap.size 30 #[.int .i64 0, .int .i64 0, .int .u64 0, .int .u64 0, .int .i64 0, .int .u64 0, .int .u64 0, .slice none 0 0, .int .u64 0, .slice none 0 0, .bool false], By v7 (Lb ++ l1)]) := Lib.hid hs7
                 clear hs7 HS6
                 obtain ⟨A7, c7, rfl, _, _, h73⟩ := sep_byForm (i := 3) HS7.out rfl
                 have H73 := Lib.hid h73
                 clear h73))
            have hd := decodeL_any w7 w7.heap.size A7 c7 (Lb ++ l1) H73.out (Nat.le_refl _) (by rw [List.length_append]; omega)
            rw [List.length_append] at hd
            refine hd.mono ?_
            clear hd
            rintro e w8 (⟨f8, A8, c8, E8, d8, hf, rfl, hbo, hbu, hb8⟩ | ⟨hn, rfl, hb8⟩)
            · have hR : l1 = [] := Classical.byContradiction fun hR => by
                rw [← HLb.out] at hf
                exact not_isLt_app HM.out HF.out hR f8 hf
              subst hR
              rw [List.append_nil] at hf
              obtain rfl := hf.inj ⟨HM.out, HF.out, HLb.out.symm⟩
              have HB8 := Lib.hid hbo.has
              obtain ⟨A88, c88, e88, _, _, hE8⟩ := hbu.form
              injection e88 with e88 _ e89
              subst e88 e89
              have HE8 := Lib.hid hE8
              clear hf hbo hbu hE8
              simp only at HB8 HE8
              have HS8 := Lib.hid (HS7.out.grow hb8)
              have hz8 := HS8.out.size
              clear HS7 hb8 H73
              rw [show (Lt.mk kind node pinc round snode sinc n body cid cut want).cells A8 c8 E8 d8 = #[.int .i64 kind, .int .i64 node, .int .u64 (pinc : Int), .int .u64 (round : Int), .int .i64 snode, .int .u64 (sinc : Int), .int .u64 (n : Int), .slice A8 body.length c8, .int .u64 (cid : Int), .slice E8 cut.length d8, .bool want] from rfl]
              have HS9 := Lib.hid (show Sep w (w8.alloc (.cells #[.int .i64 kind, .int .i64 node, .int .u64 (pinc : Int), .int .u64 (round : Int), .int .i64 snode, .int .u64 (sinc : Int), .int .u64 (n : Int), .slice A8 body.length c8, .int .u64 (cid : Int), .slice E8 cut.length d8, .bool want] 30)) _ from sep_ce HS8.out #[.int .i64 kind, .int .i64 node, .int .u64 (pinc : Int), .int .u64 (round : Int), .int .i64 snode, .int .u64 (sinc : Int), .int .u64 (n : Int), .slice A8 body.length c8, .int .u64 (cid : Int), .slice E8 cut.length d8, .bool want] 30)
              have hz := sep_ceLt (i := 0) HS8.out rfl
              have k0 := sep_ceAt (i := 0) HS8.out rfl 0 rfl
              have k1 := sep_ceAt (i := 0) HS8.out rfl 1 rfl
              have k2 := sep_ceAt (i := 0) HS8.out rfl 2 rfl
              have k3 := sep_ceAt (i := 0) HS8.out rfl 3 rfl
              have k4 := sep_ceAt (i := 0) HS8.out rfl 4 rfl
              have k5 := sep_ceAt (i := 0) HS8.out rfl 5 rfl
              have k6 := sep_ceAt (i := 0) HS8.out rfl 6 rfl
              have k7 := sep_ceAt (i := 0) HS8.out rfl 7 rfl
              have k8 := sep_ceAt (i := 0) HS8.out rfl 8 rfl
              have k9 := sep_ceAt (i := 0) HS8.out rfl 9 rfl
              have k10 := sep_ceAt (i := 0) HS8.out rfl 10 rfl
              simp only [List.length_nil]
              go_wp2_with fail
              clear k0 k1 k2 k3 k4 k5 k6 k7 k8 k9 k10
              refine (ref10SameB (w := w8.alloc (.cells #[.int .i64 kind, .int .i64 node, .int .u64 (pinc : Int), .int .u64 (round : Int), .int .i64 snode, .int .u64 (sinc : Int), .int .u64 (n : Int), .slice A8 body.length c8, .int .u64 (cid : Int), .slice E8 cut.length d8, .bool want] 30)) (B := w8.heap.size) (x := (Lt.mk kind node pinc round snode sinc n body cid cut want)) (y := (Lt.mk kind node pinc round snode sinc n body cid cut want)) (A := A8) (A2 := E8) (A' := A) (A2' := E) (c := c8) (c2 := d8) (c' := c) (c2' := d) (Lt.eqB_self _) (HB8.out.alloc (Nat.le_refl _) _) (HE8.out.alloc (Nat.le_refl _) _) ((HS9.out.has HA.out).more hz8) ((HS9.out.has HE.out).more hz8) (le_alloc (Nat.le_refl _) _) (by simp only; omega) (by simp only; omega) (by simp only; omega) (by simp only; omega)).mono ?_
              rintro e u5 ⟨rfl, hb5⟩
              have HT := Lib.hid (HS9.out.grow hb5)
              clear HS9 HS8 HB8 HE8 hb5
              go_wp2_with fail
              refine (awake10 u5).mono ?_
              rintro e w6 ⟨rfl, hb6⟩
              go_wp2_with fail
              go_ret
              exact ⟨rfl, HT.out.bel.trans (hb6.mono HT.out.size)⟩
            · have hR : l1 ≠ [] := fun hR => hn (Lt.mk kind node pinc round snode sinc n body cid cut want) (by rw [hR, List.append_nil]; exact ⟨HM.out, HF.out, HLb.out.symm⟩)
              have hR1 : 1 ≤ l1.length := List.length_pos_iff.2 hR
              have e_0 : (((l1.length : Nat) : Int) == 0) = false := beq_eq_false_iff_ne.2 (by omega)
              have HT := Lib.hid (show Sep w (w8.alloc (.cells #[.int .i64 0, .int .i64 0, .int .u64 0, .int .u64 0, .int .i64 0, .int .u64 0, .int .u64 0, .slice none 0 0, .int .u64 0, .slice none 0 0, .bool false] 30)) _ from sep_ce (HS7.out.grow hb8) #[.int .i64 0, .int .i64 0, .int .u64 0, .int .u64 0, .int .i64 0, .int .u64 0, .int .u64 0, .slice none 0 0, .int .u64 0, .slice none 0 0, .bool false] 30)
              rw [show Lt.nil.cells none 0 none 0 = #[.int .i64 0, .int .i64 0, .int .u64 0, .int .u64 0, .int .i64 0, .int .u64 0, .int .u64 0, .slice none 0 0, .int .u64 0, .slice none 0 0, .bool false] from rfl]
              clear HS7 hb8 H73 hn hR
              go_wp2_with fail
              refine (awake10 _).mono ?_
              rintro e w6 ⟨rfl, hb6⟩
              go_wp2_with fail
              go_ret
              exact ⟨rfl, HT.out.bel.trans (hb6.mono HT.out.size)⟩
        · obtain ⟨k, hk, hkl⟩ : ∃ k : Nat, z % ((Lb.length : Nat) : Int) = ((k : Nat) : Int) ∧ k < Lb.length := by
            have h1 := Int.emod_nonneg z hz0
            have h2 := Int.emod_lt_of_pos z (show (0 : Int) < ((Lb.length : Nat) : Int) by omega)
            exact ⟨(z % ((Lb.length : Nat) : Int)).toNat, by omega, by omega⟩
          have hkk : k ≤ k1 := by omega
          go_wp2_with fail
          have hd := decodeL_any w2 w2.heap.size B1 k1 (Lb.take k) (by rw [us_take]; exact H13.out.take k) (Nat.le_refl _) (by rw [List.length_take]; omega)
          rw [show (Lb.take k).length = k by rw [List.length_take]; omega] at hd
          refine hd.mono ?_
          clear hd
          rintro e w3 (⟨f3, A3, c3, E3, d3, hf, _⟩ | ⟨_, rfl, hb3⟩)
          · rw [← HLb.out] at hf
            exact (not_isLt_take HM.out HF.out (by rw [HLb.out]; omega) f3 hf).elim
          · have HS3 := Lib.hid (show Sep w (w3.alloc (.cells #[.int .i64 0, .int .i64 0, .int .u64 0, .int .u64 0, .int .i64 0, .int .u64 0, .int .u64 0, .slice none 0 0, .int .u64 0, .slice none 0 0, .bool false] 30)) [Ce w.heap.size 30 #[.int .i64 kind, .int .i64 node, .int .u64 (pinc : Int), .int .u64 (round : Int), .int .i64 snode, .int .u64 (sinc : Int), .int .u64 (n : Int), .slice A body.length c, .int .u64 (cid : Int), .slice E cut.length d, .bool want], By (.slice B1 Lb.length k1) Lb, Ce w3.heap.size 30 #[.int .i64 0, .int .i64 0, .int .u64 0, .int .u64 0, .int .i64 0, .int .u64 0, .int .u64 0, .slice none 0 0, .int .u64 0, .slice none 0 0, .bool false]] from sep_ce (HS2.out.grow hb3) #[.int .i64 0, .int .i64 0, .int .u64 0, .int .u64 0, .int .i64 0, .int .u64 0, .int .u64 0, .slice none 0 0, .int .u64 0, .slice none 0 0, .bool false] 30)
            rw [show Lt.nil.cells none 0 none 0 = #[.int .i64 0, .int .i64 0, .int .u64 0, .int .u64 0, .int .i64 0, .int .u64 0, .int .u64 0, .slice none 0 0, .int .u64 0, .slice none 0 0, .bool false] from rfl]
            clear HS2 hb3 H13
            go_wp2_with fail
            refine (ref10SameB (w := w3.alloc (.cells #[.int .i64 0, .int .i64 0, .int .u64 0, .int .u64 0, .int .i64 0, .int .u64 0, .int .u64 0, .slice none 0 0, .int .u64 0, .slice none 0 0, .bool false] 30)) (B := 0) (x := Lt.nil) (y := Lt.nil) (A := none) (A2 := none) (A' := none) (A2' := none) (c := 0) (c2 := 0) (c' := 0) (c2' := 0) (Lt.eqB_self _) Has.nil Has.nil Has.nil Has.nil (Nat.zero_le _) (by simp [Lt.nil]) (by simp [Lt.nil]) (by simp [Lt.nil]) (by simp [Lt.nil])).mono ?_
            rintro e w4 ⟨rfl, hb4⟩
            have HS5 := Lib.hid (show Sep w (w4.alloc (.cells #[] 5)) [Ce w.heap.size 30 #[.int .i64 kind, .int .i64 node, .int .u64 (pinc : Int), .int .u64 (round : Int), .int .i64 snode, .int .u64 (sinc : Int), .int .u64 (n : Int), .slice A body.length c, .int .u64 (cid : Int), .slice E cut.length d, .bool want], By (.slice B1 Lb.length k1) Lb, Ce w3.heap.size 30 #[.int .i64 0, .int .i64 0, .int .u64 0, .int .u64 0, .int .i64 0, .int .u64 0, .int .u64 0, .slice none 0 0, .int .u64 0, .slice none 0 0, .bool false], By (.slice (some ⟨w4.heap.size, 0, none⟩) 0 0) []] from sep_empty (HS3.out.grow hb4))
            clear HS3 hb4
            have hll : l1.length ≤ 500 := by omega
            go_wp2_with (at_builtin; first
              | (have ck := HS5; clear ck; go_must (refine sep_appB (i := 3) (m := Lb) rfl rfl (by rfl) (by rfl) HS5.out rfl (sep_byHas (i := 1) HS5.out rfl) (by simp; omega) ?_); intro v6 w6 hs6
                 have HS6 : Hid (Sep w w6 [Ce w.heap.size 30 #[.int .i64 kind, .int .i64 node, .int .u64 (pinc : Int), .int .u64 (round : Int), .int .i64 snode, .int .u64 (sinc : Int), .int .u64 (n : Int), .slice A body.length c, .int .u64 (cid : Int), .slice E cut.length d, .bool want], By (.slice B1 Lb.length k1) Lb, Ce w3.heap.size 30 #[.int .i64 0, .int .i64 0, .int .u64 0, .int .u64 0, .int .i64 0, .int .u64 0, .int .u64 0, .slice none 0 0, .int .u64 0, .slice none 0 0, .bool false], By v6 Lb]) := Lib.hid hs6
                 clear hs6 HS5)
              | (have ck := HS6; clear ck; go_must (refine sep_appB (i := 3) (m := l1) rfl rfl (by rfl) (by rfl) HS6.out rfl (HS6.out.has HA1.out) (by omega) ?_); intro v7 w7 hs7
                 have HS7 : Hid (Sep w w7 [Ce w.heap.size 30 #[.int .i64 kind, .int .i64 node, .int .u64 (pinc : Int), .int .u64 (round : Int), .int .i64 snode, .int .u64 (sinc : Int), .int .u64 (n : Int), .slice A body.length c, .int .u64 (cid : Int), .slice E cut.length d, .bool want], By (.slice B1 Lb.length k1) Lb, Ce w3.heap.size 30 #[.int .i64 0, .int .i64 0, .int .u64 0, .int .u64 0, .int .i64 0, .int .u64 0, .int .u64 0, .slice none 0 0, .int .u64 0, .slice none 0 0, .bool false], By v7 (Lb ++ l1)]) := Lib.hid hs7
                 clear hs7 HS6
                 obtain ⟨A7, c7, rfl, _, _, h73⟩ := sep_byForm (i := 3) HS7.out rfl
                 have H73 := Lib.hid h73
                 clear h73))
            have hd := decodeL_any w7 w7.heap.size A7 c7 (Lb ++ l1) H73.out (Nat.le_refl _) (by rw [List.length_append]; omega)
            rw [List.length_append] at hd
            refine hd.mono ?_
            clear hd
            rintro e w8 (⟨f8, A8, c8, E8, d8, hf, rfl, hbo, hbu, hb8⟩ | ⟨hn, rfl, hb8⟩)
            · have hR : l1 = [] := Classical.byContradiction fun hR => by
                rw [← HLb.out] at hf
                exact not_isLt_app HM.out HF.out hR f8 hf
              subst hR
              rw [List.append_nil] at hf
              obtain rfl := hf.inj ⟨HM.out, HF.out, HLb.out.symm⟩
              have HB8 := Lib.hid hbo.has
              obtain ⟨A88, c88, e88, _, _, hE8⟩ := hbu.form
              injection e88 with e88 _ e89
              subst e88 e89
              have HE8 := Lib.hid hE8
              clear hf hbo hbu hE8
              simp only at HB8 HE8
              have HS8 := Lib.hid (HS7.out.grow hb8)
              have hz8 := HS8.out.size
              clear HS7 hb8 H73
              rw [show (Lt.mk kind node pinc round snode sinc n body cid cut want).cells A8 c8 E8 d8 = #[.int .i64 kind, .int .i64 node, .int .u64 (pinc : Int), .int .u64 (round : Int), .int .i64 snode, .int .u64 (sinc : Int), .int .u64 (n : Int), .slice A8 body.length c8, .int .u64 (cid : Int), .slice E8 cut.length d8, .bool want] from rfl]
              have HS9 := Lib.hid (show Sep w (w8.alloc (.cells #[.int .i64 kind, .int .i64 node, .int .u64 (pinc : Int), .int .u64 (round : Int), .int .i64 snode, .int .u64 (sinc : Int), .int .u64 (n : Int), .slice A8 body.length c8, .int .u64 (cid : Int), .slice E8 cut.length d8, .bool want] 30)) _ from sep_ce HS8.out #[.int .i64 kind, .int .i64 node, .int .u64 (pinc : Int), .int .u64 (round : Int), .int .i64 snode, .int .u64 (sinc : Int), .int .u64 (n : Int), .slice A8 body.length c8, .int .u64 (cid : Int), .slice E8 cut.length d8, .bool want] 30)
              have hz := sep_ceLt (i := 0) HS8.out rfl
              have k0 := sep_ceAt (i := 0) HS8.out rfl 0 rfl
              have k1 := sep_ceAt (i := 0) HS8.out rfl 1 rfl
              have k2 := sep_ceAt (i := 0) HS8.out rfl 2 rfl
              have k3 := sep_ceAt (i := 0) HS8.out rfl 3 rfl
              have k4 := sep_ceAt (i := 0) HS8.out rfl 4 rfl
              have k5 := sep_ceAt (i := 0) HS8.out rfl 5 rfl
              have k6 := sep_ceAt (i := 0) HS8.out rfl 6 rfl
              have k7 := sep_ceAt (i := 0) HS8.out rfl 7 rfl
              have k8 := sep_ceAt (i := 0) HS8.out rfl 8 rfl
              have k9 := sep_ceAt (i := 0) HS8.out rfl 9 rfl
              have k10 := sep_ceAt (i := 0) HS8.out rfl 10 rfl
              simp only [List.length_nil]
              go_wp2_with fail
              clear k0 k1 k2 k3 k4 k5 k6 k7 k8 k9 k10
              refine (ref10SameB (w := w8.alloc (.cells #[.int .i64 kind, .int .i64 node, .int .u64 (pinc : Int), .int .u64 (round : Int), .int .i64 snode, .int .u64 (sinc : Int), .int .u64 (n : Int), .slice A8 body.length c8, .int .u64 (cid : Int), .slice E8 cut.length d8, .bool want] 30)) (B := w8.heap.size) (x := (Lt.mk kind node pinc round snode sinc n body cid cut want)) (y := (Lt.mk kind node pinc round snode sinc n body cid cut want)) (A := A8) (A2 := E8) (A' := A) (A2' := E) (c := c8) (c2 := d8) (c' := c) (c2' := d) (Lt.eqB_self _) (HB8.out.alloc (Nat.le_refl _) _) (HE8.out.alloc (Nat.le_refl _) _) ((HS9.out.has HA.out).more hz8) ((HS9.out.has HE.out).more hz8) (le_alloc (Nat.le_refl _) _) (by simp only; omega) (by simp only; omega) (by simp only; omega) (by simp only; omega)).mono ?_
              rintro e u5 ⟨rfl, hb5⟩
              have HT := Lib.hid (HS9.out.grow hb5)
              clear HS9 HS8 HB8 HE8 hb5
              go_wp2_with fail
              refine (awake10 u5).mono ?_
              rintro e w6 ⟨rfl, hb6⟩
              go_wp2_with fail
              go_ret
              exact ⟨rfl, HT.out.bel.trans (hb6.mono HT.out.size)⟩
            · have hR : l1 ≠ [] := fun hR => hn (Lt.mk kind node pinc round snode sinc n body cid cut want) (by rw [hR, List.append_nil]; exact ⟨HM.out, HF.out, HLb.out.symm⟩)
              have hR1 : 1 ≤ l1.length := List.length_pos_iff.2 hR
              have e_0 : (((l1.length : Nat) : Int) == 0) = false := beq_eq_false_iff_ne.2 (by omega)
              have HT := Lib.hid (show Sep w (w8.alloc (.cells #[.int .i64 0, .int .i64 0, .int .u64 0, .int .u64 0, .int .i64 0, .int .u64 0, .int .u64 0, .slice none 0 0, .int .u64 0, .slice none 0 0, .bool false] 30)) _ from sep_ce (HS7.out.grow hb8) #[.int .i64 0, .int .i64 0, .int .u64 0, .int .u64 0, .int .i64 0, .int .u64 0, .int .u64 0, .slice none 0 0, .int .u64 0, .slice none 0 0, .bool false] 30)
              rw [show Lt.nil.cells none 0 none 0 = #[.int .i64 0, .int .i64 0, .int .u64 0, .int .u64 0, .int .i64 0, .int .u64 0, .int .u64 0, .slice none 0 0, .int .u64 0, .slice none 0 0, .bool false] from rfl]
              clear HS7 hb8 H73 hn hR
              go_wp2_with fail
              refine (awake10 _).mono ?_
              rintro e w6 ⟨rfl, hb6⟩
              go_wp2_with fail
              go_ret
              exact ⟨rfl, HT.out.bel.trans (hb6.mono HT.out.size)⟩
      · have hmf : (Lt.mk kind node pinc round snode sinc n body cid cut want).may = false := by simpa using hmy
        have he := encL_no w1 w.heap.size (Lt.mk kind node pinc round snode sinc n body cid cut want) A E c d (HS1.out.has HE.out) HS1.out.size (by simp only; omega) (by simp only; omega) HU.out hmf
        clear hmy hmf
        refine he.mono ?_
        clear he
        rintro e w2 ⟨rfl, hb1⟩
        have HS2 := Lib.hid (HS1.out.grow hb1)
        clear HS1 hb1
        go_wp2_with fail
        refine (awake10 w2).mono ?_
        rintro e w6 ⟨rfl, hb6⟩
        go_wp2_with fail
        go_ret
        exact ⟨rfl, HS2.out.bel.trans (hb6.mono HS2.out.size)⟩
end Go.Proofs.Ytbnjlminjopaaaa
