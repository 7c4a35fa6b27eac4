/- The walk of the law LetterBack. -/
import Derived.Test.YtbnjlminjopaaaaLetA
import Derived.Test.YtbnjlminjopaaaaLetH
import Derived.Test.YtbnjlminjopaaaaLetT
import Derived.Test.YtbnjlminjopaaaaRgF
import Derived.Test.YtbnjlminjopaaaaLetL
namespace Go.Proofs.Ytbnjlminjopaaaa
open Go Go.RowKit
set_option linter.unusedVariables false
set_option maxRecDepth 100000
set_option linter.unusedSimpArgs false

theorem Lt.plain_len {x : Lt} (h : x.may = true) : x.plain.length ≤ 320 ∧ 5 ≤ x.plain.length := by
  have h1 := Code.short_length x.pinc
  have h2 := Code.short_length x.round
  have h3 := Code.short_length x.sinc
  have h4 := Code.short_length x.cid
  have ht : x.tail.length ≤ 120 := by
    unfold Lt.tail
    rcases Lt.kinds h with ⟨e, _, _, hb, _⟩ | ⟨e, _, _, ⟨hc, _⟩, _⟩ | ⟨e, _, _, _, ⟨hc, _⟩⟩
    · rw [if_pos e]
      have h5 := Code.short_length x.body.length
      simp only [List.length_cons, Code.text, List.length_append]
      omega
    · rw [if_neg (by omega), if_pos e]
      simp only [List.length_append, cutB, List.length_cons, List.length_map]
      omega
    · rw [if_neg (by omega), if_neg (by omega)]
      simp only [List.length_append, cutB, List.length_cons, List.length_map, List.length_nil]
      omega
  have hh : x.head.length ≤ 36 ∧ 5 ≤ x.head.length := by
    unfold Lt.head
    simp only [List.length_cons, List.length_append]
    omega
  unfold Lt.plain
  rw [List.length_append]
  omega

set_option maxHeartbeats 6400000 in
theorem letterBack_walk (w : World) (x : Lt) (A E : Option Addr) (c d : Nat) (A1 : Option Addr) (c1 : Nat) (l1 : List UInt8) (hA : Has w w.heap.size A (us x.body)) (hE : Has w w.heap.size E (u64s x.cut)) (hf : x.fits) (hu : ∀ y ∈ x.cut, y < 18446744073709551616) (hA1 : Has w w.heap.size A1 (us l1)) :
    Calls Try.prog 6 #[.agg (x.cells A c E d), .slice A1 l1.length c1] w fun e w' => e = .returned (.bool true) ∧ Below w.heap.size w w' := by
  have HA := Lib.hid hA
  have HE := Lib.hid hE
  have HF := Lib.hid hf
  have HU := Lib.hid hu
  clear hA hE hf hu
  obtain ⟨kind, node, pinc, round, snode, sinc, n, body, cid, cut, want⟩ := x
  simp only at HA HE HU
  have HA1 := Lib.hid hA1
  clear hA1
  have HS0 := Lib.hid (show Sep w (w.alloc (.cells #[.int .i64 kind, .int .i64 node, .int .u64 (pinc : Int), .int .u64 (round : Int), .int .i64 snode, .int .u64 (sinc : Int), .int .u64 (n : Int), .slice A body.length c, .int .u64 (cid : Int), .slice E cut.length d, .bool want] 30)) [Ce w.heap.size 30 #[.int .i64 kind, .int .i64 node, .int .u64 (pinc : Int), .int .u64 (round : Int), .int .i64 snode, .int .u64 (sinc : Int), .int .u64 (n : Int), .slice A body.length c, .int .u64 (cid : Int), .slice E cut.length d, .bool want]] from sep_ce (Sep.nil w) #[.int .i64 kind, .int .i64 node, .int .u64 (pinc : Int), .int .u64 (round : Int), .int .i64 snode, .int .u64 (sinc : Int), .int .u64 (n : Int), .slice A body.length c, .int .u64 (cid : Int), .slice E cut.length d, .bool want] 30)
  by_cases hv1 : 3000 < body.length ∨ 300 < cut.length
  · simp only [Lt.cells]
    go_enter Try.func6, Try.ntmps6
    go_wp2_with fail
    refine (heavyB (x := (Lt.mk kind node pinc round snode sinc n body cid cut want)) (b := true) (decide_eq_true hv1)).mono ?_
    rintro e w1 ⟨rfl, hb1⟩
    have HS1 := Lib.hid (HS0.out.grow hb1)
    clear HS0 hb1
    go_wp2_with fail
    refine (awake10 _).mono ?_
    rintro e w6 ⟨rfl, hb6⟩
    go_wp2_with fail
    go_ret
    exact ⟨rfl, HS1.out.bel.trans (hb6.mono HS1.out.size)⟩
  · have HV1 := Lib.hid (show decide (3000 < body.length ∨ 300 < cut.length) = false from decide_eq_false hv1)
    have hl1 : body.length ≤ 3000 := by omega
    have hm1 : cut.length ≤ 300 := by omega
    clear hv1
    by_cases hlong : 5000 < l1.length
    · simp only [Lt.cells]
      go_enter Try.func6, Try.ntmps6
      go_wp2_with fail
      refine (heavyB (x := (Lt.mk kind node pinc round snode sinc n body cid cut want)) (b := false) HV1.out).mono ?_
      rintro e w1 ⟨rfl, hb1⟩
      have HS1 := Lib.hid (HS0.out.grow hb1)
      clear HS0 hb1
      go_wp2_with fail
      refine (awake10 _).mono ?_
      rintro e w6 ⟨rfl, hb6⟩
      go_wp2_with fail
      go_ret
      exact ⟨rfl, HS1.out.bel.trans (hb6.mono HS1.out.size)⟩
    · simp only [Lt.cells]
      go_enter Try.func6, Try.ntmps6
      go_wp2_with fail
      refine (heavyB (x := (Lt.mk kind node pinc round snode sinc n body cid cut want)) (b := false) HV1.out).mono ?_
      rintro e w1 ⟨rfl, hb1⟩
      have HS1 := Lib.hid (HS0.out.grow hb1)
      clear HS0 hb1 HV1
      have k0 := sep_ceAt (i := 0) HS1.out rfl 0 rfl
      have k1 := sep_ceAt (i := 0) HS1.out rfl 1 rfl
      have k2 := sep_ceAt (i := 0) HS1.out rfl 2 rfl
      have k3 := sep_ceAt (i := 0) HS1.out rfl 3 rfl
      have k4 := sep_ceAt (i := 0) HS1.out rfl 4 rfl
      have k5 := sep_ceAt (i := 0) HS1.out rfl 5 rfl
      have k6 := sep_ceAt (i := 0) HS1.out rfl 6 rfl
      have k7 := sep_ceAt (i := 0) HS1.out rfl 7 rfl
      have k8 := sep_ceAt (i := 0) HS1.out rfl 8 rfl
      have k9 := sep_ceAt (i := 0) HS1.out rfl 9 rfl
      have k10 := sep_ceAt (i := 0) HS1.out rfl 10 rfl
      go_wp2_with fail
      clear k0 k1 k2 k3 k4 k5 k6 k7 k8 k9 k10
      by_cases hmy : (Lt.mk kind node pinc round snode sinc n body cid cut want).may = true
      · have HM := Lib.hid hmy
        have he := encL_yes w1 w.heap.size (Lt.mk kind node pinc round snode sinc n body cid cut want) A E c d (HS1.out.has HA.out) (HS1.out.has HE.out) HS1.out.size HF.out.1 HF.out.2.1 HF.out.2.2.1 HF.out.2.2.2 hmy
        have hpl := Lt.plain_len hmy
        clear hmy
        refine he.mono ?_
        clear he
        rintro e w2 ⟨v1, rfl, ho1, hb1⟩
        have HS2 := Lib.hid (show Sep w w2 [Ce w.heap.size 30 #[.int .i64 kind, .int .i64 node, .int .u64 (pinc : Int), .int .u64 (round : Int), .int .i64 snode, .int .u64 (sinc : Int), .int .u64 (n : Int), .slice A body.length c, .int .u64 (cid : Int), .slice E cut.length d, .bool want], By v1 (Lt.mk kind node pinc round snode sinc n body cid cut want).plain] from sep_newBy HS1.out ho1 hb1)
        clear HS1 ho1 hb1
        obtain ⟨Lb, HLb⟩ : ∃ L, Hid ((Lt.mk kind node pinc round snode sinc n body cid cut want).plain = L) := ⟨_, Lib.hid rfl⟩
        rw [HLb.out] at HS2 hpl
        obtain ⟨B1, k1, rfl, h11, h12, h13⟩ := sep_byForm (i := 1) HS2.out rfl
        have H13 := Lib.hid h13
        clear h13
        go_wp2_with fail
        refine (decodeL_any w2 w2.heap.size B1 k1 Lb H13.out (Nat.le_refl _) (by omega)).mono ?_
        rintro e w3 (⟨f3, A3, c3, E3, d3, hf, rfl, hbo, hbu, hb3⟩ | ⟨hn, _, _⟩)
        · obtain rfl := hf.inj ⟨HM.out, HF.out, HLb.out.symm⟩
          have HB3 := Lib.hid hbo.has
          obtain ⟨A33, c33, e33, _, _, hE3⟩ := hbu.form
          injection e33 with e33 _ e34
          subst e33 e34
          have HE3 := Lib.hid hE3
          clear hf hbo hbu hE3
          simp only at HB3 HE3
          have HS3 := Lib.hid (HS2.out.grow hb3)
          clear HS2 H13 hb3
          rw [show (Lt.mk kind node pinc round snode sinc n body cid cut want).cells A3 c3 E3 d3 = #[.int .i64 kind, .int .i64 node, .int .u64 (pinc : Int), .int .u64 (round : Int), .int .i64 snode, .int .u64 (sinc : Int), .int .u64 (n : Int), .slice A3 body.length c3, .int .u64 (cid : Int), .slice E3 cut.length d3, .bool want] from rfl]
          have HS4 := Lib.hid (show Sep w (w3.alloc (.cells #[.int .i64 kind, .int .i64 node, .int .u64 (pinc : Int), .int .u64 (round : Int), .int .i64 snode, .int .u64 (sinc : Int), .int .u64 (n : Int), .slice A3 body.length c3, .int .u64 (cid : Int), .slice E3 cut.length d3, .bool want] 30)) [Ce w.heap.size 30 #[.int .i64 kind, .int .i64 node, .int .u64 (pinc : Int), .int .u64 (round : Int), .int .i64 snode, .int .u64 (sinc : Int), .int .u64 (n : Int), .slice A body.length c, .int .u64 (cid : Int), .slice E cut.length d, .bool want], By (.slice B1 Lb.length k1) Lb, Ce w3.heap.size 30 #[.int .i64 kind, .int .i64 node, .int .u64 (pinc : Int), .int .u64 (round : Int), .int .i64 snode, .int .u64 (sinc : Int), .int .u64 (n : Int), .slice A3 body.length c3, .int .u64 (cid : Int), .slice E3 cut.length d3, .bool want]] from sep_ce HS3.out _ _)
          have hz := sep_ceLt (i := 0) HS3.out rfl
          have k0 := sep_ceAt (i := 0) HS3.out rfl 0 rfl
          have k1 := sep_ceAt (i := 0) HS3.out rfl 1 rfl
          have k2 := sep_ceAt (i := 0) HS3.out rfl 2 rfl
          have k3 := sep_ceAt (i := 0) HS3.out rfl 3 rfl
          have k4 := sep_ceAt (i := 0) HS3.out rfl 4 rfl
          have k5 := sep_ceAt (i := 0) HS3.out rfl 5 rfl
          have k6 := sep_ceAt (i := 0) HS3.out rfl 6 rfl
          have k7 := sep_ceAt (i := 0) HS3.out rfl 7 rfl
          have k8 := sep_ceAt (i := 0) HS3.out rfl 8 rfl
          have k9 := sep_ceAt (i := 0) HS3.out rfl 9 rfl
          have k10 := sep_ceAt (i := 0) HS3.out rfl 10 rfl
          go_wp2_with fail
          clear k0 k1 k2 k3 k4 k5 k6 k7 k8 k9 k10
          refine (ref10SameB (w := w3.alloc (.cells #[.int .i64 kind, .int .i64 node, .int .u64 (pinc : Int), .int .u64 (round : Int), .int .i64 snode, .int .u64 (sinc : Int), .int .u64 (n : Int), .slice A3 body.length c3, .int .u64 (cid : Int), .slice E3 cut.length d3, .bool want] 30)) (B := w3.heap.size) (x := (Lt.mk kind node pinc round snode sinc n body cid cut want)) (y := (Lt.mk kind node pinc round snode sinc n body cid cut want)) (A := A) (A2 := E) (A' := A3) (A2' := E3) (c := c) (c2 := d) (c' := c3) (c2' := d3) (Lt.eqB_self _) ((HS4.out.has HA.out).more HS3.out.size) ((HS4.out.has HE.out).more HS3.out.size) (HB3.out.alloc (Nat.le_refl _) _) (HE3.out.alloc (Nat.le_refl _) _) (le_alloc (Nat.le_refl _) _) (by simp only; omega) (by simp only; omega) (by simp only; omega) (by simp only; omega)).mono ?_
          rintro e w5 ⟨rfl, hb5⟩
          have HS5 := Lib.hid (HS4.out.grow hb5)
          clear HS4 HS3 HB3 HE3 hb5 hz
          go_wp2_with fail
          refine (decodeL_any w5 w.heap.size A1 c1 l1 (HS5.out.has HA1.out) HS5.out.size (by omega)).mono ?_
          rintro e u1 (⟨y, A7, c7, E7, d7, hy, rfl, hbo, hbu, hb⟩ | ⟨hn, rfl, hb⟩)
          · have HY := Lib.hid hy
            have HB3 := Lib.hid hbo.has
            obtain ⟨A77, c77, e77, _, _, hE3⟩ := hbu.form
            injection e77 with e77 _ e34
            subst e77 e34
            have HE3 := Lib.hid hE3
            have hk := Lt.kinds hy.1
            have hyb : y.body.length ≤ 64 := by
              rcases hk with h | h | h
              · exact h.2.2.2.1
              · rw [h.2.2.1]; simp
              · rw [h.2.2.1]; simp
            clear hy hbo hbu hE3 hk
            obtain ⟨kindy, nodey, pincy, roundy, snodey, sincy, ny, bodyy, cidy, cuty, wanty⟩ := y
            simp only at HB3 HE3 hyb
            have HT1 := Lib.hid (show Sep w (u1.alloc (.cells #[.int .i64 kindy, .int .i64 nodey, .int .u64 (pincy : Int), .int .u64 (roundy : Int), .int .i64 snodey, .int .u64 (sincy : Int), .int .u64 (ny : Int), .slice A7 bodyy.length c7, .int .u64 (cidy : Int), .slice E7 cuty.length d7, .bool wanty] 30)) [Ce w.heap.size 30 #[.int .i64 kind, .int .i64 node, .int .u64 (pinc : Int), .int .u64 (round : Int), .int .i64 snode, .int .u64 (sinc : Int), .int .u64 (n : Int), .slice A body.length c, .int .u64 (cid : Int), .slice E cut.length d, .bool want], By (.slice B1 Lb.length k1) Lb, Ce w3.heap.size 30 #[.int .i64 kind, .int .i64 node, .int .u64 (pinc : Int), .int .u64 (round : Int), .int .i64 snode, .int .u64 (sinc : Int), .int .u64 (n : Int), .slice A3 body.length c3, .int .u64 (cid : Int), .slice E3 cut.length d3, .bool want], Ce u1.heap.size 30 #[.int .i64 kindy, .int .i64 nodey, .int .u64 (pincy : Int), .int .u64 (roundy : Int), .int .i64 snodey, .int .u64 (sincy : Int), .int .u64 (ny : Int), .slice A7 bodyy.length c7, .int .u64 (cidy : Int), .slice E7 cuty.length d7, .bool wanty]] from sep_ce (HS5.out.grow hb) #[.int .i64 kindy, .int .i64 nodey, .int .u64 (pincy : Int), .int .u64 (roundy : Int), .int .i64 snodey, .int .u64 (sincy : Int), .int .u64 (ny : Int), .slice A7 bodyy.length c7, .int .u64 (cidy : Int), .slice E7 cuty.length d7, .bool wanty] 30)
            have hz := HS5.out.size
            have hz2 := hb.size
            have he := encL_yes (u1.alloc (.cells #[.int .i64 kindy, .int .i64 nodey, .int .u64 (pincy : Int), .int .u64 (roundy : Int), .int .i64 snodey, .int .u64 (sincy : Int), .int .u64 (ny : Int), .slice A7 bodyy.length c7, .int .u64 (cidy : Int), .slice E7 cuty.length d7, .bool wanty] 30)) u1.heap.size (Lt.mk kindy nodey pincy roundy snodey sincy ny bodyy cidy cuty wanty) A7 E7 c7 d7 (HB3.out.alloc (Nat.le_refl _) _) (HE3.out.alloc (Nat.le_refl _) _) (le_alloc (Nat.le_refl _) _) HY.out.2.1.1 HY.out.2.1.2.1 HY.out.2.1.2.2.1 HY.out.2.1.2.2.2 HY.out.1
            rw [← HY.out.2.2] at he
            simp only [Lt.cells] at he ⊢
            clear HS5
            go_wp2_with fail
            refine he.mono ?_
            clear he
            rintro e u2 ⟨v2, rfl, ho2, hb2⟩
            have HT2 := Lib.hid (show Sep w u2 [Ce w.heap.size 30 #[.int .i64 kind, .int .i64 node, .int .u64 (pinc : Int), .int .u64 (round : Int), .int .i64 snode, .int .u64 (sinc : Int), .int .u64 (n : Int), .slice A body.length c, .int .u64 (cid : Int), .slice E cut.length d, .bool want], By (.slice B1 Lb.length k1) Lb, Ce w3.heap.size 30 #[.int .i64 kind, .int .i64 node, .int .u64 (pinc : Int), .int .u64 (round : Int), .int .i64 snode, .int .u64 (sinc : Int), .int .u64 (n : Int), .slice A3 body.length c3, .int .u64 (cid : Int), .slice E3 cut.length d3, .bool want], Ce u1.heap.size 30 #[.int .i64 kindy, .int .i64 nodey, .int .u64 (pincy : Int), .int .u64 (roundy : Int), .int .i64 snodey, .int .u64 (sincy : Int), .int .u64 (ny : Int), .slice A7 bodyy.length c7, .int .u64 (cidy : Int), .slice E7 cuty.length d7, .bool wanty], By v2 l1] from sep_newBy HT1.out ho2 hb2)
            clear HT1 ho2 hb2
            obtain ⟨A5, c5, rfl, h51, h52, h53⟩ := sep_byForm (i := 4) HT2.out rfl
            have t2 := run_str (c := c5) h53
            have t3 := run_str (c := c1) (HT2.out.has HA1.out)
            clear h51 h52 h53
            go_wp2_with fail
            clear t2 t3
            refine (awake10 u2).mono ?_
            rintro e w6 ⟨rfl, hb6⟩
            go_wp2_with fail
            go_ret
            exact ⟨rfl, HT2.out.bel.trans (hb6.mono HT2.out.size)⟩
          · have HT1 := Lib.hid (show Sep w (u1.alloc (.cells #[.int .i64 0, .int .i64 0, .int .u64 0, .int .u64 0, .int .i64 0, .int .u64 0, .int .u64 0, .slice none 0 0, .int .u64 0, .slice none 0 0, .bool false] 30)) [Ce w.heap.size 30 #[.int .i64 kind, .int .i64 node, .int .u64 (pinc : Int), .int .u64 (round : Int), .int .i64 snode, .int .u64 (sinc : Int), .int .u64 (n : Int), .slice A body.length c, .int .u64 (cid : Int), .slice E cut.length d, .bool want], By (.slice B1 Lb.length k1) Lb, Ce w3.heap.size 30 #[.int .i64 kind, .int .i64 node, .int .u64 (pinc : Int), .int .u64 (round : Int), .int .i64 snode, .int .u64 (sinc : Int), .int .u64 (n : Int), .slice A3 body.length c3, .int .u64 (cid : Int), .slice E3 cut.length d3, .bool want], Ce u1.heap.size 30 #[.int .i64 0, .int .i64 0, .int .u64 0, .int .u64 0, .int .i64 0, .int .u64 0, .int .u64 0, .slice none 0 0, .int .u64 0, .slice none 0 0, .bool false]] from sep_ce (HS5.out.grow hb) #[.int .i64 0, .int .i64 0, .int .u64 0, .int .u64 0, .int .i64 0, .int .u64 0, .int .u64 0, .slice none 0 0, .int .u64 0, .slice none 0 0, .bool false] 30)
            rw [show Lt.nil.cells none 0 none 0 = #[.int .i64 0, .int .i64 0, .int .u64 0, .int .u64 0, .int .i64 0, .int .u64 0, .int .u64 0, .slice none 0 0, .int .u64 0, .slice none 0 0, .bool false] from rfl]
            clear HS5 hb hn
            go_wp2_with fail
            refine (ref10SameB (w := u1.alloc (.cells #[.int .i64 0, .int .i64 0, .int .u64 0, .int .u64 0, .int .i64 0, .int .u64 0, .int .u64 0, .slice none 0 0, .int .u64 0, .slice none 0 0, .bool false] 30)) (B := 0) (x := Lt.nil) (y := Lt.nil) (A := none) (A2 := none) (A' := none) (A2' := none) (c := 0) (c2 := 0) (c' := 0) (c2' := 0) (Lt.eqB_self _) Has.nil Has.nil Has.nil Has.nil (Nat.zero_le _) (by simp [Lt.nil]) (by simp [Lt.nil]) (by simp [Lt.nil]) (by simp [Lt.nil])).mono ?_
            rintro e u2 ⟨rfl, hb2⟩
            have HT2 := Lib.hid (HT1.out.grow hb2)
            clear HT1 hb2
            go_wp2_with fail
            refine (awake10 u2).mono ?_
            rintro e w6 ⟨rfl, hb6⟩
            go_wp2_with fail
            go_ret
            exact ⟨rfl, HT2.out.bel.trans (hb6.mono HT2.out.size)⟩
        · exact (hn (Lt.mk kind node pinc round snode sinc n body cid cut want) ⟨HM.out, HF.out, HLb.out.symm⟩).elim
      · have hmf : (Lt.mk kind node pinc round snode sinc n body cid cut want).may = false := by simpa using hmy
        have he := encL_no w1 w.heap.size (Lt.mk kind node pinc round snode sinc n body cid cut want) A E c d (HS1.out.has HE.out) HS1.out.size (by simp only; omega) (by simp only; omega) HU.out hmf
        clear hmy hmf
        refine he.mono ?_
        clear he
        rintro e w2 ⟨rfl, hb1⟩
        have HS2 := Lib.hid (HS1.out.grow hb1)
        clear HS1 hb1
        go_wp2_with fail
        refine (decodeL_any w2 w.heap.size A1 c1 l1 (HS2.out.has HA1.out) HS2.out.size (by omega)).mono ?_
        rintro e u1 (⟨y, A7, c7, E7, d7, hy, rfl, hbo, hbu, hb⟩ | ⟨hn, rfl, hb⟩)
        · have HY := Lib.hid hy
          have HB3 := Lib.hid hbo.has
          obtain ⟨A77, c77, e77, _, _, hE3⟩ := hbu.form
          injection e77 with e77 _ e34
          subst e77 e34
          have HE3 := Lib.hid hE3
          have hk := Lt.kinds hy.1
          have hyb : y.body.length ≤ 64 := by
            rcases hk with h | h | h
            · exact h.2.2.2.1
            · rw [h.2.2.1]; simp
            · rw [h.2.2.1]; simp
          clear hy hbo hbu hE3 hk
          obtain ⟨kindy, nodey, pincy, roundy, snodey, sincy, ny, bodyy, cidy, cuty, wanty⟩ := y
          simp only at HB3 HE3 hyb
          have HT1 := Lib.hid (show Sep w (u1.alloc (.cells #[.int .i64 kindy, .int .i64 nodey, .int .u64 (pincy : Int), .int .u64 (roundy : Int), .int .i64 snodey, .int .u64 (sincy : Int), .int .u64 (ny : Int), .slice A7 bodyy.length c7, .int .u64 (cidy : Int), .slice E7 cuty.length d7, .bool wanty] 30)) [Ce w.heap.size 30 #[.int .i64 kind, .int .i64 node, .int .u64 (pinc : Int), .int .u64 (round : Int), .int .i64 snode, .int .u64 (sinc : Int), .int .u64 (n : Int), .slice A body.length c, .int .u64 (cid : Int), .slice E cut.length d, .bool want], Ce u1.heap.size 30 #[.int .i64 kindy, .int .i64 nodey, .int .u64 (pincy : Int), .int .u64 (roundy : Int), .int .i64 snodey, .int .u64 (sincy : Int), .int .u64 (ny : Int), .slice A7 bodyy.length c7, .int .u64 (cidy : Int), .slice E7 cuty.length d7, .bool wanty]] from sep_ce (HS2.out.grow hb) #[.int .i64 kindy, .int .i64 nodey, .int .u64 (pincy : Int), .int .u64 (roundy : Int), .int .i64 snodey, .int .u64 (sincy : Int), .int .u64 (ny : Int), .slice A7 bodyy.length c7, .int .u64 (cidy : Int), .slice E7 cuty.length d7, .bool wanty] 30)
          have hz := HS2.out.size
          have hz2 := hb.size
          have he := encL_yes (u1.alloc (.cells #[.int .i64 kindy, .int .i64 nodey, .int .u64 (pincy : Int), .int .u64 (roundy : Int), .int .i64 snodey, .int .u64 (sincy : Int), .int .u64 (ny : Int), .slice A7 bodyy.length c7, .int .u64 (cidy : Int), .slice E7 cuty.length d7, .bool wanty] 30)) u1.heap.size (Lt.mk kindy nodey pincy roundy snodey sincy ny bodyy cidy cuty wanty) A7 E7 c7 d7 (HB3.out.alloc (Nat.le_refl _) _) (HE3.out.alloc (Nat.le_refl _) _) (le_alloc (Nat.le_refl _) _) HY.out.2.1.1 HY.out.2.1.2.1 HY.out.2.1.2.2.1 HY.out.2.1.2.2.2 HY.out.1
          rw [← HY.out.2.2] at he
          simp only [Lt.cells] at he ⊢
          clear HS2
          go_wp2_with fail
          refine he.mono ?_
          clear he
          rintro e u2 ⟨v2, rfl, ho2, hb2⟩
          have HT2 := Lib.hid (show Sep w u2 [Ce w.heap.size 30 #[.int .i64 kind, .int .i64 node, .int .u64 (pinc : Int), .int .u64 (round : Int), .int .i64 snode, .int .u64 (sinc : Int), .int .u64 (n : Int), .slice A body.length c, .int .u64 (cid : Int), .slice E cut.length d, .bool want], Ce u1.heap.size 30 #[.int .i64 kindy, .int .i64 nodey, .int .u64 (pincy : Int), .int .u64 (roundy : Int), .int .i64 snodey, .int .u64 (sincy : Int), .int .u64 (ny : Int), .slice A7 bodyy.length c7, .int .u64 (cidy : Int), .slice E7 cuty.length d7, .bool wanty], By v2 l1] from sep_newBy HT1.out ho2 hb2)
          clear HT1 ho2 hb2
          obtain ⟨A5, c5, rfl, h51, h52, h53⟩ := sep_byForm (i := 2) HT2.out rfl
          have t2 := run_str (c := c5) h53
          have t3 := run_str (c := c1) (HT2.out.has HA1.out)
          clear h51 h52 h53
          go_wp2_with fail
          clear t2 t3
          refine (awake10 u2).mono ?_
          rintro e w6 ⟨rfl, hb6⟩
          go_wp2_with fail
          go_ret
          exact ⟨rfl, HT2.out.bel.trans (hb6.mono HT2.out.size)⟩
        · have HT1 := Lib.hid (show Sep w (u1.alloc (.cells #[.int .i64 0, .int .i64 0, .int .u64 0, .int .u64 0, .int .i64 0, .int .u64 0, .int .u64 0, .slice none 0 0, .int .u64 0, .slice none 0 0, .bool false] 30)) [Ce w.heap.size 30 #[.int .i64 kind, .int .i64 node, .int .u64 (pinc : Int), .int .u64 (round : Int), .int .i64 snode, .int .u64 (sinc : Int), .int .u64 (n : Int), .slice A body.length c, .int .u64 (cid : Int), .slice E cut.length d, .bool want], Ce u1.heap.size 30 #[.int .i64 0, .int .i64 0, .int .u64 0, .int .u64 0, .int .i64 0, .int .u64 0, .int .u64 0, .slice none 0 0, .int .u64 0, .slice none 0 0, .bool false]] from sep_ce (HS2.out.grow hb) #[.int .i64 0, .int .i64 0, .int .u64 0, .int .u64 0, .int .i64 0, .int .u64 0, .int .u64 0, .slice none 0 0, .int .u64 0, .slice none 0 0, .bool false] 30)
          rw [show Lt.nil.cells none 0 none 0 = #[.int .i64 0, .int .i64 0, .int .u64 0, .int .u64 0, .int .i64 0, .int .u64 0, .int .u64 0, .slice none 0 0, .int .u64 0, .slice none 0 0, .bool false] from rfl]
          clear HS2 hb hn
          go_wp2_with fail
          refine (ref10SameB (w := u1.alloc (.cells #[.int .i64 0, .int .i64 0, .int .u64 0, .int .u64 0, .int .i64 0, .int .u64 0, .int .u64 0, .slice none 0 0, .int .u64 0, .slice none 0 0, .bool false] 30)) (B := 0) (x := Lt.nil) (y := Lt.nil) (A := none) (A2 := none) (A' := none) (A2' := none) (c := 0) (c2 := 0) (c' := 0) (c2' := 0) (Lt.eqB_self _) Has.nil Has.nil Has.nil Has.nil (Nat.zero_le _) (by simp [Lt.nil]) (by simp [Lt.nil]) (by simp [Lt.nil]) (by simp [Lt.nil])).mono ?_
          rintro e u2 ⟨rfl, hb2⟩
          have HT2 := Lib.hid (HT1.out.grow hb2)
          clear HT1 hb2
          go_wp2_with fail
          refine (awake10 u2).mono ?_
          rintro e w6 ⟨rfl, hb6⟩
          go_wp2_with fail
          go_ret
          exact ⟨rfl, HT2.out.bel.trans (hb6.mono HT2.out.size)⟩
end Go.Proofs.Ytbnjlminjopaaaa
