/- The walk of the law LetterReads. -/
import Derived.Test.YtbnjlminjopaaaaLetA
import Derived.Test.YtbnjlminjopaaaaLetH
import Derived.Test.YtbnjlminjopaaaaLetT
import Derived.Test.YtbnjlminjopaaaaRgF
import Derived.Test.YtbnjlminjopaaaaLetterBack
import Derived.Test.YtbnjlminjopaaaaLetX
namespace Go.Proofs.Ytbnjlminjopaaaa
open Go Go.RowKit
set_option linter.unusedVariables false
set_option maxRecDepth 100000
set_option linter.unusedSimpArgs false

set_option maxHeartbeats 6400000 in
theorem letterReads_walk (w : World) (A : Option Addr) (c : Nat) (l : List UInt8) (hA : Has w w.heap.size A (us l)) (hc : l.length ≤ c) (hm : c ≤ maxLen) :
    Calls Try.prog 5 #[.slice A l.length c] w fun e w' => e = .returned (.bool true) ∧ Below w.heap.size w w' := by
  have HA := Lib.hid hA
  have HC := Lib.hid hc
  have HM := Lib.hid hm
  clear hA hc hm
  by_cases hlong : 5000 < l.length
  · go_enter Try.func5, Try.ntmps5
    go_wp2_with fail
    refine (awake10 w).mono ?_
    rintro e w1 ⟨rfl, hb1⟩
    go_wp2_with fail
    go_ret
    exact ⟨rfl, hb1⟩
  · have hl5 : l.length ≤ 5000 := by omega
    have HS0 := Lib.hid (show Sep w (w.alloc (.cells #[] 5)) [By (.slice (some ⟨w.heap.size, 0, none⟩) 0 0) []] from sep_empty (Sep.nil w))
    go_enter Try.func5, Try.ntmps5
    go_wp2_with (at_builtin; go_must (refine sep_appB (i := 0) (c := c) (A := A) (m := l) rfl rfl (by rfl) (by rfl) HS0.out rfl (HS0.out.has HA.out) (by simp; omega) ?_); intro v1 w1 hs1
                 have HS1 : Hid (Sep w w1 [By v1 l]) := Lib.hid hs1
                 obtain ⟨A1, c1, rfl, _, _, h13⟩ := sep_byForm (i := 0) HS1.out rfl
                 have H13 := Lib.hid h13
                 clear hs1 HS0 h13)
    refine (decodeL_any w1 w1.heap.size A1 c1 l H13.out (Nat.le_refl _) (by omega)).mono ?_
    clear H13
    rintro e w2 (⟨x, A3, c3, E3, d3, hx, rfl, hbo, hbu, hb2⟩ | ⟨hn, rfl, hb2⟩)
    · have HX := Lib.hid hx
      have HB3 := Lib.hid hbo.has
      obtain ⟨A33, c33, e33, _, _, hE3⟩ := hbu.form
      injection e33 with e33 _ e34
      subst e33 e34
      have HE3 := Lib.hid hE3
      have hk := Lt.kinds hx.1
      have hxb : x.body.length ≤ 5000 ∧ x.cut.length ≤ 300 := by
        rcases hk with h | h | h
        · exact ⟨by omega, by rw [h.2.2.2.2.2.1]; simp⟩
        · exact ⟨by rw [h.2.2.1]; simp, by have := h.2.2.2.1.1; omega⟩
        · exact ⟨by rw [h.2.2.1]; simp, by have := h.2.2.2.2.1; omega⟩
      clear hx hbo hbu hE3 hk
      obtain ⟨kind, node, pinc, round, snode, sinc, n, body, cid, cut, want⟩ := x
      simp only at HB3 HE3 hxb
      have HS2 := Lib.hid (show Sep w (w2.alloc (.cells #[.int .i64 kind, .int .i64 node, .int .u64 (pinc : Int), .int .u64 (round : Int), .int .i64 snode, .int .u64 (sinc : Int), .int .u64 (n : Int), .slice A3 body.length c3, .int .u64 (cid : Int), .slice E3 cut.length d3, .bool want] 30)) [By (.slice A1 l.length c1) l, Ce w2.heap.size 30 #[.int .i64 kind, .int .i64 node, .int .u64 (pinc : Int), .int .u64 (round : Int), .int .i64 snode, .int .u64 (sinc : Int), .int .u64 (n : Int), .slice A3 body.length c3, .int .u64 (cid : Int), .slice E3 cut.length d3, .bool want]] from sep_ce (HS1.out.grow hb2) #[.int .i64 kind, .int .i64 node, .int .u64 (pinc : Int), .int .u64 (round : Int), .int .i64 snode, .int .u64 (sinc : Int), .int .u64 (n : Int), .slice A3 body.length c3, .int .u64 (cid : Int), .slice E3 cut.length d3, .bool want] 30)
      have HB4 := Lib.hid (HB3.out.alloc (Nat.le_refl _) (.cells #[.int .i64 kind, .int .i64 node, .int .u64 (pinc : Int), .int .u64 (round : Int), .int .i64 snode, .int .u64 (sinc : Int), .int .u64 (n : Int), .slice A3 body.length c3, .int .u64 (cid : Int), .slice E3 cut.length d3, .bool want] 30))
      have HE4 := Lib.hid (HE3.out.alloc (Nat.le_refl _) (.cells #[.int .i64 kind, .int .i64 node, .int .u64 (pinc : Int), .int .u64 (round : Int), .int .i64 snode, .int .u64 (sinc : Int), .int .u64 (n : Int), .slice A3 body.length c3, .int .u64 (cid : Int), .slice E3 cut.length d3, .bool want] 30))
      have hz2 : w2.heap.size ≤ (w2.alloc (.cells #[.int .i64 kind, .int .i64 node, .int .u64 (pinc : Int), .int .u64 (round : Int), .int .i64 snode, .int .u64 (sinc : Int), .int .u64 (n : Int), .slice A3 body.length c3, .int .u64 (cid : Int), .slice E3 cut.length d3, .bool want] 30)).heap.size := le_alloc (Nat.le_refl _) _
      clear HS1 hb2 HB3 HE3
      simp only [Lt.cells]
      go_wp2_with fail
      refine (decR10_any (w2.alloc (.cells #[.int .i64 kind, .int .i64 node, .int .u64 (pinc : Int), .int .u64 (round : Int), .int .i64 snode, .int .u64 (sinc : Int), .int .u64 (n : Int), .slice A3 body.length c3, .int .u64 (cid : Int), .slice E3 cut.length d3, .bool want] 30)) A c l (HS2.out.hasHere HA.out) HC.out HM.out).mono ?_
      rintro e w3 (⟨y, A7, c7, E7, d7, hy, rfl, hb7, he7, hb3⟩ | ⟨hn, _, _⟩)
      · obtain rfl := hy.inj HX.out
        have HB7 := Lib.hid hb7
        have HE7 := Lib.hid he7
        have HS3 := Lib.hid (HS2.out.grow hb3)
        have HB5 := Lib.hid (HB4.out.below (hb3.mono hz2))
        have HE5 := Lib.hid (HE4.out.below (hb3.mono hz2))
        have hz3 := Nat.le_trans hz2 hb3.size
        clear hy hb7 he7 hb3 HS2 HB4 HE4
        have HS4 := Lib.hid (show Sep w (w3.alloc (.cells #[.int .i64 kind, .int .i64 node, .int .u64 (pinc : Int), .int .u64 (round : Int), .int .i64 snode, .int .u64 (sinc : Int), .int .u64 (n : Int), .slice A7 body.length c7, .int .u64 (cid : Int), .slice E7 cut.length d7, .bool want] 30)) [By (.slice A1 l.length c1) l, Ce w2.heap.size 30 #[.int .i64 kind, .int .i64 node, .int .u64 (pinc : Int), .int .u64 (round : Int), .int .i64 snode, .int .u64 (sinc : Int), .int .u64 (n : Int), .slice A3 body.length c3, .int .u64 (cid : Int), .slice E3 cut.length d3, .bool want], Ce w3.heap.size 30 #[.int .i64 kind, .int .i64 node, .int .u64 (pinc : Int), .int .u64 (round : Int), .int .i64 snode, .int .u64 (sinc : Int), .int .u64 (n : Int), .slice A7 body.length c7, .int .u64 (cid : Int), .slice E7 cut.length d7, .bool want]] from sep_ce HS3.out #[.int .i64 kind, .int .i64 node, .int .u64 (pinc : Int), .int .u64 (round : Int), .int .i64 snode, .int .u64 (sinc : Int), .int .u64 (n : Int), .slice A7 body.length c7, .int .u64 (cid : Int), .slice E7 cut.length d7, .bool want] 30)
        have hz := sep_ceLt (i := 1) HS3.out rfl
        have k0 := sep_ceAt (i := 1) HS4.out rfl 0 rfl
        have k1 := sep_ceAt (i := 1) HS4.out rfl 1 rfl
        have k2 := sep_ceAt (i := 1) HS4.out rfl 2 rfl
        have k3 := sep_ceAt (i := 1) HS4.out rfl 3 rfl
        have k4 := sep_ceAt (i := 1) HS4.out rfl 4 rfl
        have k5 := sep_ceAt (i := 1) HS4.out rfl 5 rfl
        have k6 := sep_ceAt (i := 1) HS4.out rfl 6 rfl
        have k7 := sep_ceAt (i := 1) HS4.out rfl 7 rfl
        have k8 := sep_ceAt (i := 1) HS4.out rfl 8 rfl
        have k9 := sep_ceAt (i := 1) HS4.out rfl 9 rfl
        have k10 := sep_ceAt (i := 1) HS4.out rfl 10 rfl
        simp only [Lt.cells]
        go_wp2_with fail
        clear k0 k1 k2 k3 k4 k5 k6 k7 k8 k9 k10
        refine (ref10SameB (w := w3.alloc (.cells #[.int .i64 kind, .int .i64 node, .int .u64 (pinc : Int), .int .u64 (round : Int), .int .i64 snode, .int .u64 (sinc : Int), .int .u64 (n : Int), .slice A7 body.length c7, .int .u64 (cid : Int), .slice E7 cut.length d7, .bool want] 30)) (B := w3.heap.size) (x := (Lt.mk kind node pinc round snode sinc n body cid cut want)) (y := (Lt.mk kind node pinc round snode sinc n body cid cut want)) (A := A3) (A2 := E3) (A' := A7) (A2' := E7) (c := c3) (c2 := d3) (c' := c7) (c2' := d7) (Lt.eqB_self _) ((HB5.out.more hz3).alloc (Nat.le_refl _) _) ((HE5.out.more hz3).alloc (Nat.le_refl _) _) (HB7.out.alloc (Nat.le_refl _) _) (HE7.out.alloc (Nat.le_refl _) _) (le_alloc (Nat.le_refl _) _) hxb.1 hxb.1 hxb.2 hxb.2).mono ?_
        rintro e w5 ⟨rfl, hb5⟩
        have HS5 := Lib.hid (HS4.out.grow hb5)
        clear HS4 HS3 hb5 HB5 HE5 HB7 HE7
        have t2 := run_str (c := c1) (sep_byHas (i := 0) HS5.out rfl)
        have t3 := run_str (c := c) (HS5.out.has HA.out)
        go_wp2_with fail
        clear t2 t3
        refine (awake10 w5).mono ?_
        rintro e w6 ⟨rfl, hb6⟩
        go_wp2_with fail
        go_ret
        exact ⟨rfl, HS5.out.bel.trans (hb6.mono HS5.out.size)⟩
      · exact (hn _ HX.out).elim
    · have HN := Lib.hid hn
      have HS2 := Lib.hid (show Sep w (w2.alloc (.cells #[.int .i64 0, .int .i64 0, .int .u64 0, .int .u64 0, .int .i64 0, .int .u64 0, .int .u64 0, .slice none 0 0, .int .u64 0, .slice none 0 0, .bool false] 30)) [By (.slice A1 l.length c1) l, Ce w2.heap.size 30 #[.int .i64 0, .int .i64 0, .int .u64 0, .int .u64 0, .int .i64 0, .int .u64 0, .int .u64 0, .slice none 0 0, .int .u64 0, .slice none 0 0, .bool false]] from sep_ce (HS1.out.grow hb2) #[.int .i64 0, .int .i64 0, .int .u64 0, .int .u64 0, .int .i64 0, .int .u64 0, .int .u64 0, .slice none 0 0, .int .u64 0, .slice none 0 0, .bool false] 30)
      clear HS1 hb2 hn
      rw [show Lt.nil.cells none 0 none 0 = #[.int .i64 0, .int .i64 0, .int .u64 0, .int .u64 0, .int .i64 0, .int .u64 0, .int .u64 0, .slice none 0 0, .int .u64 0, .slice none 0 0, .bool false] from rfl]
      go_wp2_with fail
      refine (decR10_any (w2.alloc (.cells #[.int .i64 0, .int .i64 0, .int .u64 0, .int .u64 0, .int .i64 0, .int .u64 0, .int .u64 0, .slice none 0 0, .int .u64 0, .slice none 0 0, .bool false] 30)) A c l (HS2.out.hasHere HA.out) HC.out HM.out).mono ?_
      rintro e w3 (⟨y, A7, c7, E7, d7, hy, _⟩ | ⟨_, rfl, hb3⟩)
      · exact (HN.out _ hy).elim
      · have HS3 := Lib.hid (HS2.out.grow hb3)
        have HS4 := Lib.hid (show Sep w (w3.alloc (.cells #[.int .i64 0, .int .i64 0, .int .u64 0, .int .u64 0, .int .i64 0, .int .u64 0, .int .u64 0, .slice none 0 0, .int .u64 0, .slice none 0 0, .bool false] 30)) [By (.slice A1 l.length c1) l, Ce w2.heap.size 30 #[.int .i64 0, .int .i64 0, .int .u64 0, .int .u64 0, .int .i64 0, .int .u64 0, .int .u64 0, .slice none 0 0, .int .u64 0, .slice none 0 0, .bool false], Ce w3.heap.size 30 #[.int .i64 0, .int .i64 0, .int .u64 0, .int .u64 0, .int .i64 0, .int .u64 0, .int .u64 0, .slice none 0 0, .int .u64 0, .slice none 0 0, .bool false]] from sep_ce HS3.out #[.int .i64 0, .int .i64 0, .int .u64 0, .int .u64 0, .int .i64 0, .int .u64 0, .int .u64 0, .slice none 0 0, .int .u64 0, .slice none 0 0, .bool false] 30)
        have hz := sep_ceLt (i := 1) HS3.out rfl
        clear HS2 hb3
        rw [show Lt.nil.cells none 0 none 0 = #[.int .i64 0, .int .i64 0, .int .u64 0, .int .u64 0, .int .i64 0, .int .u64 0, .int .u64 0, .slice none 0 0, .int .u64 0, .slice none 0 0, .bool false] from rfl]
        have k0 := sep_ceAt (i := 1) HS4.out rfl 0 rfl
        have k1 := sep_ceAt (i := 1) HS4.out rfl 1 rfl
        have k2 := sep_ceAt (i := 1) HS4.out rfl 2 rfl
        have k3 := sep_ceAt (i := 1) HS4.out rfl 3 rfl
        have k4 := sep_ceAt (i := 1) HS4.out rfl 4 rfl
        have k5 := sep_ceAt (i := 1) HS4.out rfl 5 rfl
        have k6 := sep_ceAt (i := 1) HS4.out rfl 6 rfl
        have k7 := sep_ceAt (i := 1) HS4.out rfl 7 rfl
        have k8 := sep_ceAt (i := 1) HS4.out rfl 8 rfl
        have k9 := sep_ceAt (i := 1) HS4.out rfl 9 rfl
        have k10 := sep_ceAt (i := 1) HS4.out rfl 10 rfl
        go_wp2_with fail
        clear k0 k1 k2 k3 k4 k5 k6 k7 k8 k9 k10
        refine (ref10SameB (w := w3.alloc (.cells #[.int .i64 0, .int .i64 0, .int .u64 0, .int .u64 0, .int .i64 0, .int .u64 0, .int .u64 0, .slice none 0 0, .int .u64 0, .slice none 0 0, .bool false] 30)) (B := 0) (x := Lt.nil) (y := Lt.nil) (A := none) (A2 := none) (A' := none) (A2' := none) (c := 0) (c2 := 0) (c' := 0) (c2' := 0) (Lt.eqB_self _) Has.nil Has.nil Has.nil Has.nil (Nat.zero_le _) (by simp [Lt.nil]) (by simp [Lt.nil]) (by simp [Lt.nil]) (by simp [Lt.nil])).mono ?_
        rintro e w5 ⟨rfl, hb5⟩
        have HS5 := Lib.hid (HS4.out.grow hb5)
        clear HS4 HS3 hb5
        have t2 := run_str (c := c1) (sep_byHas (i := 0) HS5.out rfl)
        have t3 := run_str (c := c) (HS5.out.has HA.out)
        go_wp2_with fail
        clear t2 t3
        refine (awake10 w5).mono ?_
        rintro e w6 ⟨rfl, hb6⟩
        go_wp2_with fail
        go_ret
        exact ⟨rfl, HS5.out.bel.trans (hb6.mono HS5.out.size)⟩
end Go.Proofs.Ytbnjlminjopaaaa
