/- The walk of the law FrameBack. -/
import Derived.Test.YtcjafbpgjlcdpaaDoorFrmW
import Derived.Test.YtcjafbpgjlcdpaaDoorRgF
namespace Go.Proofs.YtcjafbpgjlcdpaaDoor
open Go Go.RowKit
set_option linter.unusedVariables false
set_option maxRecDepth 100000
set_option linter.unusedSimpArgs false

theorem not_isFr_nil (f : Fr) : ¬ IsFr [] f := fun h => by
  have := congrArg List.length h.2
  rw [sealed_len] at this
  simp at this
theorem sealed_pos (l : List UInt8) : 4 ≤ (Crc.sealed l).length := by rw [sealed_len]; omega
set_option maxHeartbeats 3200000 in
theorem frameBack_walk (w : World) (hT : Table w) (kind fr to : Int) (inc conn pinc pconn ack seq : Nat) (A : Option Addr) (c : Nat) (body : List UInt8) (hA : Has w w.heap.size A (us body)) (hx : inc < 18446744073709551616 ∧ conn < 18446744073709551616 ∧ pinc < 18446744073709551616 ∧ pconn < 18446744073709551616 ∧ ack < 18446744073709551616 ∧ seq < 18446744073709551616) (hc : body.length ≤ c) (hm : c ≤ maxLen) (hr : body.length ≤ 140737488355328) :
    Calls Tryd.prog 6 #[.agg ((Fr.mk kind fr to inc conn pinc pconn ack seq body).cells A c)] w fun e w' => e = .returned (.bool true) ∧ Below w.heap.size w w' := by
  have HT := Lib.hid hT
  have HA := Lib.hid hA
  have HL : Hid (body.length ≤ maxLen) := Lib.hid (Nat.le_trans hc hm)
  have HX := Lib.hid hx
  clear hT hA hc hm hx hr
  have HS0 := Lib.hid (show Sep w (w.alloc (.cells #[.int .i64 kind, .int .i64 fr, .int .i64 to, .int .u64 (inc : Int), .int .u64 (conn : Int), .int .u64 (pinc : Int), .int .u64 (pconn : Int), .int .u64 (ack : Int), .int .u64 (seq : Int), .slice A body.length c] 25)) [Ce w.heap.size 25 #[.int .i64 kind, .int .i64 fr, .int .i64 to, .int .u64 (inc : Int), .int .u64 (conn : Int), .int .u64 (pinc : Int), .int .u64 (pconn : Int), .int .u64 (ack : Int), .int .u64 (seq : Int), .slice A body.length c]] from sep_ce (Sep.nil w) #[.int .i64 kind, .int .i64 fr, .int .i64 to, .int .u64 (inc : Int), .int .u64 (conn : Int), .int .u64 (pinc : Int), .int .u64 (pconn : Int), .int .u64 (ack : Int), .int .u64 (seq : Int), .slice A body.length c] 25)
  by_cases hmy : (Fr.mk kind fr to inc conn pinc pconn ack seq body).may = true
  · have HM := Lib.hid hmy
    have hk := Fr.kinds hmy
    have hbl : body.length ≤ 448 := by
      rcases hk with ⟨_, h⟩ | ⟨_, _, h⟩
      · simp only at h; rw [h]; simp
      · exact h
    clear hmy hk
    have he := encode_yes (w.alloc (.cells #[.int .i64 kind, .int .i64 fr, .int .i64 to, .int .u64 (inc : Int), .int .u64 (conn : Int), .int .u64 (pinc : Int), .int .u64 (pconn : Int), .int .u64 (ack : Int), .int .u64 (seq : Int), .slice A body.length c] 25)) (HT.out.alloc _) w.heap.size (Fr.mk kind fr to inc conn pinc pconn ack seq body) A c (HA.out.alloc (Nat.le_refl _) _) (le_alloc (Nat.le_refl _) _) HM.out
    simp only [Fr.cells] at he ⊢
    go_enter Tryd.func6, Tryd.ntmps6
    go_wp2_with fail
    refine he.mono ?_
    clear he
    rintro e w1 ⟨v1, rfl, ho1, hb1⟩
    have HS1 := Lib.hid (show Sep w w1 [Ce w.heap.size 25 #[.int .i64 kind, .int .i64 fr, .int .i64 to, .int .u64 (inc : Int), .int .u64 (conn : Int), .int .u64 (pinc : Int), .int .u64 (pconn : Int), .int .u64 (ack : Int), .int .u64 (seq : Int), .slice A body.length c], By v1 (Crc.sealed (Fr.mk kind fr to inc conn pinc pconn ack seq body).plain)] from sep_new5 HS0.out ho1 hb1)
    clear HS0 ho1 hb1
    have hpl := Fr.plain_len HM.out
    have hsl := sealed_len (Fr.mk kind fr to inc conn pinc pconn ack seq body).plain
    obtain ⟨Lb, HLb⟩ : ∃ L, Hid (Crc.sealed (Fr.mk kind fr to inc conn pinc pconn ack seq body).plain = L) := ⟨_, Lib.hid rfl⟩
    rw [HLb.out] at HS1 hsl
    have hLb : Lb.length ≤ 504 := by omega
    clear hpl hsl
    obtain ⟨A1, c1, rfl, h11, h12, h13⟩ := sep_byForm (i := 1) HS1.out rfl
    have H13 := Lib.hid h13
    have H12 := Lib.hid h12
    clear h13 h12
    have k0 := sep_ceAt (i := 0) HS1.out rfl 0 rfl
    have k1 := sep_ceAt (i := 0) HS1.out rfl 1 rfl
    have k2 := sep_ceAt (i := 0) HS1.out rfl 2 rfl
    have k3 := sep_ceAt (i := 0) HS1.out rfl 3 rfl
    have k4 := sep_ceAt (i := 0) HS1.out rfl 4 rfl
    have k5 := sep_ceAt (i := 0) HS1.out rfl 5 rfl
    have k6 := sep_ceAt (i := 0) HS1.out rfl 6 rfl
    have k7 := sep_ceAt (i := 0) HS1.out rfl 7 rfl
    have k8 := sep_ceAt (i := 0) HS1.out rfl 8 rfl
    have k9 := sep_ceAt (i := 0) HS1.out rfl 9 rfl
    go_wp2_with fail
    clear k0 k1 k2 k3 k4 k5 k6 k7 k8 k9
    refine (mayFb (f := (Fr.mk kind fr to inc conn pinc pconn ack seq body)) (A := A) (c := c) HM.out HL.out).mono ?_
    rintro e w2 ⟨rfl, hb2⟩
    have HS2 := Lib.hid (HS1.out.grow hb2)
    have H132 := Lib.hid ((H13.out.below hb2).more hb2.size)
    clear HS1 H13 hb2
    go_wp2_with fail
    refine (decode_any w2 (HT.out.below HS2.out.bel HT.out.lt) w2.heap.size A1 c1 Lb H132.out (Nat.le_refl _) h11 H12.out (by omega)).mono ?_
    rintro e w3 (⟨f3, A3, c3, hf, rfl, hbo, hb3⟩ | ⟨hn, _, _⟩)
    · obtain rfl := hf.inj ⟨HM.out, HLb.out.symm⟩
      have HB3 := Lib.hid hbo.has
      clear hf hbo
      have HS3 := Lib.hid (HS2.out.grow hb3)
      clear HS2 H132 hb3
      rw [show (Fr.mk kind fr to inc conn pinc pconn ack seq body).cells A3 c3 = #[.int .i64 kind, .int .i64 fr, .int .i64 to, .int .u64 (inc : Int), .int .u64 (conn : Int), .int .u64 (pinc : Int), .int .u64 (pconn : Int), .int .u64 (ack : Int), .int .u64 (seq : Int), .slice A3 body.length c3] from rfl]
      have HS4 := Lib.hid (show Sep w (w3.alloc (.cells #[.int .i64 kind, .int .i64 fr, .int .i64 to, .int .u64 (inc : Int), .int .u64 (conn : Int), .int .u64 (pinc : Int), .int .u64 (pconn : Int), .int .u64 (ack : Int), .int .u64 (seq : Int), .slice A3 body.length c3] 25)) [Ce w.heap.size 25 #[.int .i64 kind, .int .i64 fr, .int .i64 to, .int .u64 (inc : Int), .int .u64 (conn : Int), .int .u64 (pinc : Int), .int .u64 (pconn : Int), .int .u64 (ack : Int), .int .u64 (seq : Int), .slice A body.length c], By (.slice A1 Lb.length c1) Lb, Ce w3.heap.size 25 #[.int .i64 kind, .int .i64 fr, .int .i64 to, .int .u64 (inc : Int), .int .u64 (conn : Int), .int .u64 (pinc : Int), .int .u64 (pconn : Int), .int .u64 (ack : Int), .int .u64 (seq : Int), .slice A3 body.length c3]] from sep_ce HS3.out _ _)
      have hz := sep_ceLt (i := 0) HS3.out rfl
      have k0 := sep_ceAt (i := 0) HS3.out rfl 0 rfl
      have k1 := sep_ceAt (i := 0) HS3.out rfl 1 rfl
      have k2 := sep_ceAt (i := 0) HS3.out rfl 2 rfl
      have k3 := sep_ceAt (i := 0) HS3.out rfl 3 rfl
      have k4 := sep_ceAt (i := 0) HS3.out rfl 4 rfl
      have k5 := sep_ceAt (i := 0) HS3.out rfl 5 rfl
      have k6 := sep_ceAt (i := 0) HS3.out rfl 6 rfl
      have k7 := sep_ceAt (i := 0) HS3.out rfl 7 rfl
      have k8 := sep_ceAt (i := 0) HS3.out rfl 8 rfl
      have k9 := sep_ceAt (i := 0) HS3.out rfl 9 rfl
      go_wp2_with fail
      clear k0 k1 k2 k3 k4 k5 k6 k7 k8 k9
      refine (same5_any _ w3.heap.size (Fr.mk kind fr to inc conn pinc pconn ack seq body) (Fr.mk kind fr to inc conn pinc pconn ack seq body) A A3 c c3 ((HS4.out.has HA.out).more HS3.out.size) (HB3.out.alloc (Nat.le_refl _) _) (le_alloc (Nat.le_refl _) _) HL.out HL.out).mono ?_
      rintro e w5 ⟨rfl, hb5⟩
      have HS5 := Lib.hid (HS4.out.grow hb5)
      clear HS4 hb5
      rw [Fr.eqB_self]
      go_wp2_with fail
      refine (awake5 w5 (HT.out.below HS5.out.bel HT.out.lt)).mono ?_
      rintro e w6 ⟨rfl, hb6⟩
      go_wp2_with fail
      go_ret
      exact ⟨rfl, HS5.out.bel.trans (hb6.mono HS5.out.size)⟩
    · exact (hn (Fr.mk kind fr to inc conn pinc pconn ack seq body) ⟨HM.out, HLb.out.symm⟩).elim
  · have HM : Hid ((Fr.mk kind fr to inc conn pinc pconn ack seq body).may = false) := Lib.hid (by simpa using hmy)
    clear hmy
    have he := encode_no (w.alloc (.cells #[.int .i64 kind, .int .i64 fr, .int .i64 to, .int .u64 (inc : Int), .int .u64 (conn : Int), .int .u64 (pinc : Int), .int .u64 (pconn : Int), .int .u64 (ack : Int), .int .u64 (seq : Int), .slice A body.length c] 25)) (Fr.mk kind fr to inc conn pinc pconn ack seq body) A c HL.out HM.out
    simp only [Fr.cells] at he ⊢
    go_enter Tryd.func6, Tryd.ntmps6
    go_wp2_with fail
    refine he.mono ?_
    clear he
    rintro e w1 ⟨rfl, hb1⟩
    have HS1 := Lib.hid (HS0.out.grow hb1)
    clear HS0 hb1
    have k0 := sep_ceAt (i := 0) HS1.out rfl 0 rfl
    have k1 := sep_ceAt (i := 0) HS1.out rfl 1 rfl
    have k2 := sep_ceAt (i := 0) HS1.out rfl 2 rfl
    have k3 := sep_ceAt (i := 0) HS1.out rfl 3 rfl
    have k4 := sep_ceAt (i := 0) HS1.out rfl 4 rfl
    have k5 := sep_ceAt (i := 0) HS1.out rfl 5 rfl
    have k6 := sep_ceAt (i := 0) HS1.out rfl 6 rfl
    have k7 := sep_ceAt (i := 0) HS1.out rfl 7 rfl
    have k8 := sep_ceAt (i := 0) HS1.out rfl 8 rfl
    have k9 := sep_ceAt (i := 0) HS1.out rfl 9 rfl
    go_wp2_with fail
    clear k0 k1 k2 k3 k4 k5 k6 k7 k8 k9
    refine (mayFb (f := (Fr.mk kind fr to inc conn pinc pconn ack seq body)) (A := A) (c := c) HM.out HL.out).mono ?_
    rintro e w2 ⟨rfl, hb2⟩
    have HS2 := Lib.hid (HS1.out.grow hb2)
    clear HS1 hb2
    go_wp2_with fail
    refine (decode_any w2 (HT.out.below HS2.out.bel HT.out.lt) w2.heap.size none 0 [] Has.nil (Nat.le_refl _) (by simp) (by unfold maxLen; omega) (by simp)).mono ?_
    rintro e w3 (⟨f3, A3, c3, hf, _⟩ | ⟨_, rfl, hb3⟩)
    · exact (not_isFr_nil f3 hf).elim
    · have HS3 := Lib.hid (HS2.out.grow hb3)
      clear HS2 hb3
      rw [show Fr.nil.cells none 0 = #[.int .i64 0, .int .i64 0, .int .i64 0, .int .u64 0, .int .u64 0, .int .u64 0, .int .u64 0, .int .u64 0, .int .u64 0, .slice none 0 0] from rfl]
      go_wp2_with fail
      have HS4 := Lib.hid (HS3.out.alloc (.cells #[.int .i64 0, .int .i64 0, .int .i64 0, .int .u64 0, .int .u64 0, .int .u64 0, .int .u64 0, .int .u64 0, .int .u64 0, .slice none 0 0] 25))
      refine (awake5 _ (HT.out.below HS4.out.bel HT.out.lt)).mono ?_
      rintro e w6 ⟨rfl, hb6⟩
      go_wp2_with fail
      go_ret
      exact ⟨rfl, HS4.out.bel.trans (hb6.mono HS4.out.size)⟩
end Go.Proofs.YtcjafbpgjlcdpaaDoor
