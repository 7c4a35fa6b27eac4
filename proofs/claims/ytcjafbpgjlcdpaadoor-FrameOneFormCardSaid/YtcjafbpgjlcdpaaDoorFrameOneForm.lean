/- The walk of the law FrameOneForm. -/
import Derived.Test.YtcjafbpgjlcdpaaDoorFrmW
import Derived.Test.YtcjafbpgjlcdpaaDoorRgF
namespace Go.Proofs.YtcjafbpgjlcdpaaDoor
open Go Go.RowKit
set_option linter.unusedVariables false
set_option maxRecDepth 100000
set_option linter.unusedSimpArgs false

set_option maxHeartbeats 3200000 in
theorem frameOneForm_walk (w : World) (hT : Table w) (A : Option Addr) (c : Nat) (b : List UInt8) (hA : Has w w.heap.size A (us b)) (hc : b.length ≤ c) (hm : c ≤ maxLen) (hr : b.length ≤ 140737488355328) :
    Calls Tryd.prog 7 #[.slice A b.length c] w fun e w' => e = .returned (.bool true) ∧ Below w.heap.size w w' := by
  have HT := Lib.hid hT
  have HA := Lib.hid hA
  have HM := Lib.hid hm
  clear hT hA hm hr
  by_cases hlong : 65536 < b.length
  · go_enter Tryd.func7, Tryd.ntmps7
    go_wp2_with fail
    refine (awake5 w HT.out).mono ?_
    rintro e w1 ⟨rfl, hb1⟩
    go_wp2_with fail
    go_ret
    exact ⟨rfl, hb1⟩
  · go_enter Tryd.func7, Tryd.ntmps7
    go_wp2_with fail
    refine (decode_any w HT.out w.heap.size A c b HA.out (Nat.le_refl _) hc HM.out (by omega)).mono ?_
    rintro e w1 (⟨f3, A3, c3, hf, rfl, hbo, hb1⟩ | ⟨hn, rfl, hb1⟩)
    · have HF := Lib.hid hf
      have HB := Lib.hid hbo.has
      have hbl : f3.body.length ≤ 448 := by
        rcases Fr.kinds hf.1 with ⟨_, h⟩ | ⟨_, _, h⟩
        · rw [h]; simp
        · exact h
      clear hf hbo
      obtain ⟨kind, fr, to, inc, conn, pinc, pconn, ack, seq, body⟩ := f3
      simp only at HB hbl
      have HL : Hid (body.length ≤ maxLen) := Lib.hid (by unfold maxLen; omega)
      have HS1 := Lib.hid (show Sep w (w1.alloc (.cells #[.int .i64 kind, .int .i64 fr, .int .i64 to, .int .u64 (inc : Int), .int .u64 (conn : Int), .int .u64 (pinc : Int), .int .u64 (pconn : Int), .int .u64 (ack : Int), .int .u64 (seq : Int), .slice A3 body.length c3] 25)) [Ce w1.heap.size 25 #[.int .i64 kind, .int .i64 fr, .int .i64 to, .int .u64 (inc : Int), .int .u64 (conn : Int), .int .u64 (pinc : Int), .int .u64 (pconn : Int), .int .u64 (ack : Int), .int .u64 (seq : Int), .slice A3 body.length c3]] from sep_ce (Sep.start hb1) #[.int .i64 kind, .int .i64 fr, .int .i64 to, .int .u64 (inc : Int), .int .u64 (conn : Int), .int .u64 (pinc : Int), .int .u64 (pconn : Int), .int .u64 (ack : Int), .int .u64 (seq : Int), .slice A3 body.length c3] 25)
      have he := encode_yes (w1.alloc (.cells #[.int .i64 kind, .int .i64 fr, .int .i64 to, .int .u64 (inc : Int), .int .u64 (conn : Int), .int .u64 (pinc : Int), .int .u64 (pconn : Int), .int .u64 (ack : Int), .int .u64 (seq : Int), .slice A3 body.length c3] 25)) (HT.out.below HS1.out.bel HT.out.lt) w1.heap.size (Fr.mk kind fr to inc conn pinc pconn ack seq body) A3 c3 (HB.out.alloc (Nat.le_refl _) _) (le_alloc (Nat.le_refl _) _) HF.out.1
      have hz := hb1.size
      simp only [Fr.cells] at he ⊢
      go_wp2_with fail
      refine he.mono ?_
      clear he
      rintro e w2 ⟨v2, rfl, ho2, hb2⟩
      rw [← HF.out.2] at ho2
      have HS2 := Lib.hid (show Sep w w2 [Ce w1.heap.size 25 #[.int .i64 kind, .int .i64 fr, .int .i64 to, .int .u64 (inc : Int), .int .u64 (conn : Int), .int .u64 (pinc : Int), .int .u64 (pconn : Int), .int .u64 (ack : Int), .int .u64 (seq : Int), .slice A3 body.length c3], By v2 b] from sep_new5 HS1.out ho2 hb2)
      clear HS1 ho2 hb2
      obtain ⟨A2, c2, rfl, h21, h22, h23⟩ := sep_byForm (i := 1) HS2.out rfl
      have t2 := run_str (c := c2) h23
      have t3 := run_str (c := c) (HS2.out.has HA.out)
      clear h21 h22 h23
      have k0 := sep_ceAt (i := 0) HS2.out rfl 0 rfl
      have k1 := sep_ceAt (i := 0) HS2.out rfl 1 rfl
      have k2 := sep_ceAt (i := 0) HS2.out rfl 2 rfl
      have k3 := sep_ceAt (i := 0) HS2.out rfl 3 rfl
      have k4 := sep_ceAt (i := 0) HS2.out rfl 4 rfl
      have k5 := sep_ceAt (i := 0) HS2.out rfl 5 rfl
      have k6 := sep_ceAt (i := 0) HS2.out rfl 6 rfl
      have k7 := sep_ceAt (i := 0) HS2.out rfl 7 rfl
      have k8 := sep_ceAt (i := 0) HS2.out rfl 8 rfl
      have k9 := sep_ceAt (i := 0) HS2.out rfl 9 rfl
      go_wp2_with fail
      clear k0 k1 k2 k3 k4 k5 k6 k7 k8 k9 t2 t3
      refine (mayFb (f := (Fr.mk kind fr to inc conn pinc pconn ack seq body)) (A := A3) (c := c3) HF.out.1 HL.out).mono ?_
      rintro e w3 ⟨rfl, hb3⟩
      have HS3 := Lib.hid (HS2.out.grow hb3)
      clear HS2 hb3
      go_wp2_with fail
      refine (awake5 w3 (HT.out.below HS3.out.bel HT.out.lt)).mono ?_
      rintro e w6 ⟨rfl, hb6⟩
      go_wp2_with fail
      go_ret
      exact ⟨rfl, HS3.out.bel.trans (hb6.mono HS3.out.size)⟩
    · have HS1 := Lib.hid (show Sep w (w1.alloc (.cells #[.int .i64 0, .int .i64 0, .int .i64 0, .int .u64 0, .int .u64 0, .int .u64 0, .int .u64 0, .int .u64 0, .int .u64 0, .slice none 0 0] 25)) [Ce w1.heap.size 25 #[.int .i64 0, .int .i64 0, .int .i64 0, .int .u64 0, .int .u64 0, .int .u64 0, .int .u64 0, .int .u64 0, .int .u64 0, .slice none 0 0]] from sep_ce (Sep.start hb1) #[.int .i64 0, .int .i64 0, .int .i64 0, .int .u64 0, .int .u64 0, .int .u64 0, .int .u64 0, .int .u64 0, .int .u64 0, .slice none 0 0] 25)
      rw [show Fr.nil.cells none 0 = #[.int .i64 0, .int .i64 0, .int .i64 0, .int .u64 0, .int .u64 0, .int .u64 0, .int .u64 0, .int .u64 0, .int .u64 0, .slice none 0 0] from rfl]
      go_wp2_with fail
      refine (same5_any _ 0 Fr.nil Fr.nil none none 0 0 Has.nil Has.nil (Nat.zero_le _) (by unfold maxLen; simp [Fr.nil]) (by unfold maxLen; simp [Fr.nil])).mono ?_
      rintro e w5 ⟨rfl, hb5⟩
      have HS5 := Lib.hid (HS1.out.grow hb5)
      clear HS1 hb5
      rw [Fr.eqB_self]
      go_wp2_with fail
      refine (awake5 w5 (HT.out.below HS5.out.bel HT.out.lt)).mono ?_
      rintro e w6 ⟨rfl, hb6⟩
      go_wp2_with fail
      go_ret
      exact ⟨rfl, HS5.out.bel.trans (hb6.mono HS5.out.size)⟩
end Go.Proofs.YtcjafbpgjlcdpaaDoor
