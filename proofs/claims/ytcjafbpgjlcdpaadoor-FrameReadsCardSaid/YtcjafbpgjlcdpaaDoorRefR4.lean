/- The document's Reader: Text. -/
import Derived.Test.YtcjafbpgjlcdpaaDoorRefR3
namespace Go.Proofs.YtcjafbpgjlcdpaaDoor
open Go Go.RowKit
set_option linter.unusedVariables false
set_option maxRecDepth 100000

theorem rText_bad (l : List UInt8) (most : Int) : rText l true most = ([], l, true) := rfl
theorem rText_none (l : List UInt8) (bad : Bool) (most : Int) (h : Code.num l = none) : rText l bad most = ([], l, true) := by
  unfold rText
  cases bad
  · simp [h]
  · rfl
theorem rText_no (l : List UInt8) (bad : Bool) (most : Int) (x n : Nat) (h : Code.num l = some (x, n)) (hn : ¬ (0 ≤ most ∧ (x : Int) ≤ most ∧ x ≤ l.length - n)) : rText l bad most = ([], l, true) := by
  unfold rText
  cases bad
  · simp only [Bool.false_eq_true, if_false, h]
    rw [if_neg hn]
  · rfl
theorem rText_yes (l : List UInt8) (most : Int) (x n : Nat) (h : Code.num l = some (x, n)) (hn : 0 ≤ most ∧ (x : Int) ≤ most ∧ x ≤ l.length - n) : rText l false most = ((l.drop n).take x, (l.drop n).drop x, false) := by
  unfold rText
  simp only [Bool.false_eq_true, if_false, h]
  rw [if_pos hn]

/-- the walk up to the number -/
theorem refText_head {w : World} {g rb : Nat} {l : List UInt8} {bad : Bool} (hR : Rdf w g rb l bad) (hl : l.length ≤ 1000000000) : ∃ A c x n, w.cell? ⟨g, 0, none⟩ = some (.slice A l.length c) ∧ w.cell? ⟨g, 1, none⟩ = some (.bool bad) ∧ w.frozen? ⟨g, 1, none⟩ = false ∧ l.length ≤ c ∧ Has w w.heap.size A (us (l.take n)) ∧ (l.take n).length = n ∧ grp l = n ∧ worthN 7 (l.take n) = x ∧ x < 18446744073709551616 ∧ n ≤ l.length ∧ ((n = 0 ∧ Code.num l = none) ∨ (1 ≤ n ∧ Code.num l = some (x, n))) := by
  obtain ⟨A, c, h0, h1, f0, f1, hc, hm, hin⟩ := hR.parts
  have key : ∀ n, Has w w.heap.size A (us (l.take n)) := fun n => by rw [us_take]; exact hin.has.take n
  cases hn : Code.num l with
  | none => exact ⟨A, c, 0, 0, h0, h1, f1, hc, key 0, by simp, by unfold grp; rw [hn], by simp [worthN], by omega, by omega, .inl ⟨rfl, rfl⟩⟩
  | some p =>
    obtain ⟨x, n⟩ := p
    have h3 := Code.num_len hn
    exact ⟨A, c, x, n, h0, h1, f1, hc, key n, by simp; omega, by unfold grp; rw [hn], worthN7 l 0 x n hn, (Code.num_form hn).1, h3.2, .inr ⟨h3.1, rfl⟩⟩

set_option maxHeartbeats 1600000 in
theorem refTextR_any (w : World) (g rb : Nat) (l : List UInt8) (bad : Bool) (most : Int) (hR : Rdf w g rb l bad) (hl : l.length ≤ 1000000000) (hm1 : -9223372036854775808 ≤ most) (hm2 : most ≤ 9223372036854775807) :
    Calls Tryd.prog 39 #[.pointer (some ⟨g, 0, none⟩), .int .i64 most] w (ReadsF w g rb (.string ⟨(rText l bad most).1.toArray⟩) (rText l bad most).2.1 (rText l bad most).2.2) := by
  obtain ⟨A, c, x, n, h0, h1, f1, hc, hT, htl, hg, hw7, hx, hnl, hcase⟩ := refText_head hR hl
  have HR := Lib.hid hR
  have HT := Lib.hid hT
  have HG := Lib.hid hg
  have HW7 := Lib.hid hw7
  have HX := Lib.hid hx
  have hn0 : (0 : Int) ≤ (n : Int) := by omega
  have hnc : (n : Int) ≤ (c : Int) := by omega
  clear hR hT hg hw7 hx
  obtain ⟨T, HTT⟩ : ∃ T, Hid (l.take n = T) := ⟨_, Lib.hid rfl⟩
  rw [HTT.out] at HT HW7 htl
  subst htl
  have HC := Lib.hid hcase
  have HST := Lib.hid (show Rdf (w.setCell ⟨g, 1, none⟩ (.bool true)) g rb l true from HR.out.setBad true)
  have HCH := Lib.hid (chg_set w g 1 (.bool true))
  by_cases hn0' : T.length = 0
  · have e0 : ((T.length : Int) == 0) = true := beq_iff_eq.2 (by omega)
    have HA := Lib.hid (show rText l bad most = ([], l, true) by
      rcases HC.out with ⟨_, e⟩ | ⟨h1, e⟩
      · exact rText_none l bad most e
      · exact rText_no l bad most x T.length e (by omega))
    rw [HA.out]
    clear hcase hn0'
    go_enter Tryd.func39, Tryd.ntmps39
    go_wp2_with fail
    refine (groups_any w g rb l bad HR.out hl).mono ?_
    rintro e w0 ⟨rfl, rfl⟩
    rw [HG.out]
    go_wp2_with fail
    refine (worth7_any w w.heap.size A c T HT.out (by rw [HW7.out]; exact HX.out) (by omega)).mono ?_
    rintro e w2 ⟨rfl, n2, rfl⟩
    rw [HW7.out]
    go_wp2
    go_ret
    exact ⟨rfl, readsF_drew n2 ((HR.out.setBad true).setBad true), chg_drewN n2 ((chg_set _ _ _ _).chg (chg_set _ _ _ _))⟩
  have e0 : ((T.length : Int) == 0) = false := beq_eq_false_iff_ne.2 (by omega)
  by_cases hm0 : most < 0
  · skip
    have HA := Lib.hid (show rText l bad most = ([], l, true) by
      rcases HC.out with ⟨_, e⟩ | ⟨h1, e⟩
      · exact rText_none l bad most e
      · exact rText_no l bad most x T.length e (by omega))
    rw [HA.out]
    clear hcase
    go_enter Tryd.func39, Tryd.ntmps39
    go_wp2_with fail
    refine (groups_any w g rb l bad HR.out hl).mono ?_
    rintro e w0 ⟨rfl, rfl⟩
    rw [HG.out]
    go_wp2_with fail
    refine (worth7_any w w.heap.size A c T HT.out (by rw [HW7.out]; exact HX.out) (by omega)).mono ?_
    rintro e w2 ⟨rfl, n2, rfl⟩
    rw [HW7.out]
    go_wp2
    go_ret
    exact ⟨rfl, readsF_drew n2 ((HR.out.setBad true).setBad true), chg_drewN n2 ((chg_set _ _ _ _).chg (chg_set _ _ _ _))⟩
  obtain ⟨m, rfl⟩ : ∃ m : Nat, most = (m : Int) := ⟨most.toNat, by omega⟩
  by_cases hmx : (m : Int) < (x : Int)
  · skip
    have HA := Lib.hid (show rText l bad (m : Int) = ([], l, true) by
      rcases HC.out with ⟨_, e⟩ | ⟨h1, e⟩
      · exact rText_none l bad (m : Int) e
      · exact rText_no l bad (m : Int) x T.length e (by omega))
    rw [HA.out]
    clear hcase
    go_enter Tryd.func39, Tryd.ntmps39
    go_wp2_with fail
    refine (groups_any w g rb l bad HR.out hl).mono ?_
    rintro e w0 ⟨rfl, rfl⟩
    rw [HG.out]
    go_wp2_with fail
    refine (worth7_any w w.heap.size A c T HT.out (by rw [HW7.out]; exact HX.out) (by omega)).mono ?_
    rintro e w2 ⟨rfl, n2, rfl⟩
    rw [HW7.out]
    go_wp2
    go_ret
    exact ⟨rfl, readsF_drew n2 ((HR.out.setBad true).setBad true), chg_drewN n2 ((chg_set _ _ _ _).chg (chg_set _ _ _ _))⟩
  by_cases hlx : (l.length : Int) < (x : Int)
  · skip
    have HA := Lib.hid (show rText l bad (m : Int) = ([], l, true) by
      rcases HC.out with ⟨_, e⟩ | ⟨h1, e⟩
      · exact rText_none l bad (m : Int) e
      · exact rText_no l bad (m : Int) x T.length e (by omega))
    rw [HA.out]
    clear hcase
    go_enter Tryd.func39, Tryd.ntmps39
    go_wp2_with fail
    refine (groups_any w g rb l bad HR.out hl).mono ?_
    rintro e w0 ⟨rfl, rfl⟩
    rw [HG.out]
    go_wp2_with fail
    refine (worth7_any w w.heap.size A c T HT.out (by rw [HW7.out]; exact HX.out) (by omega)).mono ?_
    rintro e w2 ⟨rfl, n2, rfl⟩
    rw [HW7.out]
    go_wp2
    go_ret
    exact ⟨rfl, readsF_drew n2 ((HR.out.setBad true).setBad true), chg_drewN n2 ((chg_set _ _ _ _).chg (chg_set _ _ _ _))⟩
  cases bad with
  | true =>
    have HA := Lib.hid (rText_bad l (m : Int))
    rw [HA.out]
    clear hcase
    go_enter Tryd.func39, Tryd.ntmps39
    go_wp2_with fail
    refine (groups_any w g rb l true HR.out hl).mono ?_
    rintro e w0 ⟨rfl, rfl⟩
    rw [HG.out]
    go_wp2_with fail
    refine (worth7_any w w.heap.size A c T HT.out (by rw [HW7.out]; exact HX.out) (by omega)).mono ?_
    rintro e w2 ⟨rfl, n2, rfl⟩
    rw [HW7.out]
    go_wp2
    go_ret
    exact ⟨rfl, readsF_drew n2 (HR.out.setBad true), chg_drewN n2 (chg_set _ _ _ _)⟩
  | false =>
    have hxl : (x : Int) ≤ 1000000000 := by omega
    by_cases hnx : l.length < T.length + x
    · skip
      have HA := Lib.hid (show rText l false (m : Int) = ([], l, true) by
        rcases HC.out with ⟨_, e⟩ | ⟨h1, e⟩
        · exact rText_none l false (m : Int) e
        · exact rText_no l false (m : Int) x T.length e (by omega))
      rw [HA.out]
      clear hcase
      go_enter Tryd.func39, Tryd.ntmps39
      go_wp2_with fail
      refine (groups_any w g rb l false HR.out hl).mono ?_
      rintro e w0 ⟨rfl, rfl⟩
      rw [HG.out]
      go_wp2_with fail
      refine (worth7_any w w.heap.size A c T HT.out (by rw [HW7.out]; exact HX.out) (by omega)).mono ?_
      rintro e w2 ⟨rfl, n2, rfl⟩
      rw [HW7.out]
      go_wp2
      go_ret
      exact ⟨rfl, readsF_drew n2 (HR.out.setBad true), chg_drewN n2 (chg_set _ _ _ _)⟩
    · have HA := Lib.hid (show rText l false (m : Int) = ((l.drop T.length).take x, (l.drop T.length).drop x, false) by
        rcases HC.out with ⟨h1, e⟩ | ⟨h1, e⟩
        · omega
        · exact rText_yes l (m : Int) x T.length e (by omega))
      rw [HA.out]
      clear hcase
      go_enter Tryd.func39, Tryd.ntmps39
      go_wp2_with fail
      refine (groups_any w g rb l false HR.out hl).mono ?_
      rintro e w0 ⟨rfl, rfl⟩
      rw [HG.out]
      go_wp2_with fail
      refine (worth7_any w w.heap.size A c T HT.out (by rw [HW7.out]; exact HX.out) (by omega)).mono ?_
      rintro e w2 ⟨rfl, n2, rfl⟩
      rw [HW7.out]
      go_wp2_with fail
      refine (refRaw_any (w.drewN n2) g rb l false ((T.length : Int) + (x : Int)) (readsF_drew n2 HR.out) hl).mono ?_
      rintro e w3 ⟨v3, ho3, rfl, hr3, hc3⟩
      have hraw : rRaw l false ((T.length : Int) + (x : Int)) = (l.take (T.length + x), l.drop (T.length + x), false) := by
        unfold rRaw
        rw [if_neg (by simp; omega), show ((T.length : Int) + (x : Int)).toNat = T.length + x by omega]
      rw [hraw] at ho3 hr3
      dsimp only at ho3 hr3
      obtain ⟨A3, c3, rfl, hl3, hm3, h3⟩ := ho3.form
      have e3 : (l.take (T.length + x)).length = T.length + x := by rw [List.length_take]; omega
      rw [e3] at hl3 ⊢
      have hd := h3.drop T.length 1 c3 (by rw [us_length, e3]; omega)
      rw [Nat.mul_one, ← us_drop, List.drop_take, Nat.add_sub_cancel_left] at hd
      have hxl2 : ((l.drop T.length).take x).length = x := by rw [List.length_take, List.length_drop]; omega
      have HDR := Lib.hid (show (l.drop T.length).drop x = l.drop (T.length + x) by rw [List.drop_drop])
      have hcv := run_str (c := c3 - T.length) hd
      rw [hxl2] at hcv
      have HR3 := Lib.hid hr3
      have HC3 := Lib.hid hc3
      have i1 : (0 : Int) ≤ (T.length : Int) := by omega
      have i2 : (T.length : Int) ≤ (T.length : Int) + (x : Int) := by omega
      have i3 : T.length + x ≤ c3 := hl3
      clear hd h3 ho3 hr3 hc3 hraw e3 hxl2
      by_cases hc3n : c3 = T.length
      · rw [if_pos hc3n] at hcv
        obtain rfl : x = 0 := by omega
        subst hc3n
        rw [Nat.sub_self] at hcv
        simp only [List.take_zero] at hcv
        go_wp2
        go_ret
        exact ⟨rfl, by rw [HDR.out]; exact HR3.out, (chg_drewN n2 (Chg.refl _ _ _)).chg HC3.out⟩
      · rw [if_neg hc3n] at hcv
        go_wp2
        go_ret
        exact ⟨rfl, by rw [HDR.out]; exact HR3.out, (chg_drewN n2 (Chg.refl _ _ _)).chg HC3.out⟩
end Go.Proofs.YtcjafbpgjlcdpaaDoor
