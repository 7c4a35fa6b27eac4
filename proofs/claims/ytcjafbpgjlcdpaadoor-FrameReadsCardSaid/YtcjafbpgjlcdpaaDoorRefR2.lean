/- The worth of bytes: the document's own. -/
import Derived.Test.YtcjafbpgjlcdpaaDoorRefR
namespace Go.Proofs.YtcjafbpgjlcdpaaDoor
open Go Go.RowKit
set_option linter.unusedVariables false
set_option maxRecDepth 100000

set_option maxHeartbeats 800000 in
theorem worth7_any (w : World) (B : Nat) (A : Option Addr) (c : Nat) (l : List UInt8) (hA : Has w B A (us l)) (hv : worthN 7 l < 18446744073709551616) (hl : l.length ≤ 1000000000) :
    Calls Tryd.prog 55 #[.slice A l.length c, .int .i64 7] w fun e w' => e = .returned (.int .u64 (worthN 7 l)) ∧ ∃ n, w' = w.drewN n := by
  have HA := Lib.hid hA
  have HV := Lib.hid (show ∀ k, worthN 7 (l.drop k) < 18446744073709551616 from fun k => Nat.lt_of_le_of_lt (worthN_drop 7 l k) hv)
  clear hA hv
  obtain ⟨ans, HN⟩ : ∃ ans, Hid (worthN 7 l = ans) := ⟨_, Lib.hid rfl⟩
  rw [HN.out]
  go_enter Tryd.func55, Tryd.ntmps55
  go_wp2
  go_loopw [5, 6] (fun xv iv wr => ∃ k m : Nat, k ≤ l.length ∧ iv = .int .i64 ((k : Int) - 1) ∧ xv = .int .u64 (worthN 7 (l.drop k)) ∧ Hid (wr = w.drewN m)) (fun _ iv _ => (intOf iv + 1).toNat)
  case atStart => exact ⟨l.length, 0, Nat.le_refl _, rfl, by rw [List.drop_length]; rfl, Lib.hid rfl⟩
  case round =>
    obtain ⟨k, m, hk, rfl, rfl, HW⟩ := hrel
    rcases k with _ | j
    · have HZ := Lib.hid (show worthN 7 (l.drop 0) = ans by rw [List.drop_zero]; exact HN.out)
      rw [HZ.out]
      go_wp2
      go_ret
      exact ⟨rfl, m, HW.out⟩
    · have hj : j < l.length := by omega
      rw [show (((j + 1 : Nat) : Int) - 1) = (j : Int) by omega]
      obtain ⟨bb, o, rfl, hbB, hcell0⟩ := HA.out.at_ (show j < (us l).length by rw [us_length]; exact hj)
      have hcell : wr.cell? ⟨bb, o + j, none⟩ = some (.int .u8 (l[j].toNat : Int)) := by rw [HW.out]; show w.cell? _ = _; rw [hcell0]; simp [us]
      have hbt := l[j].toNat_lt
      have HD := Lib.hid (show worthN 7 (l.drop j) = l[j].toNat % 2 ^ 7 + 2 ^ 7 * worthN 7 (l.drop (j + 1)) by rw [List.drop_eq_getElem_cons hj, worthN])
      have hx1 := HV.out j
      rw [HD.out] at hx1
      generalize l[j] = ch at *
      have eor := or_shl 7 ch.toNat (worthN 7 (l.drop (j + 1))) (by omega) hx1
      have HX1 := Lib.hid hx1
      clear hcell0 hx1
      generalize worthN 7 (l.drop (j + 1)) = x at *
      have hx1 := HX1.out
      have hsh : IntKind.u64.wrap ((x : Int) * 128) = (x : Int) * 128 := by rw [IntKind.wrap_u64]; omega
      have hand : bits .and .u64 (ch.toNat : Int) 127 = ((ch.toNat % 128 : Nat) : Int) := by
        rw [show (127 : Int) = ((127 : Nat) : Int) from rfl, bits_and_u64_nat _ _ (by omega) (by omega)]
        congr 1
        exact Nat.and_two_pow_sub_one_eq_mod ch.toNat 7
      have hor : bits .or .u64 ((x : Int) * 128) ((ch.toNat % 128 : Nat) : Int) = ((ch.toNat % 128 + 128 * x : Nat) : Int) := eor
      have HOR := Lib.hid hor
      clear eor hx1 hor
      have hor2 : bits .or .u64 ((x : Int) * 128) ((ch.toNat : Int) % 128) = ((ch.toNat % 128 + 128 * x : Nat) : Int) := HOR.out
      go_wp2_with fail
      go_quiet (fail)
      go_wp2
      go_roundw
      case rel => exact ⟨j, m + nq, by omega, by go_num, by rw [HD.out]; go_num, Lib.hid (by rw [HW.out]; simp)⟩
      case measure => simp [intOf]

set_option maxHeartbeats 800000 in
theorem worth8_any (w : World) (B : Nat) (A : Option Addr) (c : Nat) (l : List UInt8) (hA : Has w B A (us l)) (hv : worthN 8 l < 18446744073709551616) (hl : l.length ≤ 1000000000) :
    Calls Tryd.prog 55 #[.slice A l.length c, .int .i64 8] w fun e w' => e = .returned (.int .u64 (worthN 8 l)) ∧ ∃ n, w' = w.drewN n := by
  have HA := Lib.hid hA
  have HV := Lib.hid (show ∀ k, worthN 8 (l.drop k) < 18446744073709551616 from fun k => Nat.lt_of_le_of_lt (worthN_drop 8 l k) hv)
  clear hA hv
  obtain ⟨ans, HN⟩ : ∃ ans, Hid (worthN 8 l = ans) := ⟨_, Lib.hid rfl⟩
  rw [HN.out]
  go_enter Tryd.func55, Tryd.ntmps55
  go_wp2
  go_loopw [5, 6] (fun xv iv wr => ∃ k m : Nat, k ≤ l.length ∧ iv = .int .i64 ((k : Int) - 1) ∧ xv = .int .u64 (worthN 8 (l.drop k)) ∧ Hid (wr = w.drewN m)) (fun _ iv _ => (intOf iv + 1).toNat)
  case atStart => exact ⟨l.length, 0, Nat.le_refl _, rfl, by rw [List.drop_length]; rfl, Lib.hid rfl⟩
  case round =>
    obtain ⟨k, m, hk, rfl, rfl, HW⟩ := hrel
    rcases k with _ | j
    · have HZ := Lib.hid (show worthN 8 (l.drop 0) = ans by rw [List.drop_zero]; exact HN.out)
      rw [HZ.out]
      go_wp2
      go_ret
      exact ⟨rfl, m, HW.out⟩
    · have hj : j < l.length := by omega
      rw [show (((j + 1 : Nat) : Int) - 1) = (j : Int) by omega]
      obtain ⟨bb, o, rfl, hbB, hcell0⟩ := HA.out.at_ (show j < (us l).length by rw [us_length]; exact hj)
      have hcell : wr.cell? ⟨bb, o + j, none⟩ = some (.int .u8 (l[j].toNat : Int)) := by rw [HW.out]; show w.cell? _ = _; rw [hcell0]; simp [us]
      have hbt := l[j].toNat_lt
      have HD := Lib.hid (show worthN 8 (l.drop j) = l[j].toNat % 2 ^ 8 + 2 ^ 8 * worthN 8 (l.drop (j + 1)) by rw [List.drop_eq_getElem_cons hj, worthN])
      have hx1 := HV.out j
      rw [HD.out] at hx1
      generalize l[j] = ch at *
      have eor := or_shl 8 ch.toNat (worthN 8 (l.drop (j + 1))) (by omega) hx1
      have HX1 := Lib.hid hx1
      clear hcell0 hx1
      generalize worthN 8 (l.drop (j + 1)) = x at *
      have hx1 := HX1.out
      have hsh : IntKind.u64.wrap ((x : Int) * 256) = (x : Int) * 256 := by rw [IntKind.wrap_u64]; omega
      have hand : bits .and .u64 (ch.toNat : Int) 255 = ((ch.toNat % 256 : Nat) : Int) := by
        rw [show (255 : Int) = ((255 : Nat) : Int) from rfl, bits_and_u64_nat _ _ (by omega) (by omega)]
        congr 1
        exact Nat.and_two_pow_sub_one_eq_mod ch.toNat 8
      have hor : bits .or .u64 ((x : Int) * 256) ((ch.toNat % 256 : Nat) : Int) = ((ch.toNat % 256 + 256 * x : Nat) : Int) := eor
      have HOR := Lib.hid hor
      clear eor hx1 hor
      have hor2 : bits .or .u64 ((x : Int) * 256) ((ch.toNat : Int) % 256) = ((ch.toNat % 256 + 256 * x : Nat) : Int) := HOR.out
      have hor3 : bits .or .u64 ((x : Int) * 256) (ch.toNat : Int) = ((ch.toNat % 256 + 256 * x : Nat) : Int) := by have := HOR.out; rw [Nat.mod_eq_of_lt (by omega)] at this ⊢; exact this
      go_wp2_with fail
      go_quiet (fail)
      go_wp2
      go_roundw
      case rel => exact ⟨j, m + nq, by omega, by go_num, by rw [HD.out]; go_num, Lib.hid (by rw [HW.out]; simp)⟩
      case measure => simp [intOf]


theorem set_size (w : World) (g o : Nat) (v : Value) : (w.setCell ⟨g, o, none⟩ v).heap.size = w.heap.size := by simp [World.setCell]
theorem Chg.belowNew {w w1 w2 : World} {g : Nat} (h : Chg w w1 g none) (hb : Below w1.heap.size w1 w2) : Chg w w2 g none :=
  ⟨hb.os.trans h.os, hb.tape.trans h.tape, hb.output.trans h.output, Nat.le_trans h.size hb.size, fun k hk h1 h2 => by
    rw [hb.block k (Nat.lt_of_lt_of_le hk h.size), h.block k hk h1 h2]⟩
theorem Chg.chg {w w1 w2 : World} {g : Nat} (h : Chg w w1 g none) (hb : Chg w1 w2 g none) : Chg w w2 g none := h.trans hb (.inl rfl)

set_option maxHeartbeats 800000 in
theorem refRaw_any (w : World) (g rb : Nat) (l : List UInt8) (bad : Bool) (z : Int) (hR : Rdf w g rb l bad) (hl : l.length ≤ 1000000000) :
    Calls Tryd.prog 56 #[.pointer (some ⟨g, 0, none⟩), .int .i64 z] w fun e w' => ∃ v, Own w' w.heap.size v (rRaw l bad z).1 ∧ ReadsF w g rb v (rRaw l bad z).2.1 (rRaw l bad z).2.2 e w' := by
  have HR := Lib.hid hR
  obtain ⟨A, c, h0, h1, f0, f1, hc, hm, hin⟩ := hR.parts
  have HIN := Lib.hid hin
  clear hR hin
  unfold rRaw
  by_cases hb : bad = true
  · subst hb
    rw [if_pos (.inl rfl)]
    go_enter Tryd.func56, Tryd.ntmps56
    go_wp2
    go_ret
    exact ⟨_, Own.nil _ _, rfl, HR.out.setBad true, chg_set _ _ _ _⟩
  · have hb' : bad = false := by cases bad <;> simp_all
    subst hb'
    by_cases hz : z < 0
    · rw [if_pos (.inr (.inl hz))]
      go_enter Tryd.func56, Tryd.ntmps56
      go_wp2
      go_ret
      exact ⟨_, Own.nil _ _, rfl, HR.out.setBad true, chg_set _ _ _ _⟩
    · obtain ⟨n, rfl⟩ : ∃ n : Nat, z = (n : Int) := ⟨z.toNat, by omega⟩
      by_cases hn : l.length < n
      · rw [if_pos (.inr (.inr (by omega)))]
        go_enter Tryd.func56, Tryd.ntmps56
        go_wp2
        go_ret
        exact ⟨_, Own.nil _ _, rfl, HR.out.setBad true, chg_set _ _ _ _⟩
      · rw [if_neg (by simp; omega)]
        rw [Int.toNat_natCast]
        have hnc : (n : Int) ≤ (c : Int) := by omega
        have hn0 : (0 : Int) ≤ (n : Int) := by omega
        have hnl : (n : Int) ≤ (l.length : Int) := by omega
        have htl : (l.take n).length = n := by simp; omega
        have e1 : (l.drop n).length = l.length - n := by simp
        have HW := Lib.hid (show Rdf (w.setCell ⟨g, 0, none⟩ (.slice (if c = n then A else A.map (·.add n)) (l.length - n) (c - n))) g rb (l.drop n) false by
          have := HR.out.setLeft (A' := if c = n then A else A.map (·.add n)) (c' := c - n) (l' := l.drop n) (by rw [e1]; omega) (by omega) (by rw [us_drop]; exact HIN.out.drop n c (by rw [us_length]; exact hc))
          rwa [e1] at this)
        have HT := Lib.hid (show ∀ v, Has (w.setCell ⟨g, 0, none⟩ v) w.heap.size A (us (l.take n)) from fun v => by
          rw [us_take]
          have h3 : HasIn (w.setCell ⟨g, 0, none⟩ v) rb A ((us l).take n) := (HIN.out.take n).keep fun hl => by
            obtain ⟨A2, c2, e2, _⟩ := HR.out
            exact Below.heap_setCell w _ _ rb (Rdr.ne e2 (fun _ _ => by simp) (fun _ _ => by simp) HIN.out (by rw [List.length_take] at hl; omega))
          have h4 := h3.has
          simpa [World.setCell] using h4)
        clear e1
        obtain ⟨A2, HA2⟩ : ∃ A2, Hid ((if c = n then A else A.map (·.add n)) = A2) := ⟨_, Lib.hid rfl⟩
        rw [HA2.out] at HW
        obtain ⟨T, HTT⟩ : ∃ T, Hid (l.take n = T) := ⟨_, Lib.hid rfl⟩
        obtain ⟨D, HDD⟩ : ∃ D, Hid (l.drop n = D) := ⟨_, Lib.hid rfl⟩
        rw [HTT.out] at htl HT
        rw [HDD.out] at HW
        rw [HTT.out, HDD.out]
        subst htl
        have HOE := Lib.hid (show ∀ v, Own ((w.setCell ⟨g, 0, none⟩ v).alloc (.cells #[] 5)) w.heap.size (.slice (some ⟨w.heap.size, 0, none⟩) 0 0) [] from fun v => by
          have h3 := own_empty (w.setCell ⟨g, 0, none⟩ v)
          simpa [World.setCell] using h3)
        have HSZ := Lib.hid (show ∀ v, w.heap.size ≤ (w.setCell ⟨g, 0, none⟩ v).heap.size from fun v => by simp [World.setCell])
        have HB2 := Lib.hid (show ∀ (v : Value) (w5 : World), Below w.heap.size ((w.setCell ⟨g, 0, none⟩ v).alloc (.cells #[] 5)) w5 → Below w.heap.size (w.setCell ⟨g, 0, none⟩ v) w5 from fun v w5 h => ((Below.refl _ _).alloc (HSZ.out v) _).trans h)
        have HCB := Lib.hid (show ∀ (v : Value) (w5 : World), Below w.heap.size (w.setCell ⟨g, 0, none⟩ v) w5 → Chg w w5 g none from fun v w5 h => (chg_set w g 0 v).belowNew (by rw [set_size]; exact h))
        by_cases hcn : c = T.length
        · have HA3 := Lib.hid (show A2 = A by rw [← HA2.out, if_pos hcn])
          rw [HA3.out] at HW
          subst hcn
          have HRG := Lib.hid (show ∀ w5, Below w.heap.size (w.setCell ⟨g, 0, none⟩ (.slice A 0 0)) w5 → Rdf w5 g rb D false from fun w5 h => by
            have h3 := HW.out
            rw [Nat.sub_self, show l.length - T.length = 0 by omega] at h3
            exact h3.grow (by rw [set_size]; exact h))
          go_enter Tryd.func56, Tryd.ntmps56
          go_wp2_with (at_builtin; go_must (refine wp_app (c := T.length) (base := w.heap.size) (B := w.heap.size) (A := A) (m := T) rfl rfl (by rfl) (by rfl) (l := []) (HOE.out _) ((HT.out _).alloc (HSZ.out _) _) (by simp; omega) (le_alloc (HSZ.out _) _) ?_); intro v5 w5 ho5 hb5 _ _)
          go_ret
          exact ⟨_, ho5, rfl, HRG.out _ (HB2.out _ _ hb5), HCB.out _ _ (HB2.out _ _ hb5)⟩
        · have HA3 := Lib.hid (show A2 = A.map (·.add T.length) by rw [← HA2.out, if_neg hcn])
          rw [HA3.out] at HW
          have HRG := Lib.hid (show ∀ w5, Below w.heap.size (w.setCell ⟨g, 0, none⟩ (.slice (A.map (·.add T.length)) (l.length - T.length) (c - T.length))) w5 → Rdf w5 g rb D false from fun w5 h => by
            exact HW.out.grow (by rw [set_size]; exact h))
          go_enter Tryd.func56, Tryd.ntmps56
          go_wp2_with (at_builtin; go_must (refine wp_app (c := c) (base := w.heap.size) (B := w.heap.size) (A := A) (m := T) rfl rfl (by rfl) (by rfl) (l := []) (HOE.out _) ((HT.out _).alloc (HSZ.out _) _) (by simp; omega) (le_alloc (HSZ.out _) _) ?_); intro v5 w5 ho5 hb5 _ _)
          go_ret
          exact ⟨_, ho5, rfl, HRG.out _ (HB2.out _ _ hb5), HCB.out _ _ (HB2.out _ _ hb5)⟩
end Go.Proofs.YtcjafbpgjlcdpaaDoor
