/- WindowTwice: the statement's walk. -/
import Derived.Test.YtmjlehofjholaaaWinL
namespace Go.Proofs.Ytmjlehofjholaaa
open Go Go.RowKit Go.Shelf
set_option linter.unusedVariables false
set_option maxRecDepth 100000
attribute [local go_sem] Oper.semAt_some

theorem take_twice (got seq : Nat) : takeB (takeV got seq) seq = false ∧ takeV (takeV got seq) seq = takeV got seq := by
  by_cases h : takeB got seq = true
  · have e : takeV got seq = seq := by simp [takeV, h]
    rw [e]
    exact take_no (.inr (.inr (by omega)))
  · have e : takeV got seq = got := by simp [takeV, h]
    rw [e]
    exact ⟨by simpa using h, e⟩
theorem ack_twice (base : Nat) (L : List (List UInt8)) (upto : Nat) : ackB (ackV base L upto) (ackL base L upto) upto = false := by
  by_cases h : ackB base L upto = true
  · rw [(ack_yes h).1, (ack_yes h).2]
    simp [ackB]
  · have h' : ackB base L upto = false := by simpa using h
    rw [(ack_no h').1, (ack_no h').2, h']
theorem takeV_lt {got seq : Nat} (hg : got < 18446744073709551616) (hs : seq < 18446744073709551616) : takeV got seq < 18446744073709551616 := by
  unfold takeV
  split <;> assumption
theorem ackV_lt {base upto : Nat} {L : List (List UInt8)} (hg : base < 18446744073709551616) (hs : upto < 18446744073709551616) : ackV base L upto < 18446744073709551616 := by
  unfold ackV
  split <;> assumption
theorem ackL_fit {base upto : Nat} {L : List (List UInt8)} (h : Fit L) : Fit (ackL base L upto) := by
  unfold ackL
  split
  · exact h.drop _
  · exact h
theorem Fit.all {L : List (List UInt8)} (h : Fit L) : ∀ l ∈ L, l.length ≤ 140737488355328 := fun l hl => by
  have := h.2 l hl
  omega

theorem long_t (w : World) (B base : Nat) (A : Option Addr) (c : Nat) (L : List (List UInt8)) (h : Bx w B A L) (hB : B ≤ w.heap.size) (hm : L.length ≤ maxLen) (hl : longB L = true) :
    Calls Try.prog 10 #[.agg #[.int .u64 (base : Int), .slice A L.length c]] w fun e w' => e = .returned (.bool true) ∧ Below w.heap.size w w' := by
  have := long_any w B base A c L h hB hm
  rwa [hl] at this
theorem long_f (w : World) (B base : Nat) (A : Option Addr) (c : Nat) (L : List (List UInt8)) (h : Bx w B A L) (hB : B ≤ w.heap.size) (hm : L.length ≤ maxLen) (hl : longB L = false) :
    Calls Try.prog 10 #[.agg #[.int .u64 (base : Int), .slice A L.length c]] w fun e w' => e = .returned (.bool false) ∧ Below w.heap.size w w' := by
  have := long_any w B base A c L h hB hm
  rwa [hl] at this
theorem same_t (w : World) (B b1 : Nat) (A1 A2 : Option Addr) (c1 c2 : Nat) (L1 : List (List UInt8)) (h1 : Bx w B A1 L1) (h2 : Bx w B A2 L1) (hB : B ≤ w.heap.size) (hm1 : L1.length ≤ maxLen) :
    Calls Try.prog 15 #[.agg #[.int .u64 (b1 : Int), .slice A1 L1.length c1], .agg #[.int .u64 (b1 : Int), .slice A2 L1.length c2]] w fun e w' => e = .returned (.bool true) ∧ Below w.heap.size w w' := by
  have := same_any w B b1 b1 A1 A2 c1 c2 L1 L1 h1 h2 hB hm1 hm1
  rwa [same_yes rfl rfl] at this

set_option maxHeartbeats 1000000 in
theorem windowTwice_walk (w : World) (base : Nat) (A : Option Addr) (c : Nat) (L : List (List UInt8)) (got upto seq : Nat) (hb : base < 18446744073709551616) (hcc : L.length ≤ c) (hcm : c ≤ maxLen) (hr : L.length ≤ 140737488355328) (h : Bx w w.heap.size A L)
    (hg : got < 18446744073709551616) (hu : upto < 18446744073709551616) (hs : seq < 18446744073709551616) :
    Calls Try.prog 9 #[.agg #[.int .u64 (base : Int), .slice A L.length c], .agg #[.int .u64 (got : Int)], .int .u64 (upto : Int), .int .u64 (seq : Int)] w fun e w' => e = .returned (.bool true) ∧ Below w.heap.size w w' := by
  have H := Lib.hid h
  clear h
  obtain ⟨W, HW⟩ : ∃ W, Hid (W = (w.alloc (.cells #[.int .u64 (base : Int), .slice A L.length c] 25)).alloc (.cells #[.int .u64 (got : Int)] 45)) := ⟨_, Lib.hid rfl⟩
  have hbW : Below w.heap.size w W := by rw [HW.out]; exact ((Below.refl _ w).alloc (Nat.le_refl _) _).alloc (by simp) _
  have hzW : w.heap.size + 2 ≤ W.heap.size := by rw [HW.out]; simp
  have k0 : W.cell? ⟨w.heap.size, 0, none⟩ = some (.int .u64 (base : Int)) := by rw [HW.out]; simp [go_sem]
  have k1 : W.cell? ⟨w.heap.size, 1, none⟩ = some (.slice A L.length c) := by rw [HW.out]; simp [go_sem]
  have k2 : W.cell? ⟨w.heap.size + 1, 0, none⟩ = some (.int .u64 (got : Int)) := by rw [HW.out]; simp [go_sem]
  have HX := Lib.hid ((H.out.below hbW).more hbW.size)
  by_cases hlong : longB L = true
  · have HL := Lib.hid hlong
    clear hlong
    go_enter Try.func9, Try.ntmps9
    go_wp2_with fail
    rw [← HW.out]
    refine (long_t W W.heap.size base A c L HX.out (Nat.le_refl _) (by omega) HL.out).mono ?_
    rintro e w1 ⟨rfl, hb1⟩
    go_wp2_with fail
    refine (awake_any w1).mono ?_
    rintro e w2 ⟨rfl, hb2⟩
    go_wp2_with fail
    go_ret
    have hB1 := hbW.trans (hb1.mono hbW.size)
    exact ⟨rfl, hB1.trans (hb2.mono hB1.size)⟩
  · have hl2 : longB L = false := by simpa using hlong
    have HL := Lib.hid hl2
    have HF := Lib.hid (long_fit hl2)
    clear hlong hl2
    obtain ⟨v, HV⟩ : ∃ v, Hid (takeV got seq = v) := ⟨_, Lib.hid rfl⟩
    obtain ⟨b0, HB0⟩ : ∃ b, Hid (takeB got seq = b) := ⟨_, Lib.hid rfl⟩
    have hvl : v < 18446744073709551616 := by rw [← HV.out]; exact takeV_lt hg hs
    have HT1 : Hid (TakeRes got seq = .tuple #[.agg #[.int .u64 (v : Int)], .bool b0]) := Lib.hid (by rw [← HV.out, ← HB0.out]; rfl)
    have HT2 : Hid (TakeRes v seq = .tuple #[.agg #[.int .u64 (v : Int)], .bool false]) := Lib.hid (by rw [← HV.out]; unfold TakeRes; rw [(take_twice got seq).1, (take_twice got seq).2])
    obtain ⟨ba, HBA⟩ : ∃ b, Hid (ackV base L upto = b) := ⟨_, Lib.hid rfl⟩
    obtain ⟨La, HLA⟩ : ∃ b, Hid (ackL base L upto = b) := ⟨_, Lib.hid rfl⟩
    have hbal : ba < 18446744073709551616 := by rw [← HBA.out]; exact ackV_lt hb hu
    have HFA : Hid (Fit La) := Lib.hid (by rw [← HLA.out]; exact ackL_fit HF.out)
    have HA2 : Hid (ackB ba La upto = false) := Lib.hid (by rw [← HBA.out, ← HLA.out]; exact ack_twice base L upto)
    obtain ⟨bb, HBB⟩ : ∃ b, Hid (ackB base L upto = b) := ⟨_, Lib.hid rfl⟩
    go_enter Try.func9, Try.ntmps9
    go_wp2_with fail
    rw [← HW.out]
    refine (long_f W W.heap.size base A c L HX.out (Nat.le_refl _) (by omega) HL.out).mono ?_
    rintro e w1 ⟨rfl, hb1⟩
    have HX1 := Lib.hid ((HX.out.below hb1).more hb1.size)
    have k0 := (hb1.cell (p := ⟨w.heap.size, 0, none⟩) (show w.heap.size < W.heap.size by omega)).trans k0
    have k1 := (hb1.cell (p := ⟨w.heap.size, 1, none⟩) (show w.heap.size < W.heap.size by omega)).trans k1
    have k2 := (hb1.cell (p := ⟨w.heap.size + 1, 0, none⟩) (show w.heap.size + 1 < W.heap.size by omega)).trans k2
    have hB1 := hbW.trans (hb1.mono hbW.size)
    have hz1 : w.heap.size + 1 < w1.heap.size := by have := hb1.size; omega
    clear HX HW HL
    go_wp2_with fail
    refine (take_any w1 got seq hg hs).mono ?_
    rintro e w2 ⟨rfl, hb2⟩
    rw [HT1.out]
    have HX2 := Lib.hid ((HX1.out.below hb2).more hb2.size)
    have k0 := (hb2.cell (p := ⟨w.heap.size, 0, none⟩) (show w.heap.size < w1.heap.size by omega)).trans k0
    have k1 := (hb2.cell (p := ⟨w.heap.size, 1, none⟩) (show w.heap.size < w1.heap.size by omega)).trans k1
    have hB2 := hB1.trans (hb2.mono hB1.size)
    have hz2 : w.heap.size + 1 < w2.heap.size := by have := hb2.size; omega
    clear HX1 hb1 hb2
    go_wp2_with fail
    obtain ⟨W2, HW2⟩ : ∃ W, Hid (W = w2.alloc (.cells #[.int .u64 (v : Int)] 45)) := ⟨_, Lib.hid rfl⟩
    have hbW2 : Below w2.heap.size w2 W2 := by rw [HW2.out]; exact (Below.refl _ _).alloc (Nat.le_refl _) _
    have ka : W2.cell? ⟨w2.heap.size, 0, none⟩ = some (.int .u64 (v : Int)) := by rw [HW2.out]; simp [go_sem]
    have hzW2 : w2.heap.size < W2.heap.size := by rw [HW2.out]; simp
    have k0 := (hbW2.cell (p := ⟨w.heap.size, 0, none⟩) (show w.heap.size < w2.heap.size by omega)).trans k0
    have k1 := (hbW2.cell (p := ⟨w.heap.size, 1, none⟩) (show w.heap.size < w2.heap.size by omega)).trans k1
    rw [← HW2.out]
    refine (take_any W2 v seq hvl hs).mono ?_
    rintro e w3 ⟨rfl, hb3⟩
    rw [HT2.out]
    have HX3 := Lib.hid ((((HX2.out.below hbW2).more hbW2.size).below hb3).more hb3.size)
    have k0 := (hb3.cell (p := ⟨w.heap.size, 0, none⟩) (show w.heap.size < W2.heap.size by omega)).trans k0
    have k1 := (hb3.cell (p := ⟨w.heap.size, 1, none⟩) (show w.heap.size < W2.heap.size by omega)).trans k1
    have ka := (hb3.cell (p := ⟨w2.heap.size, 0, none⟩) (show w2.heap.size < W2.heap.size by omega)).trans ka
    have hB3 := (hB2.trans (hbW2.mono hB2.size)).trans (hb3.mono (by have := hbW2.size; omega))
    have hz3 : w2.heap.size < w3.heap.size := by have := hb3.size; omega
    have hz30 : w.heap.size < w3.heap.size := by omega
    clear HX2 hbW2 hb3 HW2 HT1 HT2
    obtain ⟨W3, HW3⟩ : ∃ W, Hid (W = w3.alloc (.cells #[.int .u64 (v : Int)] 45)) := ⟨_, Lib.hid rfl⟩
    have hbW3 : Below w3.heap.size w3 W3 := by rw [HW3.out]; exact (Below.refl _ _).alloc (Nat.le_refl _) _
    have kb : W3.cell? ⟨w3.heap.size, 0, none⟩ = some (.int .u64 (v : Int)) := by rw [HW3.out]; simp [go_sem]
    have hzW3 : w3.heap.size < W3.heap.size := by rw [HW3.out]; simp
    have ka := (hbW3.cell (p := ⟨w2.heap.size, 0, none⟩) hz3).trans ka
    have HX3 := Lib.hid ((HX3.out.below hbW3).more hbW3.size)
    go_wp2_with fail
    rw [← HW3.out]
    refine (acked_any W3 base upto A c L HX3.out hb hu HF.out hcc hcm).mono ?_
    rintro e w4 ⟨hb4, v4, rfl, ho4⟩
    rw [HLA.out] at ho4
    rw [HBA.out, HBB.out]
    obtain ⟨A4, c4, rfl, q1, q2, hx4⟩ := ho4.form HFA.out.all
    have ka := (hb4.cell (p := ⟨w2.heap.size, 0, none⟩) (show w2.heap.size < W3.heap.size by omega)).trans ka
    have kb := (hb4.cell (p := ⟨w3.heap.size, 0, none⟩) (show w3.heap.size < W3.heap.size by omega)).trans kb
    have hB4 := (hB3.trans (hbW3.mono hB3.size)).trans (hb4.mono (by have := hbW3.size; have := hB3.size; omega))
    have hz4 : w3.heap.size < w4.heap.size := by have := hb4.size; omega
    have HX4 := Lib.hid hx4
    clear HX3 hbW3 hb4 HW3 ho4 hx4 k0 k1
    obtain ⟨W4, HW4⟩ : ∃ W, Hid (W = w4.alloc (.cells #[.int .u64 (ba : Int), .slice A4 La.length c4] 25)) := ⟨_, Lib.hid rfl⟩
    have hbW4 : Below w4.heap.size w4 W4 := by rw [HW4.out]; exact (Below.refl _ _).alloc (Nat.le_refl _) _
    have kc0 : W4.cell? ⟨w4.heap.size, 0, none⟩ = some (.int .u64 (ba : Int)) := by rw [HW4.out]; simp [go_sem]
    have kc1 : W4.cell? ⟨w4.heap.size, 1, none⟩ = some (.slice A4 La.length c4) := by rw [HW4.out]; simp [go_sem]
    have hzW4 : w4.heap.size < W4.heap.size := by rw [HW4.out]; simp
    have ka := (hbW4.cell (p := ⟨w2.heap.size, 0, none⟩) (show w2.heap.size < w4.heap.size by omega)).trans ka
    have kb := (hbW4.cell (p := ⟨w3.heap.size, 0, none⟩) hz4).trans kb
    have HX4 := Lib.hid ((HX4.out.below hbW4).more hbW4.size)
    go_wp2_with fail
    rw [← HW4.out]
    refine (acked_any W4 ba upto A4 c4 La HX4.out hbal hu HFA.out q1 q2).mono ?_
    rintro e w5 ⟨hb5, v5, rfl, ho5⟩
    rw [(ack_no HA2.out).1] at ho5
    rw [(ack_no HA2.out).2, HA2.out]
    obtain ⟨A5, c5, rfl, q3, q4, hx5⟩ := ho5.form HFA.out.all
    have ka := (hb5.cell (p := ⟨w2.heap.size, 0, none⟩) (show w2.heap.size < W4.heap.size by omega)).trans ka
    have kb := (hb5.cell (p := ⟨w3.heap.size, 0, none⟩) (show w3.heap.size < W4.heap.size by omega)).trans kb
    have kc0 := (hb5.cell (p := ⟨w4.heap.size, 0, none⟩) hzW4).trans kc0
    have kc1 := (hb5.cell (p := ⟨w4.heap.size, 1, none⟩) hzW4).trans kc1
    have hB5 := (hB4.trans (hbW4.mono hB4.size)).trans (hb5.mono (by have := hbW4.size; have := hB4.size; omega))
    have hz5 : w4.heap.size < w5.heap.size := by have := hb5.size; omega
    have hz52 : w2.heap.size < w5.heap.size := by omega
    have hz53 : w3.heap.size < w5.heap.size := by omega
    have HX5 := Lib.hid hx5
    have HX4 := Lib.hid ((HX4.out.below hb5).more hb5.size)
    clear hbW4 hb5 HW4 ho5 hx5
    obtain ⟨W5, HW5⟩ : ∃ W, Hid (W = w5.alloc (.cells #[.int .u64 (ba : Int), .slice A5 La.length c5] 25)) := ⟨_, Lib.hid rfl⟩
    have hbW5 : Below w5.heap.size w5 W5 := by rw [HW5.out]; exact (Below.refl _ _).alloc (Nat.le_refl _) _
    have kd0 : W5.cell? ⟨w5.heap.size, 0, none⟩ = some (.int .u64 (ba : Int)) := by rw [HW5.out]; simp [go_sem]
    have kd1 : W5.cell? ⟨w5.heap.size, 1, none⟩ = some (.slice A5 La.length c5) := by rw [HW5.out]; simp [go_sem]
    have ka := (hbW5.cell (p := ⟨w2.heap.size, 0, none⟩) (show w2.heap.size < w5.heap.size by omega)).trans ka
    have kb := (hbW5.cell (p := ⟨w3.heap.size, 0, none⟩) (show w3.heap.size < w5.heap.size by omega)).trans kb
    have kc0 := (hbW5.cell (p := ⟨w4.heap.size, 0, none⟩) hz5).trans kc0
    have kc1 := (hbW5.cell (p := ⟨w4.heap.size, 1, none⟩) hz5).trans kc1
    have HX5 := Lib.hid ((HX5.out.below hbW5).more hbW5.size)
    have HX4 := Lib.hid ((HX4.out.below hbW5).more hbW5.size)
    have hB5' := hB5.trans (hbW5.mono hB5.size)
    have kb5 : w5.cell? ⟨w3.heap.size, 0, none⟩ = some (.int .u64 (v : Int)) := (hbW5.cell (p := ⟨w3.heap.size, 0, none⟩) hz53).symm.trans kb
    have ka5 : w5.cell? ⟨w2.heap.size, 0, none⟩ = some (.int .u64 (v : Int)) := (hbW5.cell (p := ⟨w2.heap.size, 0, none⟩) hz52).symm.trans ka
    have kc05 := (hbW5.cell (p := ⟨w4.heap.size, 0, none⟩) hz5).symm.trans kc0
    have kc15 := (hbW5.cell (p := ⟨w4.heap.size, 1, none⟩) hz5).symm.trans kc1
    go_wp2_with fail
    rw [← HW5.out]
    refine (same_t W5 W5.heap.size ba A5 A4 c5 c4 La HX5.out HX4.out (Nat.le_refl _) (by omega)).mono ?_
    rintro e w6 ⟨rfl, hb6⟩
    go_wp2_with fail
    refine (awake_any w6).mono ?_
    rintro e w7 ⟨rfl, hb7⟩
    go_wp2_with fail
    go_ret
    have hB6 := hB5'.trans (hb6.mono hB5'.size)
    exact ⟨rfl, hB6.trans (hb7.mono hB6.size)⟩
end Go.Proofs.Ytmjlehofjholaaa
