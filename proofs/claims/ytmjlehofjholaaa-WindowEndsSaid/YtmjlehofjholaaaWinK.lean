/- WindowAcks: the statement's walk. -/
import Derived.Test.YtmjlehofjholaaaWinS
namespace Go.Proofs.Ytmjlehofjholaaa
open Go Go.RowKit Go.Shelf
set_option linter.unusedVariables false
set_option maxRecDepth 100000
attribute [local go_sem] Oper.semAt_some

theorem two_new {w W : World} {x y : Value} (hW : W = w.alloc (.cells #[x, y] 25)) : Below w.heap.size w W ∧ W.heap.size = w.heap.size + 1 ∧ Two W w.heap.size x y := by
  subst hW
  exact ⟨(Below.refl _ _).alloc (Nat.le_refl _) _, by simp, Two.new w x y⟩

set_option maxHeartbeats 1000000 in
theorem windowAcks_walk (w : World) (base : Nat) (A : Option Addr) (c : Nat) (L : List (List UInt8)) (upto : Nat) (hb : base < 18446744073709551616) (hcc : L.length ≤ c) (hcm : c ≤ maxLen) (hr : L.length ≤ 140737488355328) (h : Bx w w.heap.size A L) (hu : upto < 18446744073709551616) :
    Calls Try.prog 5 #[.agg #[.int .u64 (base : Int), .slice A L.length c], .int .u64 (upto : Int)] w fun e w' => e = .returned (.bool true) ∧ Below w.heap.size w w' := by
  obtain ⟨W, HW⟩ : ∃ W, Hid (W = w.alloc (.cells #[.int .u64 (base : Int), .slice A L.length c] 25)) := ⟨_, Lib.hid rfl⟩
  obtain ⟨hbW, hzW, tW⟩ := two_new HW.out
  have hzW := Nat.le_of_eq hzW.symm
  have HX := Lib.hid (h.below hbW)
  have k0 := tW.c0
  have k1 := tW.c1
  clear h
  by_cases hlong : longB L = true
  · have HL := Lib.hid hlong
    clear hlong
    go_enter Try.func5, Try.ntmps5
    go_wp2_with fail
    rw [← HW.out]
    refine (long_t W w.heap.size base A c L HX.out hbW.size (by omega) HL.out).mono ?_
    rintro e w1 ⟨rfl, hb1⟩
    go_wp2_with fail
    refine (awake_any w1).mono ?_
    rintro e w2 ⟨rfl, hb2⟩
    go_wp2_with fail
    go_ret
    have hB1 := hbW.trans (hb1.mono hbW.size)
    exact ⟨rfl, hB1.trans (hb2.mono hB1.size)⟩
  · have hl2 : longB L = false := by simpa using hlong
    have HL := Lib.hid hl2
    have HF := Lib.hid (long_fit hl2)
    clear hlong hl2
    obtain ⟨ba, HBA⟩ : ∃ b, Hid (ackV base L upto = b) := ⟨_, Lib.hid rfl⟩
    obtain ⟨La, HLA⟩ : ∃ b, Hid (ackL base L upto = b) := ⟨_, Lib.hid rfl⟩
    obtain ⟨bb, HBB⟩ : ∃ b, Hid (ackB base L upto = b) := ⟨_, Lib.hid rfl⟩
    have HFA : Hid (Fit La) := Lib.hid (by rw [← HLA.out]; exact ackL_fit HF.out)
    have hLa := HFA.out.1
    go_enter Try.func5, Try.ntmps5
    go_wp2_with fail
    rw [← HW.out]
    refine (long_f W w.heap.size base A c L HX.out hbW.size (by omega) HL.out).mono ?_
    rintro e w1 ⟨rfl, hb1⟩
    have hB1 : Below w.heap.size w w1 := hbW.trans (hb1.mono hbW.size)
    have HX1 := Lib.hid (HX.out.below (hb1.mono hbW.size))
    have hz1 := hb1.size
    have T1 := Lib.hid (tW.below hb1 (by omega))
    have k0 := T1.out.c0
    have k1 := T1.out.c1
    clear tW HX
    go_wp2_with fail
    refine (ownR_any w1 base A c L (HX1.out.more hB1.size) HF.out).mono ?_
    rintro e w2 ⟨v, rfl, ho2, hb2⟩
    obtain ⟨Ao, co, rfl, p1, p2, hx2⟩ := ho2.form HF.out.all
    have hz2 := hb2.size
    obtain ⟨W2, HW2⟩ : ∃ W, Hid (W = w2.alloc (.cells #[.int .u64 (base : Int), .slice Ao L.length co] 25)) := ⟨_, Lib.hid rfl⟩
    obtain ⟨hbW2, hzW2, t2⟩ := two_new HW2.out
    have hzW2 := Nat.le_of_eq hzW2.symm
    have hb12 : Below w1.heap.size w1 W2 := hb2.trans (hbW2.mono hb2.size)
    have TO := Lib.hid t2
    have TS := Lib.hid (T1.out.below hb12 (by omega))
    have XS := Lib.hid (HX1.out.below (hb12.mono hB1.size))
    have XO := Lib.hid (hx2.below hbW2)
    have hBW2 : Below w.heap.size w W2 := hB1.trans (hb12.mono hB1.size)
    have k0 := (T1.out.below hb2 (by omega)).c0
    have k1 := (T1.out.below hb2 (by omega)).c1
    have hn0 : w.heap.size < w2.heap.size := by omega
    clear t2 T1 HX1 hb2 hx2 ho2
    go_wp2_with fail
    rw [← HW2.out]
    refine (acked_any W2 base upto A c L (XS.out.more hBW2.size) hb hu HF.out hcc hcm).mono ?_
    rintro e w3 ⟨hb3, v3, rfl, ho3⟩
    rw [HLA.out] at ho3
    rw [HBA.out, HBB.out]
    obtain ⟨A3, c3, rfl, p3, p4, hx3⟩ := ho3.form HFA.out.all
    have hz3 := hb3.size
    obtain ⟨W3, HW3⟩ : ∃ W, Hid (W = w3.alloc (.cells #[.int .u64 (ba : Int), .slice A3 La.length c3] 25)) := ⟨_, Lib.hid rfl⟩
    obtain ⟨hbW3, hzW3, t3⟩ := two_new HW3.out
    have hzW3 := Nat.le_of_eq hzW3.symm
    have hb23 : Below W2.heap.size W2 W3 := hb3.trans (hbW3.mono hb3.size)
    have TT := Lib.hid t3
    have OT := Lib.hid (ho3.below hbW3)
    have hBW3 : Below w.heap.size w W3 := hBW2.trans (hb23.mono hBW2.size)
    have k0 := (TO.out.below hb3 (by omega)).c0
    have k1 := (TO.out.below hb3 (by omega)).c1
    have XO3 := Lib.hid (XO.out.below (hb23.mono hbW2.size))
    have hn1 : w2.heap.size < w3.heap.size := by omega
    clear t3 hx3 ho3 hb3
    go_wp2_with fail
    rw [← HW3.out]
    refine (ackedR_any W3 base upto Ao co L (XO3.out.more (by omega)) hb hu HF.out p1 p2).mono ?_
    rintro e w4 ⟨hb4, A4, c4, rfl, hx4⟩
    rw [HLA.out] at hx4
    rw [HLA.out, HBA.out, HBB.out]
    have hz4 := hb4.size
    obtain ⟨W4, HW4⟩ : ∃ W, Hid (W = w4.alloc (.cells #[.int .u64 (ba : Int), .slice A4 La.length c4] 25)) := ⟨_, Lib.hid rfl⟩
    obtain ⟨hbW4, hzW4, t4⟩ := two_new HW4.out
    have hzW4 := Nat.le_of_eq hzW4.symm
    have hb34 : Below W3.heap.size W3 W4 := hb4.trans (hbW4.mono hb4.size)
    have XU := Lib.hid (hx4.below hbW4)
    have k0 := (TT.out.below hb4 (by omega)).c0
    have k1 := (TT.out.below hb4 (by omega)).c1
    have OT4 := Lib.hid (OT.out.below hb34)
    have XT4 := Lib.hid ((OT.out.below hb34).bx HFA.out.all)
    have TT4 := Lib.hid (TT.out.below hb34 (by omega))
    have hn2 : w3.heap.size < w4.heap.size := by omega
    clear t4 hx4 hb4 OT
    go_wp2_with fail
    rw [← HW4.out]
    refine (same_t W4 W4.heap.size ba A3 A4 c3 c4 La XT4.out (XU.out.more (by omega)) (Nat.le_refl _) (by unfold maxLen; omega)).mono ?_
    rintro e w5 ⟨rfl, hb5⟩
    have hz5 := hb5.size
    have k0 := (TT4.out.below hb5 (by omega)).c0
    have k1 := (TT4.out.below hb5 (by omega)).c1
    have OT5 := Lib.hid (OT4.out.below hb5)
    have hb25 : Below W2.heap.size W2 w5 := (hb23.trans (hb34.mono (by omega))).trans (hb5.mono (by omega))
    clear XT4 XU OT4 TT4
    go_wp2_with fail
    refine (spoil_any w5 W2.heap.size ba A3 c3 La OT5.out (by omega) HFA.out).mono ?_
    rintro e w6 ⟨rfl, hb6⟩
    have hb26 := hb25.trans hb6
    have hz6 := hb26.size
    have k0 := (TS.out.below hb26 (by omega)).c0
    have k1 := (TS.out.below hb26 (by omega)).c1
    have k2 := (TO.out.below hb26 (by omega)).c0
    have k3 := (TO.out.below hb26 (by omega)).c1
    have XS6 := Lib.hid ((XS.out.below (hb26.mono hBW2.size)).more (Nat.le_trans hBW2.size hz6))
    have XO6 := Lib.hid ((XO.out.below (hb26.mono hbW2.size)).more (Nat.le_trans hbW2.size hz6))
    have hB6 := hBW2.trans (hb26.mono hBW2.size)
    clear TS TO XS XO XO3
    go_wp2_with fail
    refine (same_t w6 w6.heap.size base A Ao c co L XS6.out XO6.out (Nat.le_refl _) (by omega)).mono ?_
    rintro e w7 ⟨rfl, hb7⟩
    go_wp2_with fail
    refine (awake_any w7).mono ?_
    rintro e w8 ⟨rfl, hb8⟩
    go_wp2_with fail
    go_ret
    have hB7 := hB6.trans (hb7.mono hB6.size)
    exact ⟨rfl, hB7.trans (hb8.mono hB7.size)⟩
end Go.Proofs.Ytmjlehofjholaaa
