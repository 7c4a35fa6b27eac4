/- The walk of letter.Decode. -/
import Derived.Test.YtbnjlminjopaaaaLetU
import Derived.Test.YtbnjlminjopaaaaRgF
import Derived.Test.YtbnjlminjopaaaaRgS
import Derived.Test.YtbnjlminjopaaaaRgB
namespace Go.Proofs.Ytbnjlminjopaaaa
open Go Go.RowKit
set_option linter.unusedVariables false
set_option maxRecDepth 100000

/-- a row of one number -/
def OneU (x : Nat) (v : Value) (w : World) : Prop := ∃ A c, v = .slice A 1 c ∧ Has w w.heap.size A (u64s [x])
theorem OneU.new (w : World) (x : Nat) (t : TypeId) : OneU x (.slice (some ⟨w.heap.size, 0, none⟩) 1 1) (w.alloc (.cells #[.int .u64 (x : Int)] t)) := ⟨_, 1, rfl, by have := has_new w #[.int .u64 (x : Int)] t; simpa [u64s] using this⟩
set_option maxHeartbeats 6400000 in
theorem decodeL_any (w : World) (B : Nat) (A : Option Addr) (c : Nat) (b : List UInt8) (hA : Has w B A (us b)) (hB : B ≤ w.heap.size) (hl : b.length ≤ 1000000000) :
    Calls Try.prog 18 #[.slice A b.length c] w (DecsL (.int .i64 0) (.int .i64 3) w b) := by
  have HA := Lib.hid (hA.more hB)
  clear hA hB
  have HS0 := Lib.hid (show Sep w (w.alloc (.cells #[.int .i64 0, .int .i64 0, .int .u64 0, .int .u64 0, .int .i64 0, .int .u64 0, .int .u64 0, .slice none 0 0, .int .u64 0, .slice none 0 0, .bool false] 30)) [Ce w.heap.size 30 #[.int .i64 0, .int .i64 0, .int .u64 0, .int .u64 0, .int .i64 0, .int .u64 0, .int .u64 0, .slice none 0 0, .int .u64 0, .slice none 0 0, .bool false]] from sep_ce (Sep.nil w) #[.int .i64 0, .int .i64 0, .int .u64 0, .int .u64 0, .int .i64 0, .int .u64 0, .int .u64 0, .slice none 0 0, .int .u64 0, .slice none 0 0, .bool false] 30)
  go_enter Try.func18, Try.ntmps18
  go_wp2_with fail
  refine (sep_newReader HS0.out w.heap.size A c b (HA.out.alloc (Nat.le_refl _) _) (le_alloc (Nat.le_refl _) _) hl).mono ?_
  rintro e w2 ⟨g2, rfl, hs2⟩
  have HS2 := Lib.hid (show Sep w w2 [Ce w.heap.size 30 #[.int .i64 0, .int .i64 0, .int .u64 0, .int .u64 0, .int .i64 0, .int .u64 0, .int .u64 0, .slice none 0 0, .int .u64 0, .slice none 0 0, .bool false], Rd g2 b false] from hs2)
  clear hs2 HS0
  go_wp2_with fail
  refine (sep_g8 (i := 1) (s := (b, false)) HS2.out rfl hl).mono ?_
  rintro e w3 ⟨rfl, hs3⟩
  have h8 := g8_lt (b, false)
  have hl8 := g8_len (b, false)
  obtain ⟨kk, Hkk⟩ : ∃ x, Hid ((g8 (b, false)).1 = x) := ⟨_, Lib.hid rfl⟩
  obtain ⟨s1, Hs1⟩ : ∃ x, Hid ((g8 (b, false)).2 = x) := ⟨_, Lib.hid rfl⟩
  rw [Hkk.out] at h8 ⊢
  rw [Hs1.out] at hl8 hs3
  simp only at hl8
  have HS3 := Lib.hid (show Sep w w3 [Ce w.heap.size 30 #[.int .i64 0, .int .i64 0, .int .u64 0, .int .u64 0, .int .i64 0, .int .u64 0, .int .u64 0, .slice none 0 0, .int .u64 0, .slice none 0 0, .bool false], Rd g2 s1.1 s1.2] from hs3)
  clear hs3 HS2
  have HS4 := Lib.hid (show Sep w (w3.alloc (.cells #[.int .i64 (kk : Int), .int .i64 0, .int .u64 0, .int .u64 0, .int .i64 0, .int .u64 0, .int .u64 0, .slice none 0 0, .int .u64 0, .slice none 0 0, .bool false] 30)) [Ce w.heap.size 30 #[.int .i64 0, .int .i64 0, .int .u64 0, .int .u64 0, .int .i64 0, .int .u64 0, .int .u64 0, .slice none 0 0, .int .u64 0, .slice none 0 0, .bool false], Rd g2 s1.1 s1.2, Ce w3.heap.size 30 #[.int .i64 (kk : Int), .int .i64 0, .int .u64 0, .int .u64 0, .int .i64 0, .int .u64 0, .int .u64 0, .slice none 0 0, .int .u64 0, .slice none 0 0, .bool false]] from sep_ce HS3.out _ _)
  clear HS3
  go_wp2_with fail
  obtain ⟨w4, HW4⟩ : ∃ W, Hid (w3.alloc (.cells #[.int .i64 (kk : Int), .int .i64 0, .int .u64 0, .int .u64 0, .int .i64 0, .int .u64 0, .int .u64 0, .slice none 0 0, .int .u64 0, .slice none 0 0, .bool false] 30) = W) := ⟨_, Lib.hid rfl⟩
  rw [HW4.out] at HS4 ⊢
  obtain ⟨g3, HG3⟩ : ∃ g, Hid (w3.heap.size = g) := ⟨_, Lib.hid rfl⟩
  rw [HG3.out] at HS4 ⊢
  refine (sep_gP (i := 1) (s := s1) HS4.out rfl (by omega)).mono ?_
  rintro e w5 ⟨rfl, hs5⟩
  have hlP := gP_len s1
  obtain ⟨nn, Hnn⟩ : ∃ x, Hid ((gP s1).1.1 = x) := ⟨_, Lib.hid rfl⟩
  obtain ⟨pi, Hpi⟩ : ∃ x, Hid ((gP s1).1.2 = x) := ⟨_, Lib.hid rfl⟩
  obtain ⟨s2, Hs2⟩ : ∃ x, Hid ((gP s1).2 = x) := ⟨_, Lib.hid rfl⟩
  rw [Hnn.out, Hpi.out]
  rw [Hs2.out] at hlP hs5
  have HS5 := Lib.hid (show Sep w w5 [Ce w.heap.size 30 #[.int .i64 0, .int .i64 0, .int .u64 0, .int .u64 0, .int .i64 0, .int .u64 0, .int .u64 0, .slice none 0 0, .int .u64 0, .slice none 0 0, .bool false], Rd g2 s2.1 s2.2, Ce g3 30 #[.int .i64 (kk : Int), .int .i64 0, .int .u64 0, .int .u64 0, .int .i64 0, .int .u64 0, .int .u64 0, .slice none 0 0, .int .u64 0, .slice none 0 0, .bool false]] from hs5)
  clear hs5 HS4
  have y1 := sep_ceFrozen (i := 2) HS5.out rfl 1
  have y2 := sep_ceFrozen (i := 2) HS5.out rfl 2
  have k1 := sep_ceAt (i := 2) HS5.out rfl 1 rfl
  have k2 := sep_ceAt (i := 2) HS5.out rfl 2 rfl
  go_wp2_with fail
  have hs6 := sep_ceSet (i := 2) HS5.out rfl 1 (.int .i64 (nn : Int))
  have hs6 := sep_ceSet (i := 2) hs6 rfl 2 (.int .u64 (pi : Int))
  obtain ⟨w6, HW6⟩ : ∃ W, Hid ((w5.setCell ⟨g3, 1, none⟩ (.int .i64 (nn : Int))).setCell ⟨g3, 2, none⟩ (.int .u64 (pi : Int)) = W) := ⟨_, Lib.hid rfl⟩
  rw [HW6.out] at hs6 ⊢
  have HS6 := Lib.hid (show Sep w w6 [Ce w.heap.size 30 #[.int .i64 0, .int .i64 0, .int .u64 0, .int .u64 0, .int .i64 0, .int .u64 0, .int .u64 0, .slice none 0 0, .int .u64 0, .slice none 0 0, .bool false], Rd g2 s2.1 s2.2, Ce g3 30 #[.int .i64 (kk : Int), .int .i64 (nn : Int), .int .u64 (pi : Int), .int .u64 0, .int .i64 0, .int .u64 0, .int .u64 0, .slice none 0 0, .int .u64 0, .slice none 0 0, .bool false]] from hs6)
  clear hs6 HS5 y1 y2 k1 k2
  refine (sep_gI (i := 1) (s := s2) HS6.out rfl (by omega)).mono ?_
  rintro e w7 ⟨rfl, hs7⟩
  have hlI := gI_len s2
  obtain ⟨rr, Hrr⟩ : ∃ x, Hid ((gI s2).1.1 = x) := ⟨_, Lib.hid rfl⟩
  obtain ⟨sn, Hsn⟩ : ∃ x, Hid ((gI s2).1.2.1 = x) := ⟨_, Lib.hid rfl⟩
  obtain ⟨si, Hsi⟩ : ∃ x, Hid ((gI s2).1.2.2 = x) := ⟨_, Lib.hid rfl⟩
  obtain ⟨s3, Hs3⟩ : ∃ x, Hid ((gI s2).2 = x) := ⟨_, Lib.hid rfl⟩
  rw [Hrr.out, Hsn.out, Hsi.out]
  rw [Hs3.out] at hlI hs7
  have HS7 := Lib.hid (show Sep w w7 [Ce w.heap.size 30 #[.int .i64 0, .int .i64 0, .int .u64 0, .int .u64 0, .int .i64 0, .int .u64 0, .int .u64 0, .slice none 0 0, .int .u64 0, .slice none 0 0, .bool false], Rd g2 s3.1 s3.2, Ce g3 30 #[.int .i64 (kk : Int), .int .i64 (nn : Int), .int .u64 (pi : Int), .int .u64 0, .int .i64 0, .int .u64 0, .int .u64 0, .slice none 0 0, .int .u64 0, .slice none 0 0, .bool false]] from hs7)
  clear hs7 HS6
  have y3 := sep_ceFrozen (i := 2) HS7.out rfl 3
  have y4 := sep_ceFrozen (i := 2) HS7.out rfl 4
  have y5 := sep_ceFrozen (i := 2) HS7.out rfl 5
  have k3 := sep_ceAt (i := 2) HS7.out rfl 3 rfl
  have k4 := sep_ceAt (i := 2) HS7.out rfl 4 rfl
  have k5 := sep_ceAt (i := 2) HS7.out rfl 5 rfl
  have k0 := sep_ceAt (i := 2) HS7.out rfl 0 rfl
  have HK : Hid (rdK b = (kk, s1)) := Lib.hid (by rw [← Hkk.out, ← Hs1.out]; rfl)
  have HP : Hid (rdP b = ((nn, pi), s2)) := Lib.hid (by unfold rdP; rw [HK.out, ← Hnn.out, ← Hpi.out, ← Hs2.out])
  have HI : Hid (rdI b = ((rr, sn, si), s3)) := Lib.hid (by unfold rdI; rw [HP.out, ← Hrr.out, ← Hsn.out, ← Hsi.out, ← Hs3.out])
  have hl3 : s3.1.length ≤ 1000000000 := by omega
  clear Hkk Hs1 Hnn Hpi Hs2 Hrr Hsn Hsi Hs3
  by_cases q7 : kk = 7
  · have e7 : (((kk : Nat) : Int) == 7) = true := by simp; omega
    have e8 : (((kk : Nat) : Int) == 8) = false := by simp; omega
    have e9 : (((kk : Nat) : Int) == 9) = false := by simp; omega
    have Q7 := Lib.hid q7
    clear q7
    go_wp2_with fail
    have hs8 := sep_ceSet (i := 2) HS7.out rfl 3 (.int .u64 (rr : Int))
    have hs8 := sep_ceSet (i := 2) hs8 rfl 4 (.int .i64 (sn : Int))
    have hs8 := sep_ceSet (i := 2) hs8 rfl 5 (.int .u64 (si : Int))
    obtain ⟨w8, HW8⟩ : ∃ W, Hid (((w7.setCell ⟨g3, 3, none⟩ (.int .u64 (rr : Int))).setCell ⟨g3, 4, none⟩ (.int .i64 (sn : Int))).setCell ⟨g3, 5, none⟩ (.int .u64 (si : Int)) = W) := ⟨_, Lib.hid rfl⟩
    rw [HW8.out] at hs8 ⊢
    have HS8 := Lib.hid (show Sep w w8 [Ce w.heap.size 30 #[.int .i64 0, .int .i64 0, .int .u64 0, .int .u64 0, .int .i64 0, .int .u64 0, .int .u64 0, .slice none 0 0, .int .u64 0, .slice none 0 0, .bool false], Rd g2 s3.1 s3.2, Ce g3 30 #[.int .i64 (kk : Int), .int .i64 (nn : Int), .int .u64 (pi : Int), .int .u64 (rr : Int), .int .i64 (sn : Int), .int .u64 (si : Int), .int .u64 0, .slice none 0 0, .int .u64 0, .slice none 0 0, .bool false]] from hs8)
    clear hs8 HS7 y3 y4 y5 k3 k4 k5 k0
    refine (sep_g8 (i := 1) (s := s3) HS8.out rfl hl3).mono ?_
    rintro e w11 ⟨rfl, hs11⟩
    have hn := g8_lt s3
    have hnl := g8_len s3
    obtain ⟨n, Hn⟩ : ∃ x, Hid ((g8 s3).1 = x) := ⟨_, Lib.hid rfl⟩
    obtain ⟨s4, Hs4⟩ : ∃ x, Hid ((g8 s3).2 = x) := ⟨_, Lib.hid rfl⟩
    have HN : Hid (rdN b = (n, s4)) := Lib.hid (by unfold rdN; rw [HK.out, HI.out, if_pos Q7.out, ← Hn.out, ← Hs4.out])
    rw [Hn.out] at hn ⊢
    rw [Hs4.out] at hnl hs11
    have HS11 := Lib.hid (show Sep w w11 [Ce w.heap.size 30 #[.int .i64 0, .int .i64 0, .int .u64 0, .int .u64 0, .int .i64 0, .int .u64 0, .int .u64 0, .slice none 0 0, .int .u64 0, .slice none 0 0, .bool false], Rd g2 s4.1 s4.2, Ce g3 30 #[.int .i64 (kk : Int), .int .i64 (nn : Int), .int .u64 (pi : Int), .int .u64 (rr : Int), .int .i64 (sn : Int), .int .u64 (si : Int), .int .u64 0, .slice none 0 0, .int .u64 0, .slice none 0 0, .bool false]] from hs11)
    clear hs11 HS8 Hn Hs4
    have k6 := sep_ceAt (i := 2) HS11.out rfl 6 rfl
    have y6 := sep_ceFrozen (i := 2) HS11.out rfl 6
    go_wp2_with fail
    have hs12 := sep_ceSet (i := 2) HS11.out rfl 6 (.int .u64 (n : Int))
    obtain ⟨w12, HW12⟩ : ∃ W, Hid (w11.setCell ⟨g3, 6, none⟩ (.int .u64 (n : Int)) = W) := ⟨_, Lib.hid rfl⟩
    rw [HW12.out] at hs12 ⊢
    have HS12 := Lib.hid (show Sep w w12 [Ce w.heap.size 30 #[.int .i64 0, .int .i64 0, .int .u64 0, .int .u64 0, .int .i64 0, .int .u64 0, .int .u64 0, .slice none 0 0, .int .u64 0, .slice none 0 0, .bool false], Rd g2 s4.1 s4.2, Ce g3 30 #[.int .i64 (kk : Int), .int .i64 (nn : Int), .int .u64 (pi : Int), .int .u64 (rr : Int), .int .i64 (sn : Int), .int .u64 (si : Int), .int .u64 (n : Int), .slice none 0 0, .int .u64 0, .slice none 0 0, .bool false]] from hs12)
    clear hs12 HS11 k6 y6
    refine (sep_gT (i := 1) (s := s4) HS12.out rfl (by omega)).mono ?_
    rintro e w13 ⟨rfl, hs13⟩
    have htl := gT_body_len s4
    obtain ⟨t, Ht⟩ : ∃ t, Hid ((gT s4).1 = t) := ⟨_, Lib.hid rfl⟩
    obtain ⟨s7, Hs7⟩ : ∃ t, Hid ((gT s4).2 = t) := ⟨_, Lib.hid rfl⟩
    have HB : Hid (rdB b = (t, s7)) := Lib.hid (by unfold rdB; rw [HK.out, HN.out, if_pos Q7.out, ← Ht.out, ← Hs7.out])
    rw [Ht.out] at htl ⊢
    rw [Hs7.out] at hs13
    have HC : Hid (rdC b = (0, s7)) := Lib.hid (by unfold rdC; rw [HK.out, HB.out, if_neg (show ¬ kk = 8 by have := Q7.out; omega)])
    have HX : Hid (rdX b = ([], s7)) := Lib.hid (by unfold rdX; rw [HK.out, HC.out, if_neg (show ¬ (kk = 8 ∨ kk = 9) by have := Q7.out; omega)])
    have HW : Hid (rdW b = (false, s7)) := Lib.hid (by unfold rdW; rw [HK.out, HX.out, if_neg (show ¬ kk = 9 by have := Q7.out; omega)])
    have HS13 := Lib.hid (show Sep w w13 [Ce w.heap.size 30 #[.int .i64 0, .int .i64 0, .int .u64 0, .int .u64 0, .int .i64 0, .int .u64 0, .int .u64 0, .slice none 0 0, .int .u64 0, .slice none 0 0, .bool false], Rd g2 s7.1 s7.2, Ce g3 30 #[.int .i64 (kk : Int), .int .i64 (nn : Int), .int .u64 (pi : Int), .int .u64 (rr : Int), .int .i64 (sn : Int), .int .u64 (si : Int), .int .u64 (n : Int), .slice none 0 0, .int .u64 0, .slice none 0 0, .bool false]] from hs13)
    clear hs13 HS12 Ht Hs7
    obtain ⟨w14, c7, hcv, hs14⟩ := sep_conv HS13.out t
    have HSc := Lib.hid (show Sep w w14 [Ce w.heap.size 30 #[.int .i64 0, .int .i64 0, .int .u64 0, .int .u64 0, .int .i64 0, .int .u64 0, .int .u64 0, .slice none 0 0, .int .u64 0, .slice none 0 0, .bool false], Rd g2 s7.1 s7.2, Ce g3 30 #[.int .i64 (kk : Int), .int .i64 (nn : Int), .int .u64 (pi : Int), .int .u64 (rr : Int), .int .i64 (sn : Int), .int .u64 (si : Int), .int .u64 (n : Int), .slice none 0 0, .int .u64 0, .slice none 0 0, .bool false], Cv (.slice (some ⟨w13.heap.size, 0, none⟩) t.length c7) t] from hs14)
    clear hs14 HS13
    have k0 := sep_ceAt (i := 2) HSc.out rfl 0 rfl
    have k7 := sep_ceAt (i := 2) HSc.out rfl 7 rfl
    have y7 := sep_ceFrozen (i := 2) HSc.out rfl 7
    go_wp2_with fail
    clear hcv k0 k7 y7
    obtain ⟨g6, HG6⟩ : ∃ g, Hid (w13.heap.size = g) := ⟨_, Lib.hid rfl⟩
    rw [HG6.out] at HSc ⊢
    have hsd := sep_ceSet (i := 2) HSc.out rfl 7 (.slice (some ⟨g6, 0, none⟩) t.length c7)
    obtain ⟨w15, HW15⟩ : ∃ W, Hid (w14.setCell ⟨g3, 7, none⟩ (.slice (some ⟨g6, 0, none⟩) t.length c7) = W) := ⟨_, Lib.hid rfl⟩
    rw [HW15.out] at hsd ⊢
    have HSd := Lib.hid (show Sep w w15 [Ce w.heap.size 30 #[.int .i64 0, .int .i64 0, .int .u64 0, .int .u64 0, .int .i64 0, .int .u64 0, .int .u64 0, .slice none 0 0, .int .u64 0, .slice none 0 0, .bool false], Rd g2 s7.1 s7.2, Ce g3 30 #[.int .i64 (kk : Int), .int .i64 (nn : Int), .int .u64 (pi : Int), .int .u64 (rr : Int), .int .i64 (sn : Int), .int .u64 (si : Int), .int .u64 (n : Int), .slice (some ⟨g6, 0, none⟩) t.length c7, .int .u64 0, .slice none 0 0, .bool false], Cv (.slice (some ⟨g6, 0, none⟩) t.length c7) t] from hsd)
    clear HSc hsd e7 e8 e9
    by_cases hen : rEnd s7.1 s7.2 = true
    · refine (sep_gEb (i := 1) (s := s7) (z := 3) HSd.out rfl hen rfl).mono ?_
      rintro e w9 ⟨rfl, hs9⟩
      have HS9 := Lib.hid (show Sep w w9 [Ce w.heap.size 30 #[.int .i64 0, .int .i64 0, .int .u64 0, .int .u64 0, .int .i64 0, .int .u64 0, .int .u64 0, .slice none 0 0, .int .u64 0, .slice none 0 0, .bool false], Rd g2 s7.1 true, Ce g3 30 #[.int .i64 (kk : Int), .int .i64 (nn : Int), .int .u64 (pi : Int), .int .u64 (rr : Int), .int .i64 (sn : Int), .int .u64 (si : Int), .int .u64 (n : Int), .slice (some ⟨g6, 0, none⟩) t.length c7, .int .u64 0, .slice none 0 0, .bool false], Cv (.slice (some ⟨g6, 0, none⟩) t.length c7) t] from hs9)
      clear hs9 HSd
      have k0 := sep_ceAt (i := 0) HS9.out rfl 0 rfl
      have k1 := sep_ceAt (i := 0) HS9.out rfl 1 rfl
      have k2 := sep_ceAt (i := 0) HS9.out rfl 2 rfl
      have k3 := sep_ceAt (i := 0) HS9.out rfl 3 rfl
      have k4 := sep_ceAt (i := 0) HS9.out rfl 4 rfl
      have k5 := sep_ceAt (i := 0) HS9.out rfl 5 rfl
      have k6 := sep_ceAt (i := 0) HS9.out rfl 6 rfl
      have k7 := sep_ceAt (i := 0) HS9.out rfl 7 rfl
      have k8 := sep_ceAt (i := 0) HS9.out rfl 8 rfl
      have k9 := sep_ceAt (i := 0) HS9.out rfl 9 rfl
      have k10 := sep_ceAt (i := 0) HS9.out rfl 10 rfl
      have y0 := sep_ceFrozen (i := 0) HS9.out rfl 0
      have y1 := sep_ceFrozen (i := 0) HS9.out rfl 1
      have y2 := sep_ceFrozen (i := 0) HS9.out rfl 2
      have y3 := sep_ceFrozen (i := 0) HS9.out rfl 3
      have y4 := sep_ceFrozen (i := 0) HS9.out rfl 4
      have y5 := sep_ceFrozen (i := 0) HS9.out rfl 5
      have y6 := sep_ceFrozen (i := 0) HS9.out rfl 6
      have y7 := sep_ceFrozen (i := 0) HS9.out rfl 7
      have y8 := sep_ceFrozen (i := 0) HS9.out rfl 8
      have y9 := sep_ceFrozen (i := 0) HS9.out rfl 9
      have y10 := sep_ceFrozen (i := 0) HS9.out rfl 10
      go_wp2_with fail
      obtain ⟨_, hs2⟩ := sep_put11 (i := 0) HS9.out rfl (.int .i64 0) (.int .i64 0) (.int .u64 0) (.int .u64 0) (.int .i64 0) (.int .u64 0) (.int .u64 0) (.slice none 0 0) (.int .u64 0) (.slice none 0 0) (.bool false)
      refine bodyPost_ret (v := .tuple #[.agg #[.int .i64 0, .int .i64 0, .int .u64 0, .int .u64 0, .int .i64 0, .int .u64 0, .int .u64 0, .slice none 0 0, .int .u64 0, .slice none 0 0, .bool false], .int .i64 3]) (by simp [results, Try.results18, go_sem, k0, k1, k2, k3, k4, k5, k6, k7, k8, k9, k10]) rfl ?_
      exact .inr ⟨fun x hx => (by have h := ((isLt_rd b x).1 hx).1; rw [HW.out] at h; rw [h] at hen; cases hen), rfl, hs2.bel⟩
    · have HEN : Hid (rEnd s7.1 s7.2 = false) := Lib.hid (by simpa using hen)
      clear hen
      refine (sep_gEb (i := 1) (s := s7) (z := 0) HSd.out rfl HEN.out rfl).mono ?_
      rintro e w9 ⟨rfl, hs9⟩
      have HS9 := Lib.hid (show Sep w w9 [Ce w.heap.size 30 #[.int .i64 0, .int .i64 0, .int .u64 0, .int .u64 0, .int .i64 0, .int .u64 0, .int .u64 0, .slice none 0 0, .int .u64 0, .slice none 0 0, .bool false], Rd g2 s7.1 false, Ce g3 30 #[.int .i64 (kk : Int), .int .i64 (nn : Int), .int .u64 (pi : Int), .int .u64 (rr : Int), .int .i64 (sn : Int), .int .u64 (si : Int), .int .u64 (n : Int), .slice (some ⟨g6, 0, none⟩) t.length c7, .int .u64 0, .slice none 0 0, .bool false], Cv (.slice (some ⟨g6, 0, none⟩) t.length c7) t] from hs9)
      clear hs9 HSd
      have z0 := sep_ceAt (i := 2) HS9.out rfl 0 rfl
      have z1 := sep_ceAt (i := 2) HS9.out rfl 1 rfl
      have z2 := sep_ceAt (i := 2) HS9.out rfl 2 rfl
      have z3 := sep_ceAt (i := 2) HS9.out rfl 3 rfl
      have z4 := sep_ceAt (i := 2) HS9.out rfl 4 rfl
      have z5 := sep_ceAt (i := 2) HS9.out rfl 5 rfl
      have z6 := sep_ceAt (i := 2) HS9.out rfl 6 rfl
      have z7 := sep_ceAt (i := 2) HS9.out rfl 7 rfl
      have z8 := sep_ceAt (i := 2) HS9.out rfl 8 rfl
      have z9 := sep_ceAt (i := 2) HS9.out rfl 9 rfl
      have z10 := sep_ceAt (i := 2) HS9.out rfl 10 rfl
      go_wp2_with fail
      clear z0 z1 z2 z3 z4 z5 z6 z7 z8 z9 z10
      by_cases hmy : (Lt.mk kk nn pi rr sn si n t 0 [] false).may = true
      · have HMY := Lib.hid hmy
        clear hmy
        refine (mayL (w := w9) (x := (Lt.mk kk nn pi rr sn si n t 0 [] false)) (A := (some ⟨g6, 0, none⟩)) (c := c7) (A2 := none) (c2 := 0) (B := w9.heap.size) HMY.out (by exact Has.nil) (Nat.le_refl _) (by simp <;> omega) (by simp) (by simp)).mono ?_
        rintro e w10 ⟨rfl, hb10⟩
        have HS10 := Lib.hid (HS9.out.grow hb10)
        clear HS9 hb10
        have z0 := sep_ceAt (i := 2) HS10.out rfl 0 rfl
        have z1 := sep_ceAt (i := 2) HS10.out rfl 1 rfl
        have z2 := sep_ceAt (i := 2) HS10.out rfl 2 rfl
        have z3 := sep_ceAt (i := 2) HS10.out rfl 3 rfl
        have z4 := sep_ceAt (i := 2) HS10.out rfl 4 rfl
        have z5 := sep_ceAt (i := 2) HS10.out rfl 5 rfl
        have z6 := sep_ceAt (i := 2) HS10.out rfl 6 rfl
        have z7 := sep_ceAt (i := 2) HS10.out rfl 7 rfl
        have z8 := sep_ceAt (i := 2) HS10.out rfl 8 rfl
        have z9 := sep_ceAt (i := 2) HS10.out rfl 9 rfl
        have z10 := sep_ceAt (i := 2) HS10.out rfl 10 rfl
        have k0 := sep_ceAt (i := 0) HS10.out rfl 0 rfl
        have k1 := sep_ceAt (i := 0) HS10.out rfl 1 rfl
        have k2 := sep_ceAt (i := 0) HS10.out rfl 2 rfl
        have k3 := sep_ceAt (i := 0) HS10.out rfl 3 rfl
        have k4 := sep_ceAt (i := 0) HS10.out rfl 4 rfl
        have k5 := sep_ceAt (i := 0) HS10.out rfl 5 rfl
        have k6 := sep_ceAt (i := 0) HS10.out rfl 6 rfl
        have k7 := sep_ceAt (i := 0) HS10.out rfl 7 rfl
        have k8 := sep_ceAt (i := 0) HS10.out rfl 8 rfl
        have k9 := sep_ceAt (i := 0) HS10.out rfl 9 rfl
        have k10 := sep_ceAt (i := 0) HS10.out rfl 10 rfl
        have y0 := sep_ceFrozen (i := 0) HS10.out rfl 0
        have y1 := sep_ceFrozen (i := 0) HS10.out rfl 1
        have y2 := sep_ceFrozen (i := 0) HS10.out rfl 2
        have y3 := sep_ceFrozen (i := 0) HS10.out rfl 3
        have y4 := sep_ceFrozen (i := 0) HS10.out rfl 4
        have y5 := sep_ceFrozen (i := 0) HS10.out rfl 5
        have y6 := sep_ceFrozen (i := 0) HS10.out rfl 6
        have y7 := sep_ceFrozen (i := 0) HS10.out rfl 7
        have y8 := sep_ceFrozen (i := 0) HS10.out rfl 8
        have y9 := sep_ceFrozen (i := 0) HS10.out rfl 9
        have y10 := sep_ceFrozen (i := 0) HS10.out rfl 10
        go_wp2_with fail
        obtain ⟨_, hs2⟩ := sep_put11 (i := 0) HS10.out rfl (.int .i64 (kk : Int)) (.int .i64 (nn : Int)) (.int .u64 (pi : Int)) (.int .u64 (rr : Int)) (.int .i64 (sn : Int)) (.int .u64 (si : Int)) (.int .u64 (n : Int)) (.slice (some ⟨g6, 0, none⟩) t.length c7) (.int .u64 0) (.slice none 0 0) (.bool false)
        refine bodyPost_ret (v := .tuple #[.agg #[.int .i64 (kk : Int), .int .i64 (nn : Int), .int .u64 (pi : Int), .int .u64 (rr : Int), .int .i64 (sn : Int), .int .u64 (si : Int), .int .u64 (n : Int), .slice (some ⟨g6, 0, none⟩) t.length c7, .int .u64 0, .slice none 0 0, .bool false], .int .i64 0]) (by simp [results, Try.results18, go_sem, k0, k1, k2, k3, k4, k5, k6, k7, k8, k9, k10]) rfl ?_
        have hF : rdLt b = (Lt.mk kk nn pi rr sn si n t 0 [] false) := by
          unfold rdLt
          rw [HK.out, HP.out, HI.out, HN.out, HB.out, HC.out, HX.out, HW.out]
        exact .inl ⟨(Lt.mk kk nn pi rr sn si n t 0 [] false), (some ⟨g6, 0, none⟩), c7, none, 0, (isLt_rd b _).2 ⟨by rw [HW.out]; exact HEN.out, by rw [hF]; exact HMY.out, hF.symm⟩, rfl, sep_bodyAt (i := 3) hs2 rfl, OwnU.nil _ _, hs2.bel⟩
      · have HMN : Hid ((Lt.mk kk nn pi rr sn si n t 0 [] false).may = false) := Lib.hid (by simpa using hmy)
        clear hmy
        refine (mayL (w := w9) (x := (Lt.mk kk nn pi rr sn si n t 0 [] false)) (A := (some ⟨g6, 0, none⟩)) (c := c7) (A2 := none) (c2 := 0) (B := w9.heap.size) HMN.out (by exact Has.nil) (Nat.le_refl _) (by simp <;> omega) (by simp) (by simp)).mono ?_
        rintro e w10 ⟨rfl, hb10⟩
        have HS10 := Lib.hid (HS9.out.grow hb10)
        clear HS9 hb10
        have k0 := sep_ceAt (i := 0) HS10.out rfl 0 rfl
        have k1 := sep_ceAt (i := 0) HS10.out rfl 1 rfl
        have k2 := sep_ceAt (i := 0) HS10.out rfl 2 rfl
        have k3 := sep_ceAt (i := 0) HS10.out rfl 3 rfl
        have k4 := sep_ceAt (i := 0) HS10.out rfl 4 rfl
        have k5 := sep_ceAt (i := 0) HS10.out rfl 5 rfl
        have k6 := sep_ceAt (i := 0) HS10.out rfl 6 rfl
        have k7 := sep_ceAt (i := 0) HS10.out rfl 7 rfl
        have k8 := sep_ceAt (i := 0) HS10.out rfl 8 rfl
        have k9 := sep_ceAt (i := 0) HS10.out rfl 9 rfl
        have k10 := sep_ceAt (i := 0) HS10.out rfl 10 rfl
        have y0 := sep_ceFrozen (i := 0) HS10.out rfl 0
        have y1 := sep_ceFrozen (i := 0) HS10.out rfl 1
        have y2 := sep_ceFrozen (i := 0) HS10.out rfl 2
        have y3 := sep_ceFrozen (i := 0) HS10.out rfl 3
        have y4 := sep_ceFrozen (i := 0) HS10.out rfl 4
        have y5 := sep_ceFrozen (i := 0) HS10.out rfl 5
        have y6 := sep_ceFrozen (i := 0) HS10.out rfl 6
        have y7 := sep_ceFrozen (i := 0) HS10.out rfl 7
        have y8 := sep_ceFrozen (i := 0) HS10.out rfl 8
        have y9 := sep_ceFrozen (i := 0) HS10.out rfl 9
        have y10 := sep_ceFrozen (i := 0) HS10.out rfl 10
        go_wp2_with fail
        obtain ⟨_, hs2⟩ := sep_put11 (i := 0) HS10.out rfl (.int .i64 0) (.int .i64 0) (.int .u64 0) (.int .u64 0) (.int .i64 0) (.int .u64 0) (.int .u64 0) (.slice none 0 0) (.int .u64 0) (.slice none 0 0) (.bool false)
        refine bodyPost_ret (v := .tuple #[.agg #[.int .i64 0, .int .i64 0, .int .u64 0, .int .u64 0, .int .i64 0, .int .u64 0, .int .u64 0, .slice none 0 0, .int .u64 0, .slice none 0 0, .bool false], .int .i64 3]) (by simp [results, Try.results18, go_sem, k0, k1, k2, k3, k4, k5, k6, k7, k8, k9, k10]) rfl ?_
        exact .inr ⟨fun x hx => (by
          have h := ((isLt_rd b x).1 hx).2.1
          have hF : rdLt b = (Lt.mk kk nn pi rr sn si n t 0 [] false) := by
            unfold rdLt
            rw [HK.out, HP.out, HI.out, HN.out, HB.out, HC.out, HX.out, HW.out]
          rw [hF, HMN.out] at h
          cases h), rfl, hs2.bel⟩
  · by_cases q8 : kk = 8
    · have e7 : (((kk : Nat) : Int) == 7) = false := by simp; omega
      have e8 : (((kk : Nat) : Int) == 8) = true := by simp; omega
      have e9 : (((kk : Nat) : Int) == 9) = false := by simp; omega
      have Q7 := Lib.hid q7
      have Q8 := Lib.hid q8
      clear q7 q8
      go_wp2_with fail
      have hs8 := sep_ceSet (i := 2) HS7.out rfl 3 (.int .u64 (rr : Int))
      have hs8 := sep_ceSet (i := 2) hs8 rfl 4 (.int .i64 (sn : Int))
      have hs8 := sep_ceSet (i := 2) hs8 rfl 5 (.int .u64 (si : Int))
      obtain ⟨w8, HW8⟩ : ∃ W, Hid (((w7.setCell ⟨g3, 3, none⟩ (.int .u64 (rr : Int))).setCell ⟨g3, 4, none⟩ (.int .i64 (sn : Int))).setCell ⟨g3, 5, none⟩ (.int .u64 (si : Int)) = W) := ⟨_, Lib.hid rfl⟩
      rw [HW8.out] at hs8 ⊢
      have HS8 := Lib.hid (show Sep w w8 [Ce w.heap.size 30 #[.int .i64 0, .int .i64 0, .int .u64 0, .int .u64 0, .int .i64 0, .int .u64 0, .int .u64 0, .slice none 0 0, .int .u64 0, .slice none 0 0, .bool false], Rd g2 s3.1 s3.2, Ce g3 30 #[.int .i64 (kk : Int), .int .i64 (nn : Int), .int .u64 (pi : Int), .int .u64 (rr : Int), .int .i64 (sn : Int), .int .u64 (si : Int), .int .u64 0, .slice none 0 0, .int .u64 0, .slice none 0 0, .bool false]] from hs8)
      clear hs8 HS7 y3 y4 y5 k3 k4 k5 k0
      refine (sep_gU (i := 1) (s := s3) HS8.out rfl hl3).mono ?_
      rintro e w11 ⟨rfl, hs11⟩
      have hn := gU_lt s3
      have hnl := gU_len s3
      obtain ⟨n, Hn⟩ : ∃ x, Hid ((gU s3).1 = x) := ⟨_, Lib.hid rfl⟩
      obtain ⟨s4, Hs4⟩ : ∃ x, Hid ((gU s3).2 = x) := ⟨_, Lib.hid rfl⟩
      have HN : Hid (rdN b = (0, s3)) := Lib.hid (by unfold rdN; rw [HK.out, HI.out, if_neg Q7.out])
      have HB : Hid (rdB b = ([], s3)) := Lib.hid (by unfold rdB; rw [HK.out, HN.out, if_neg Q7.out])
      have HC : Hid (rdC b = (n, s4)) := Lib.hid (by unfold rdC; rw [HK.out, HB.out, if_pos Q8.out, ← Hn.out, ← Hs4.out])
      rw [Hn.out] at hn ⊢
      rw [Hs4.out] at hnl hs11
      have HS11 := Lib.hid (show Sep w w11 [Ce w.heap.size 30 #[.int .i64 0, .int .i64 0, .int .u64 0, .int .u64 0, .int .i64 0, .int .u64 0, .int .u64 0, .slice none 0 0, .int .u64 0, .slice none 0 0, .bool false], Rd g2 s4.1 s4.2, Ce g3 30 #[.int .i64 (kk : Int), .int .i64 (nn : Int), .int .u64 (pi : Int), .int .u64 (rr : Int), .int .i64 (sn : Int), .int .u64 (si : Int), .int .u64 0, .slice none 0 0, .int .u64 0, .slice none 0 0, .bool false]] from hs11)
      clear hs11 HS8 Hn Hs4
      have k8 := sep_ceAt (i := 2) HS11.out rfl 8 rfl
      have y8 := sep_ceFrozen (i := 2) HS11.out rfl 8
      go_wp2_with fail
      have hs12 := sep_ceSet (i := 2) HS11.out rfl 8 (.int .u64 (n : Int))
      obtain ⟨w12, HW12⟩ : ∃ W, Hid (w11.setCell ⟨g3, 8, none⟩ (.int .u64 (n : Int)) = W) := ⟨_, Lib.hid rfl⟩
      rw [HW12.out] at hs12 ⊢
      have HS12 := Lib.hid (show Sep w w12 [Ce w.heap.size 30 #[.int .i64 0, .int .i64 0, .int .u64 0, .int .u64 0, .int .i64 0, .int .u64 0, .int .u64 0, .slice none 0 0, .int .u64 0, .slice none 0 0, .bool false], Rd g2 s4.1 s4.2, Ce g3 30 #[.int .i64 (kk : Int), .int .i64 (nn : Int), .int .u64 (pi : Int), .int .u64 (rr : Int), .int .i64 (sn : Int), .int .u64 (si : Int), .int .u64 0, .slice none 0 0, .int .u64 (n : Int), .slice none 0 0, .bool false]] from hs12)
      clear hs12 HS11 k8 y8
      refine (sep_g8 (i := 1) (s := s4) HS12.out rfl (by omega)).mono ?_
      rintro e w20 ⟨rfl, hs20⟩
      have hcnt := g8_lt s4
      have hcl := g8_len s4
      obtain ⟨cnt, Hcnt⟩ : ∃ x, Hid ((g8 s4).1 = x) := ⟨_, Lib.hid rfl⟩
      obtain ⟨sC, HsC⟩ : ∃ x, Hid ((g8 s4).2 = x) := ⟨_, Lib.hid rfl⟩
      have HgC : Hid (gC s4 = gL cnt sC) := Lib.hid (by unfold gC; rw [Hcnt.out, HsC.out])
      rw [Hcnt.out] at hcnt ⊢
      rw [HsC.out] at hcl hs20
      have hcl2 : sC.1.length ≤ 1000000000 := by omega
      have HS20 := Lib.hid (show Sep w w20 [Ce w.heap.size 30 #[.int .i64 0, .int .i64 0, .int .u64 0, .int .u64 0, .int .i64 0, .int .u64 0, .int .u64 0, .slice none 0 0, .int .u64 0, .slice none 0 0, .bool false], Rd g2 sC.1 sC.2, Ce g3 30 #[.int .i64 (kk : Int), .int .i64 (nn : Int), .int .u64 (pi : Int), .int .u64 (rr : Int), .int .i64 (sn : Int), .int .u64 (si : Int), .int .u64 0, .slice none 0 0, .int .u64 (n : Int), .slice none 0 0, .bool false], Uv (.slice none 0 0) []] from sep_uvNil hs20)
      clear hs20 HS12
      go_wp2_with fail
      go_loopw [40] (fun iv wr => ∃ (k : Nat) (SA : Option Addr) (sc : Nat), k ≤ cnt ∧ iv = .int .u8 (k : Int) ∧ Hid (Sep w wr [Ce w.heap.size 30 #[.int .i64 0, .int .i64 0, .int .u64 0, .int .u64 0, .int .i64 0, .int .u64 0, .int .u64 0, .slice none 0 0, .int .u64 0, .slice none 0 0, .bool false], Rd g2 (gL k sC).2.1 (gL k sC).2.2, Ce g3 30 #[.int .i64 (kk : Int), .int .i64 (nn : Int), .int .u64 (pi : Int), .int .u64 (rr : Int), .int .i64 (sn : Int), .int .u64 (si : Int), .int .u64 0, .slice none 0 0, .int .u64 (n : Int), .slice SA k sc, .bool false], Uv (.slice SA k sc) (gL k sC).1])) (fun iv _ => cnt - (intOf iv).toNat)
      case atStart => exact ⟨0, none, 0, by omega, rfl, HS20⟩
      case round =>
        obtain ⟨k, SA, sc, hk, rfl, HSL⟩ := hrel
        by_cases hkt : k < cnt
        · have hsl := gL_len k sC
          have hll := gL_length k sC
          have HSN := Lib.hid (gL_snoc k sC)
          obtain ⟨s, Hs⟩ : ∃ x, Hid ((gL k sC).2 = x) := ⟨_, Lib.hid rfl⟩
          obtain ⟨l, Hl⟩ : ∃ x, Hid ((gL k sC).1 = x) := ⟨_, Lib.hid rfl⟩
          rw [Hs.out] at hsl HSL HSN
          rw [Hl.out] at hll HSL HSN
          have HLL := Lib.hid hll
          have hxl := g8_lt s
          obtain ⟨x, Hx⟩ : ∃ y, Hid ((g8 s).1 = y) := ⟨_, Lib.hid rfl⟩
          obtain ⟨s', Hs'⟩ : ∃ y, Hid ((g8 s).2 = y) := ⟨_, Lib.hid rfl⟩
          rw [Hx.out] at hxl HSN
          rw [Hs'.out] at HSN
          have m1 : ((k : Int) + 1) % 256 = (k : Int) + 1 := by omega
          clear hll
          go_wp2_with fail
          have hcell : ∀ (dn : Nat → Bool) (xv : Nat → Value) (W : World), (if dn 8 = true then ∃ (SB : Option Addr) (sd : Nat), Sep w W [Ce w.heap.size 30 #[.int .i64 0, .int .i64 0, .int .u64 0, .int .u64 0, .int .i64 0, .int .u64 0, .int .u64 0, .slice none 0 0, .int .u64 0, .slice none 0 0, .bool false], Rd g2 s'.1 s'.2, Ce g3 30 #[.int .i64 (kk : Int), .int .i64 (nn : Int), .int .u64 (pi : Int), .int .u64 (rr : Int), .int .i64 (sn : Int), .int .u64 (si : Int), .int .u64 0, .slice none 0 0, .int .u64 (n : Int), .slice SB (k + 1) sd, .bool false], Uv (.slice SB (k + 1) sd) (l ++ [x])] else if dn 6 = true then Sep w W [Ce w.heap.size 30 #[.int .i64 0, .int .i64 0, .int .u64 0, .int .u64 0, .int .i64 0, .int .u64 0, .int .u64 0, .slice none 0 0, .int .u64 0, .slice none 0 0, .bool false], Rd g2 s'.1 s'.2, Ce g3 30 #[.int .i64 (kk : Int), .int .i64 (nn : Int), .int .u64 (pi : Int), .int .u64 (rr : Int), .int .i64 (sn : Int), .int .u64 (si : Int), .int .u64 0, .slice none 0 0, .int .u64 (n : Int), .slice SA k sc, .bool false], Uv (xv 6) (l ++ [x])] else if dn 5 = true then Sep w W [Ce w.heap.size 30 #[.int .i64 0, .int .i64 0, .int .u64 0, .int .u64 0, .int .i64 0, .int .u64 0, .int .u64 0, .slice none 0 0, .int .u64 0, .slice none 0 0, .bool false], Rd g2 s'.1 s'.2, Ce g3 30 #[.int .i64 (kk : Int), .int .i64 (nn : Int), .int .u64 (pi : Int), .int .u64 (rr : Int), .int .i64 (sn : Int), .int .u64 (si : Int), .int .u64 0, .slice none 0 0, .int .u64 (n : Int), .slice SA k sc, .bool false], Uv (.slice SA k sc) l] ∧ OneU x (xv 5) W else if dn 3 = true then Sep w W [Ce w.heap.size 30 #[.int .i64 0, .int .i64 0, .int .u64 0, .int .u64 0, .int .i64 0, .int .u64 0, .int .u64 0, .slice none 0 0, .int .u64 0, .slice none 0 0, .bool false], Rd g2 s'.1 s'.2, Ce g3 30 #[.int .i64 (kk : Int), .int .i64 (nn : Int), .int .u64 (pi : Int), .int .u64 (rr : Int), .int .i64 (sn : Int), .int .u64 (si : Int), .int .u64 0, .slice none 0 0, .int .u64 (n : Int), .slice SA k sc, .bool false], Uv (.slice SA k sc) l] else Sep w W [Ce w.heap.size 30 #[.int .i64 0, .int .i64 0, .int .u64 0, .int .u64 0, .int .i64 0, .int .u64 0, .int .u64 0, .slice none 0 0, .int .u64 0, .slice none 0 0, .bool false], Rd g2 s.1 s.2, Ce g3 30 #[.int .i64 (kk : Int), .int .i64 (nn : Int), .int .u64 (pi : Int), .int .u64 (rr : Int), .int .i64 (sn : Int), .int .u64 (si : Int), .int .u64 0, .slice none 0 0, .int .u64 (n : Int), .slice SA k sc, .bool false], Uv (.slice SA k sc) l]) → dn 8 = false → W.cell? ⟨g3, 9, none⟩ = some (.slice SA k sc) := fun dn xv W h h0 => by
            rw [if_neg (by simp [h0])] at h
            split at h
            · exact sep_ceAt (i := 2) h rfl 9 rfl
            split at h
            · exact sep_ceAt (i := 2) h.1 rfl 9 rfl
            split at h
            · exact sep_ceAt (i := 2) h rfl 9 rfl
            exact sep_ceAt (i := 2) h rfl 9 rfl
          refine wp_region_f (fun dn xv W => if dn 8 = true then ∃ (SB : Option Addr) (sd : Nat), Sep w W [Ce w.heap.size 30 #[.int .i64 0, .int .i64 0, .int .u64 0, .int .u64 0, .int .i64 0, .int .u64 0, .int .u64 0, .slice none 0 0, .int .u64 0, .slice none 0 0, .bool false], Rd g2 s'.1 s'.2, Ce g3 30 #[.int .i64 (kk : Int), .int .i64 (nn : Int), .int .u64 (pi : Int), .int .u64 (rr : Int), .int .i64 (sn : Int), .int .u64 (si : Int), .int .u64 0, .slice none 0 0, .int .u64 (n : Int), .slice SB (k + 1) sd, .bool false], Uv (.slice SB (k + 1) sd) (l ++ [x])] else if dn 6 = true then Sep w W [Ce w.heap.size 30 #[.int .i64 0, .int .i64 0, .int .u64 0, .int .u64 0, .int .i64 0, .int .u64 0, .int .u64 0, .slice none 0 0, .int .u64 0, .slice none 0 0, .bool false], Rd g2 s'.1 s'.2, Ce g3 30 #[.int .i64 (kk : Int), .int .i64 (nn : Int), .int .u64 (pi : Int), .int .u64 (rr : Int), .int .i64 (sn : Int), .int .u64 (si : Int), .int .u64 0, .slice none 0 0, .int .u64 (n : Int), .slice SA k sc, .bool false], Uv (xv 6) (l ++ [x])] else if dn 5 = true then Sep w W [Ce w.heap.size 30 #[.int .i64 0, .int .i64 0, .int .u64 0, .int .u64 0, .int .i64 0, .int .u64 0, .int .u64 0, .slice none 0 0, .int .u64 0, .slice none 0 0, .bool false], Rd g2 s'.1 s'.2, Ce g3 30 #[.int .i64 (kk : Int), .int .i64 (nn : Int), .int .u64 (pi : Int), .int .u64 (rr : Int), .int .i64 (sn : Int), .int .u64 (si : Int), .int .u64 0, .slice none 0 0, .int .u64 (n : Int), .slice SA k sc, .bool false], Uv (.slice SA k sc) l] ∧ OneU x (xv 5) W else if dn 3 = true then Sep w W [Ce w.heap.size 30 #[.int .i64 0, .int .i64 0, .int .u64 0, .int .u64 0, .int .i64 0, .int .u64 0, .int .u64 0, .slice none 0 0, .int .u64 0, .slice none 0 0, .bool false], Rd g2 s'.1 s'.2, Ce g3 30 #[.int .i64 (kk : Int), .int .i64 (nn : Int), .int .u64 (pi : Int), .int .u64 (rr : Int), .int .i64 (sn : Int), .int .u64 (si : Int), .int .u64 0, .slice none 0 0, .int .u64 (n : Int), .slice SA k sc, .bool false], Uv (.slice SA k sc) l] else Sep w W [Ce w.heap.size 30 #[.int .i64 0, .int .i64 0, .int .u64 0, .int .u64 0, .int .i64 0, .int .u64 0, .int .u64 0, .slice none 0 0, .int .u64 0, .slice none 0 0, .bool false], Rd g2 s.1 s.2, Ce g3 30 #[.int .i64 (kk : Int), .int .i64 (nn : Int), .int .u64 (pi : Int), .int .u64 (rr : Int), .int .i64 (sn : Int), .int .u64 (si : Int), .int .u64 0, .slice none 0 0, .int .u64 (n : Int), .slice SA k sc, .bool false], Uv (.slice SA k sc) l]) (fun _ _ => True) [fun v _ => v = .pointer (some ⟨g3, 9, none⟩), fun v _ => v = .slice SA k sc, fun v _ => v = .pointer (some ⟨g2, 0, none⟩), fun v _ => v = .int .u8 (x : Int), fun v _ => v = .int .u64 (x : Int), fun v _ => True, fun v _ => True, fun v _ => v = .pointer (some ⟨g3, 9, none⟩), fun v _ => True] (by kernel_rfl) (by kernel_rfl) (by kernel_rfl) (by kernel_rfl) (fun xv => by simpa using HSL.out.drew)
            (by exact ⟨fun _ _ _ _ h => h, fun _ _ _ _ h => h, fun _ _ _ _ h => h, fun _ _ _ _ h => h, fun _ _ _ _ h => h, fun _ _ _ _ h => h, fun _ _ _ _ h => h, fun _ _ _ _ h => h, fun _ _ _ _ h => h, trivial⟩) ?_ ?_
          · refine EachF.cons 1 rfl (fun dn xv W F hF hd hN hX hI H K hK => ?_) ?_
            · have f5 : F.tmps.getD 5 undef = .pointer (some ⟨g3, 0, none⟩) := (hF 5).trans (by kernel_rfl)
              clear H hN hd hX hF
              refine on_plain rfl ?_
              go_simp
              exact hK.out _ _ rfl trivial (by simpa [upB, upd] using hI)
            refine EachF.cons 2 rfl (fun dn xv W F hF hd hN hX hI H K hK => ?_) ?_
            · have h0 : xv 0 = .pointer (some ⟨g3, 9, none⟩) := (H 0 (.edge (by kernel_rfl))).2
              have f42 : F.tmps.getD 42 undef = .pointer (some ⟨g3, 9, none⟩) := (hF 42).trans (Eq.trans (by kernel_rfl) h0)
              have hc0 := hcell dn xv W hI (hN 8 (.more (j := 6) (by kernel_rfl) (.edge (by kernel_rfl))))
              clear H hN hd hX hF
              refine on_plain rfl ?_
              go_simp
              exact hK.out _ _ rfl trivial (by simpa [upB, upd] using hI)
            refine EachF.cons 3 rfl (fun dn xv W F hF hd hN hX hI H K hK => ?_) ?_
            · have f4 : F.tmps.getD 4 undef = .pointer (some ⟨g2, 0, none⟩) := (hF 4).trans (by kernel_rfl)
              clear H hN hd hX hF
              refine on_plain rfl ?_
              go_simp
              exact hK.out _ _ rfl trivial (by simpa [upB, upd] using hI)
            refine EachF.cons 4 rfl (fun dn xv W F hF hd hN hX hI H K hK => ?_) ?_
            · have h2 : xv 2 = .pointer (some ⟨g2, 0, none⟩) := (H 2 (.edge (by kernel_rfl))).2
              have f44 : F.tmps.getD 44 undef = .pointer (some ⟨g2, 0, none⟩) := (hF 44).trans (Eq.trans (by kernel_rfl) h2)
              have q5 : dn 5 = false := hN 5 (.more (j := 4) (by kernel_rfl) (.edge (by kernel_rfl)))
              have q6 : dn 6 = false := hN 6 (.more (j := 5) (by kernel_rfl) (.more (j := 4) (by kernel_rfl) (.edge (by kernel_rfl))))
              have q8 : dn 8 = false := hN 8 (.more (j := 6) (by kernel_rfl) (.more (j := 5) (by kernel_rfl) (.more (j := 4) (by kernel_rfl) (.edge (by kernel_rfl)))))
              have hS : Sep w W [Ce w.heap.size 30 #[.int .i64 0, .int .i64 0, .int .u64 0, .int .u64 0, .int .i64 0, .int .u64 0, .int .u64 0, .slice none 0 0, .int .u64 0, .slice none 0 0, .bool false], Rd g2 s.1 s.2, Ce g3 30 #[.int .i64 (kk : Int), .int .i64 (nn : Int), .int .u64 (pi : Int), .int .u64 (rr : Int), .int .i64 (sn : Int), .int .u64 (si : Int), .int .u64 0, .slice none 0 0, .int .u64 (n : Int), .slice SA k sc, .bool false], Uv (.slice SA k sc) l] := by simpa [hd, q5, q6, q8] using hI
              clear hI hN hd hX hF H
              refine on_plain rfl ?_
              go_simp
              refine (sep_g8 (i := 1) (s := s) hS rfl (by omega)).mono ?_
              rintro e W' ⟨rfl, hs0⟩
              rw [Hs'.out] at hs0
              rw [Hx.out]
              have hs : Sep w W' [Ce w.heap.size 30 #[.int .i64 0, .int .i64 0, .int .u64 0, .int .u64 0, .int .i64 0, .int .u64 0, .int .u64 0, .slice none 0 0, .int .u64 0, .slice none 0 0, .bool false], Rd g2 s'.1 s'.2, Ce g3 30 #[.int .i64 (kk : Int), .int .i64 (nn : Int), .int .u64 (pi : Int), .int .u64 (rr : Int), .int .i64 (sn : Int), .int .u64 (si : Int), .int .u64 0, .slice none 0 0, .int .u64 (n : Int), .slice SA k sc, .bool false], Uv (.slice SA k sc) l] := hs0
              exact hK.out _ W' rfl trivial (by simpa [upB, upd, q5, q6, q8] using hs)
            refine EachF.cons 5 rfl (fun dn xv W F hF hd hN hX hI H K hK => ?_) ?_
            · have h3 : xv 3 = .int .u8 (x : Int) := (H 3 (.edge (by kernel_rfl))).2
              have f45 : F.tmps.getD 45 undef = .int .u8 (x : Int) := (hF 45).trans (Eq.trans (by kernel_rfl) h3)
              clear H hN hd hX hF
              refine on_plain rfl ?_
              go_simp
              rw [show IntKind.u64.wrap (x : Int) = (x : Int) by rw [IntKind.wrap_u64]; omega]
              exact hK.out _ _ rfl trivial (by simpa [upB, upd] using hI)
            refine EachF.cons 6 rfl (fun dn xv W F hF hd hN hX hI H K hK => ?_) ?_
            · have h4 : xv 4 = .int .u64 (x : Int) := (H 4 (.edge (by kernel_rfl))).2
              have f46 : F.tmps.getD 46 undef = .int .u64 (x : Int) := (hF 46).trans (Eq.trans (by kernel_rfl) h4)
              have q3 : dn 3 = true := (H 3 (.more (j := 4) (by kernel_rfl) (.edge (by kernel_rfl)))).1
              have q6 : dn 6 = false := hN 6 (.edge (by kernel_rfl))
              have q8 : dn 8 = false := hN 8 (.more (j := 6) (by kernel_rfl) (.edge (by kernel_rfl)))
              have hS : Sep w W [Ce w.heap.size 30 #[.int .i64 0, .int .i64 0, .int .u64 0, .int .u64 0, .int .i64 0, .int .u64 0, .int .u64 0, .slice none 0 0, .int .u64 0, .slice none 0 0, .bool false], Rd g2 s'.1 s'.2, Ce g3 30 #[.int .i64 (kk : Int), .int .i64 (nn : Int), .int .u64 (pi : Int), .int .u64 (rr : Int), .int .i64 (sn : Int), .int .u64 (si : Int), .int .u64 0, .slice none 0 0, .int .u64 (n : Int), .slice SA k sc, .bool false], Uv (.slice SA k sc) l] := by simpa [hd, q6, q8, q3] using hI
              clear hI hN hd hX hF H
              refine on_plain rfl ?_
              have g46 := f46
              rw [Array.getD_eq_getD_getElem?] at g46
              go_simp
              have hb : Below W.heap.size W (W.alloc (.cells #[.int .u64 (x : Int)] 22)) := (Below.refl _ _).alloc (Nat.le_refl _) _
              have hs : Sep w (W.alloc (.cells #[.int .u64 (x : Int)] 22)) [Ce w.heap.size 30 #[.int .i64 0, .int .i64 0, .int .u64 0, .int .u64 0, .int .i64 0, .int .u64 0, .int .u64 0, .slice none 0 0, .int .u64 0, .slice none 0 0, .bool false], Rd g2 s'.1 s'.2, Ce g3 30 #[.int .i64 (kk : Int), .int .i64 (nn : Int), .int .u64 (pi : Int), .int .u64 (rr : Int), .int .i64 (sn : Int), .int .u64 (si : Int), .int .u64 0, .slice none 0 0, .int .u64 (n : Int), .slice SA k sc, .bool false], Uv (.slice SA k sc) l] ∧ OneU x (.slice (some ⟨W.heap.size, 0, none⟩) 1 1) (W.alloc (.cells #[.int .u64 (x : Int)] 22)) := ⟨hS.grow hb, OneU.new W x _⟩
              exact hK.out _ _ trivial trivial (by simpa [upB, upd, q6, q8] using hs)
            refine EachF.cons 7 rfl (fun dn xv W F hF hd hN hX hI H K hK => ?_) ?_
            · have h1 : xv 1 = .slice SA k sc := (H 1 (.edge (by kernel_rfl))).2
              have f43 : F.tmps.getD 43 undef = .slice SA k sc := (hF 43).trans (Eq.trans (by kernel_rfl) h1)
              have h5 := (H 5 (.edge (by kernel_rfl))).2
              simp only [Dl] at h5
              have f47 : F.tmps.getD 47 undef = xv 5 := (hF 47).trans (by kernel_rfl)
              have q5 : dn 5 = true := (H 5 (.edge (by kernel_rfl))).1
              have q8 : dn 8 = false := hN 8 (.edge (by kernel_rfl))
              have hS : Sep w W [Ce w.heap.size 30 #[.int .i64 0, .int .i64 0, .int .u64 0, .int .u64 0, .int .i64 0, .int .u64 0, .int .u64 0, .slice none 0 0, .int .u64 0, .slice none 0 0, .bool false], Rd g2 s'.1 s'.2, Ce g3 30 #[.int .i64 (kk : Int), .int .i64 (nn : Int), .int .u64 (pi : Int), .int .u64 (rr : Int), .int .i64 (sn : Int), .int .u64 (si : Int), .int .u64 0, .slice none 0 0, .int .u64 (n : Int), .slice SA k sc, .bool false], Uv (.slice SA k sc) l] ∧ OneU x (xv 5) W := by simpa [hd, q8, q5] using hI
              clear hI hN hd hX hF H
              refine on_plain rfl ?_
              obtain ⟨s1, A3, c3, e3, hh3⟩ := hS
              have f47x := f47.trans e3
              refine sep_opAppU (i := 3) (l := l) (m := [x]) (s := .tmp 43) (x := .tmp 47) (by rfl) f43 f47x s1 (by rw [← HLL.out]; rfl) hh3 (by rw [HLL.out]; simp; omega) ?_
              intro v W' hs0
              have hs : Sep w W' [Ce w.heap.size 30 #[.int .i64 0, .int .i64 0, .int .u64 0, .int .u64 0, .int .i64 0, .int .u64 0, .int .u64 0, .slice none 0 0, .int .u64 0, .slice none 0 0, .bool false], Rd g2 s'.1 s'.2, Ce g3 30 #[.int .i64 (kk : Int), .int .i64 (nn : Int), .int .u64 (pi : Int), .int .u64 (rr : Int), .int .i64 (sn : Int), .int .u64 (si : Int), .int .u64 0, .slice none 0 0, .int .u64 (n : Int), .slice SA k sc, .bool false], Uv v (l ++ [x])] := hs0
              exact hK.out v W' trivial trivial (by simpa [upB, upd, q8] using hs)
            refine EachF.cons 8 rfl (fun dn xv W F hF hd hN hX hI H K hK => ?_) ?_
            · have f5 : F.tmps.getD 5 undef = .pointer (some ⟨g3, 0, none⟩) := (hF 5).trans (by kernel_rfl)
              clear H hN hd hX hF
              refine on_plain rfl ?_
              go_simp
              exact hK.out _ _ rfl trivial (by simpa [upB, upd] using hI)
            refine EachF.cons 9 rfl (fun dn xv W F hF hd hN hX hI H K hK => ?_) ?_
            · have h6 := (H 6 (.edge (by kernel_rfl))).2
              simp only [Dl] at h6
              have f48 : F.tmps.getD 48 undef = xv 6 := (hF 48).trans (by kernel_rfl)
              have h7 : xv 7 = .pointer (some ⟨g3, 9, none⟩) := (H 7 (.edge (by kernel_rfl))).2
              have f49 : F.tmps.getD 49 undef = .pointer (some ⟨g3, 9, none⟩) := (hF 49).trans (Eq.trans (by kernel_rfl) h7)
              have q6 : dn 6 = true := (H 6 (.edge (by kernel_rfl))).1
              have hS : Sep w W [Ce w.heap.size 30 #[.int .i64 0, .int .i64 0, .int .u64 0, .int .u64 0, .int .i64 0, .int .u64 0, .int .u64 0, .slice none 0 0, .int .u64 0, .slice none 0 0, .bool false], Rd g2 s'.1 s'.2, Ce g3 30 #[.int .i64 (kk : Int), .int .i64 (nn : Int), .int .u64 (pi : Int), .int .u64 (rr : Int), .int .i64 (sn : Int), .int .u64 (si : Int), .int .u64 0, .slice none 0 0, .int .u64 (n : Int), .slice SA k sc, .bool false], Uv (xv 6) (l ++ [x])] := by simpa [hd, q6] using hI
              clear hI hN hd hX hF H
              refine on_plain rfl ?_
              obtain ⟨A2, c2, e2, _⟩ := sep_uvForm (i := 3) hS rfl
              have e2x : xv 6 = .slice A2 (k + 1) c2 := e2.trans (by rw [List.length_append, HLL.out]; rfl)
              have f48x := f48.trans e2x
              have hc3 := sep_ceAt (i := 2) hS rfl 9 rfl
              have hf3 := sep_ceFrozen (i := 2) hS rfl 9
              rw [e2x] at hS
              have hs0 := sep_ceSet (i := 2) hS rfl 9 (.slice A2 (k + 1) c2)
              have hs : ∃ (SB : Option Addr) (sd : Nat), Sep w (W.setCell ⟨g3, 9, none⟩ (.slice A2 (k + 1) c2)) [Ce w.heap.size 30 #[.int .i64 0, .int .i64 0, .int .u64 0, .int .u64 0, .int .i64 0, .int .u64 0, .int .u64 0, .slice none 0 0, .int .u64 0, .slice none 0 0, .bool false], Rd g2 s'.1 s'.2, Ce g3 30 #[.int .i64 (kk : Int), .int .i64 (nn : Int), .int .u64 (pi : Int), .int .u64 (rr : Int), .int .i64 (sn : Int), .int .u64 (si : Int), .int .u64 0, .slice none 0 0, .int .u64 (n : Int), .slice SB (k + 1) sd, .bool false], Uv (.slice SB (k + 1) sd) (l ++ [x])] := ⟨A2, c2, hs0⟩
              clear e2 hs0
              go_simp
              exact hK.out undef _ trivial trivial (by simpa [upB, upd] using hs)
            exact EachF.nil
          · intro dn xv W hI H
            have qe : dn 8 = true := (H 8 (of_decide_eq_true (by kernel_rfl))).1
            have hS : ∃ (SB : Option Addr) (sd : Nat), Sep w W [Ce w.heap.size 30 #[.int .i64 0, .int .i64 0, .int .u64 0, .int .u64 0, .int .i64 0, .int .u64 0, .int .u64 0, .slice none 0 0, .int .u64 0, .slice none 0 0, .bool false], Rd g2 s'.1 s'.2, Ce g3 30 #[.int .i64 (kk : Int), .int .i64 (nn : Int), .int .u64 (pi : Int), .int .u64 (rr : Int), .int .i64 (sn : Int), .int .u64 (si : Int), .int .u64 0, .slice none 0 0, .int .u64 (n : Int), .slice SB (k + 1) sd, .bool false], Uv (.slice SB (k + 1) sd) (l ++ [x])] := by simpa [qe] using hI
            clear H hI qe
            simp only [putAll, Act.put, List.setIfInBounds_toArray, List.set_cons_zero, List.set_cons_succ, Nat.reduceAdd]
            obtain ⟨SB, sd, hS⟩ := hS
            have HSM := Lib.hid hS
            clear hS
            go_wp2_with fail
            go_roundw
            case rel => exact ⟨k + 1, SB, sd, by omega, by go_num, Lib.hid (by rw [HSN.out]; exact HSM.out)⟩
            case measure => simp [intOf]; omega
        · have hkk : k = cnt := by omega
          have hll := gL_length k sC
          have hlt := gL_lt k sC
          have hsl := gL_len k sC
          have HgC2 : Hid (gC s4 = gL k sC) := Lib.hid (by rw [HgC.out, hkk])
          have HSL2 := HSL
          clear HgC HSL
          clear hkk
          obtain ⟨l, Hl⟩ : ∃ x, Hid ((gL k sC).1 = x) := ⟨_, Lib.hid rfl⟩
          obtain ⟨s7, Hs7⟩ : ∃ x, Hid ((gL k sC).2 = x) := ⟨_, Lib.hid rfl⟩
          rw [Hl.out] at hll hlt HSL2
          rw [Hs7.out] at hsl HSL2
          have HX : Hid (rdX b = (l, s7)) := Lib.hid (by unfold rdX; rw [HK.out, HC.out, if_pos (show kk = 8 ∨ kk = 9 by exact .inl Q8.out), HgC2.out, ← Hl.out, ← Hs7.out])
          clear Hl Hs7 HgC2
          subst hll
          have HW : Hid (rdW b = (false, s7)) := Lib.hid (by unfold rdW; rw [HK.out, HX.out, if_neg (show ¬ kk = 9 by have := Q8.out; omega)])
          have k0 := sep_ceAt (i := 2) HSL2.out rfl 0 rfl
          have HLT := Lib.hid hlt
          clear hlt
          go_wp2_with fail
          clear k0 e7 e8 e9
          by_cases hen : rEnd s7.1 s7.2 = true
          · refine (sep_gEb (i := 1) (s := s7) (z := 3) HSL2.out rfl hen rfl).mono ?_
            rintro e w9 ⟨rfl, hs9⟩
            have HS9 := Lib.hid (show Sep w w9 [Ce w.heap.size 30 #[.int .i64 0, .int .i64 0, .int .u64 0, .int .u64 0, .int .i64 0, .int .u64 0, .int .u64 0, .slice none 0 0, .int .u64 0, .slice none 0 0, .bool false], Rd g2 s7.1 true, Ce g3 30 #[.int .i64 (kk : Int), .int .i64 (nn : Int), .int .u64 (pi : Int), .int .u64 (rr : Int), .int .i64 (sn : Int), .int .u64 (si : Int), .int .u64 0, .slice none 0 0, .int .u64 (n : Int), .slice SA l.length sc, .bool false], Uv (.slice SA l.length sc) l] from hs9)
            clear hs9 HSL2
            have k0 := sep_ceAt (i := 0) HS9.out rfl 0 rfl
            have k1 := sep_ceAt (i := 0) HS9.out rfl 1 rfl
            have k2 := sep_ceAt (i := 0) HS9.out rfl 2 rfl
            have k3 := sep_ceAt (i := 0) HS9.out rfl 3 rfl
            have k4 := sep_ceAt (i := 0) HS9.out rfl 4 rfl
            have k5 := sep_ceAt (i := 0) HS9.out rfl 5 rfl
            have k6 := sep_ceAt (i := 0) HS9.out rfl 6 rfl
            have k7 := sep_ceAt (i := 0) HS9.out rfl 7 rfl
            have k8 := sep_ceAt (i := 0) HS9.out rfl 8 rfl
            have k9 := sep_ceAt (i := 0) HS9.out rfl 9 rfl
            have k10 := sep_ceAt (i := 0) HS9.out rfl 10 rfl
            have y0 := sep_ceFrozen (i := 0) HS9.out rfl 0
            have y1 := sep_ceFrozen (i := 0) HS9.out rfl 1
            have y2 := sep_ceFrozen (i := 0) HS9.out rfl 2
            have y3 := sep_ceFrozen (i := 0) HS9.out rfl 3
            have y4 := sep_ceFrozen (i := 0) HS9.out rfl 4
            have y5 := sep_ceFrozen (i := 0) HS9.out rfl 5
            have y6 := sep_ceFrozen (i := 0) HS9.out rfl 6
            have y7 := sep_ceFrozen (i := 0) HS9.out rfl 7
            have y8 := sep_ceFrozen (i := 0) HS9.out rfl 8
            have y9 := sep_ceFrozen (i := 0) HS9.out rfl 9
            have y10 := sep_ceFrozen (i := 0) HS9.out rfl 10
            go_wp2_with fail
            obtain ⟨_, hs2⟩ := sep_put11 (i := 0) HS9.out rfl (.int .i64 0) (.int .i64 0) (.int .u64 0) (.int .u64 0) (.int .i64 0) (.int .u64 0) (.int .u64 0) (.slice none 0 0) (.int .u64 0) (.slice none 0 0) (.bool false)
            refine bodyPost_ret (v := .tuple #[.agg #[.int .i64 0, .int .i64 0, .int .u64 0, .int .u64 0, .int .i64 0, .int .u64 0, .int .u64 0, .slice none 0 0, .int .u64 0, .slice none 0 0, .bool false], .int .i64 3]) (by simp [results, Try.results18, go_sem, k0, k1, k2, k3, k4, k5, k6, k7, k8, k9, k10]) rfl ?_
            exact .inr ⟨fun x hx => (by have h := ((isLt_rd b x).1 hx).1; rw [HW.out] at h; rw [h] at hen; cases hen), rfl, hs2.bel⟩
          · have HEN : Hid (rEnd s7.1 s7.2 = false) := Lib.hid (by simpa using hen)
            clear hen
            refine (sep_gEb (i := 1) (s := s7) (z := 0) HSL2.out rfl HEN.out rfl).mono ?_
            rintro e w9 ⟨rfl, hs9⟩
            have HS9 := Lib.hid (show Sep w w9 [Ce w.heap.size 30 #[.int .i64 0, .int .i64 0, .int .u64 0, .int .u64 0, .int .i64 0, .int .u64 0, .int .u64 0, .slice none 0 0, .int .u64 0, .slice none 0 0, .bool false], Rd g2 s7.1 false, Ce g3 30 #[.int .i64 (kk : Int), .int .i64 (nn : Int), .int .u64 (pi : Int), .int .u64 (rr : Int), .int .i64 (sn : Int), .int .u64 (si : Int), .int .u64 0, .slice none 0 0, .int .u64 (n : Int), .slice SA l.length sc, .bool false], Uv (.slice SA l.length sc) l] from hs9)
            clear hs9 HSL2
            have z0 := sep_ceAt (i := 2) HS9.out rfl 0 rfl
            have z1 := sep_ceAt (i := 2) HS9.out rfl 1 rfl
            have z2 := sep_ceAt (i := 2) HS9.out rfl 2 rfl
            have z3 := sep_ceAt (i := 2) HS9.out rfl 3 rfl
            have z4 := sep_ceAt (i := 2) HS9.out rfl 4 rfl
            have z5 := sep_ceAt (i := 2) HS9.out rfl 5 rfl
            have z6 := sep_ceAt (i := 2) HS9.out rfl 6 rfl
            have z7 := sep_ceAt (i := 2) HS9.out rfl 7 rfl
            have z8 := sep_ceAt (i := 2) HS9.out rfl 8 rfl
            have z9 := sep_ceAt (i := 2) HS9.out rfl 9 rfl
            have z10 := sep_ceAt (i := 2) HS9.out rfl 10 rfl
            go_wp2_with fail
            clear z0 z1 z2 z3 z4 z5 z6 z7 z8 z9 z10
            by_cases hmy : (Lt.mk kk nn pi rr sn si 0 [] n l false).may = true
            · have HMY := Lib.hid hmy
              clear hmy
              refine (mayL (w := w9) (x := (Lt.mk kk nn pi rr sn si 0 [] n l false)) (A := none) (c := 0) (A2 := SA) (c2 := sc) (B := w9.heap.size) HMY.out (by obtain ⟨A9, c9, e9, _, _, h9⟩ := OwnU.form (sep_uvOwn HS9.out (i := 3) rfl); injection e9 with e9 _ _; subst e9; exact h9) (Nat.le_refl _) (by simp <;> omega) (by show l.length ≤ 1000000; omega) (fun y hy => by have := HLT.out y hy; omega)).mono ?_
              rintro e w10 ⟨rfl, hb10⟩
              have HS10 := Lib.hid (HS9.out.grow hb10)
              clear HS9 hb10
              have z0 := sep_ceAt (i := 2) HS10.out rfl 0 rfl
              have z1 := sep_ceAt (i := 2) HS10.out rfl 1 rfl
              have z2 := sep_ceAt (i := 2) HS10.out rfl 2 rfl
              have z3 := sep_ceAt (i := 2) HS10.out rfl 3 rfl
              have z4 := sep_ceAt (i := 2) HS10.out rfl 4 rfl
              have z5 := sep_ceAt (i := 2) HS10.out rfl 5 rfl
              have z6 := sep_ceAt (i := 2) HS10.out rfl 6 rfl
              have z7 := sep_ceAt (i := 2) HS10.out rfl 7 rfl
              have z8 := sep_ceAt (i := 2) HS10.out rfl 8 rfl
              have z9 := sep_ceAt (i := 2) HS10.out rfl 9 rfl
              have z10 := sep_ceAt (i := 2) HS10.out rfl 10 rfl
              have k0 := sep_ceAt (i := 0) HS10.out rfl 0 rfl
              have k1 := sep_ceAt (i := 0) HS10.out rfl 1 rfl
              have k2 := sep_ceAt (i := 0) HS10.out rfl 2 rfl
              have k3 := sep_ceAt (i := 0) HS10.out rfl 3 rfl
              have k4 := sep_ceAt (i := 0) HS10.out rfl 4 rfl
              have k5 := sep_ceAt (i := 0) HS10.out rfl 5 rfl
              have k6 := sep_ceAt (i := 0) HS10.out rfl 6 rfl
              have k7 := sep_ceAt (i := 0) HS10.out rfl 7 rfl
              have k8 := sep_ceAt (i := 0) HS10.out rfl 8 rfl
              have k9 := sep_ceAt (i := 0) HS10.out rfl 9 rfl
              have k10 := sep_ceAt (i := 0) HS10.out rfl 10 rfl
              have y0 := sep_ceFrozen (i := 0) HS10.out rfl 0
              have y1 := sep_ceFrozen (i := 0) HS10.out rfl 1
              have y2 := sep_ceFrozen (i := 0) HS10.out rfl 2
              have y3 := sep_ceFrozen (i := 0) HS10.out rfl 3
              have y4 := sep_ceFrozen (i := 0) HS10.out rfl 4
              have y5 := sep_ceFrozen (i := 0) HS10.out rfl 5
              have y6 := sep_ceFrozen (i := 0) HS10.out rfl 6
              have y7 := sep_ceFrozen (i := 0) HS10.out rfl 7
              have y8 := sep_ceFrozen (i := 0) HS10.out rfl 8
              have y9 := sep_ceFrozen (i := 0) HS10.out rfl 9
              have y10 := sep_ceFrozen (i := 0) HS10.out rfl 10
              go_wp2_with fail
              obtain ⟨_, hs2⟩ := sep_put11 (i := 0) HS10.out rfl (.int .i64 (kk : Int)) (.int .i64 (nn : Int)) (.int .u64 (pi : Int)) (.int .u64 (rr : Int)) (.int .i64 (sn : Int)) (.int .u64 (si : Int)) (.int .u64 0) (.slice none 0 0) (.int .u64 (n : Int)) (.slice SA l.length sc) (.bool false)
              refine bodyPost_ret (v := .tuple #[.agg #[.int .i64 (kk : Int), .int .i64 (nn : Int), .int .u64 (pi : Int), .int .u64 (rr : Int), .int .i64 (sn : Int), .int .u64 (si : Int), .int .u64 0, .slice none 0 0, .int .u64 (n : Int), .slice SA l.length sc, .bool false], .int .i64 0]) (by simp [results, Try.results18, go_sem, k0, k1, k2, k3, k4, k5, k6, k7, k8, k9, k10]) rfl ?_
              have hF : rdLt b = (Lt.mk kk nn pi rr sn si 0 [] n l false) := by
                unfold rdLt
                rw [HK.out, HP.out, HI.out, HN.out, HB.out, HC.out, HX.out, HW.out]
              exact .inl ⟨(Lt.mk kk nn pi rr sn si 0 [] n l false), none, 0, SA, sc, (isLt_rd b _).2 ⟨by rw [HW.out]; exact HEN.out, by rw [hF]; exact HMY.out, hF.symm⟩, rfl, .inl ⟨rfl, rfl, rfl⟩, sep_uvOwn hs2 (i := 3) rfl, hs2.bel⟩
            · have HMN : Hid ((Lt.mk kk nn pi rr sn si 0 [] n l false).may = false) := Lib.hid (by simpa using hmy)
              clear hmy
              refine (mayL (w := w9) (x := (Lt.mk kk nn pi rr sn si 0 [] n l false)) (A := none) (c := 0) (A2 := SA) (c2 := sc) (B := w9.heap.size) HMN.out (by obtain ⟨A9, c9, e9, _, _, h9⟩ := OwnU.form (sep_uvOwn HS9.out (i := 3) rfl); injection e9 with e9 _ _; subst e9; exact h9) (Nat.le_refl _) (by simp <;> omega) (by show l.length ≤ 1000000; omega) (fun y hy => by have := HLT.out y hy; omega)).mono ?_
              rintro e w10 ⟨rfl, hb10⟩
              have HS10 := Lib.hid (HS9.out.grow hb10)
              clear HS9 hb10
              have k0 := sep_ceAt (i := 0) HS10.out rfl 0 rfl
              have k1 := sep_ceAt (i := 0) HS10.out rfl 1 rfl
              have k2 := sep_ceAt (i := 0) HS10.out rfl 2 rfl
              have k3 := sep_ceAt (i := 0) HS10.out rfl 3 rfl
              have k4 := sep_ceAt (i := 0) HS10.out rfl 4 rfl
              have k5 := sep_ceAt (i := 0) HS10.out rfl 5 rfl
              have k6 := sep_ceAt (i := 0) HS10.out rfl 6 rfl
              have k7 := sep_ceAt (i := 0) HS10.out rfl 7 rfl
              have k8 := sep_ceAt (i := 0) HS10.out rfl 8 rfl
              have k9 := sep_ceAt (i := 0) HS10.out rfl 9 rfl
              have k10 := sep_ceAt (i := 0) HS10.out rfl 10 rfl
              have y0 := sep_ceFrozen (i := 0) HS10.out rfl 0
              have y1 := sep_ceFrozen (i := 0) HS10.out rfl 1
              have y2 := sep_ceFrozen (i := 0) HS10.out rfl 2
              have y3 := sep_ceFrozen (i := 0) HS10.out rfl 3
              have y4 := sep_ceFrozen (i := 0) HS10.out rfl 4
              have y5 := sep_ceFrozen (i := 0) HS10.out rfl 5
              have y6 := sep_ceFrozen (i := 0) HS10.out rfl 6
              have y7 := sep_ceFrozen (i := 0) HS10.out rfl 7
              have y8 := sep_ceFrozen (i := 0) HS10.out rfl 8
              have y9 := sep_ceFrozen (i := 0) HS10.out rfl 9
              have y10 := sep_ceFrozen (i := 0) HS10.out rfl 10
              go_wp2_with fail
              obtain ⟨_, hs2⟩ := sep_put11 (i := 0) HS10.out rfl (.int .i64 0) (.int .i64 0) (.int .u64 0) (.int .u64 0) (.int .i64 0) (.int .u64 0) (.int .u64 0) (.slice none 0 0) (.int .u64 0) (.slice none 0 0) (.bool false)
              refine bodyPost_ret (v := .tuple #[.agg #[.int .i64 0, .int .i64 0, .int .u64 0, .int .u64 0, .int .i64 0, .int .u64 0, .int .u64 0, .slice none 0 0, .int .u64 0, .slice none 0 0, .bool false], .int .i64 3]) (by simp [results, Try.results18, go_sem, k0, k1, k2, k3, k4, k5, k6, k7, k8, k9, k10]) rfl ?_
              exact .inr ⟨fun x hx => (by
                have h := ((isLt_rd b x).1 hx).2.1
                have hF : rdLt b = (Lt.mk kk nn pi rr sn si 0 [] n l false) := by
                  unfold rdLt
                  rw [HK.out, HP.out, HI.out, HN.out, HB.out, HC.out, HX.out, HW.out]
                rw [hF, HMN.out] at h
                cases h), rfl, hs2.bel⟩
    by_cases q9 : kk = 9
    · have e7 : (((kk : Nat) : Int) == 7) = false := by simp; omega
      have e8 : (((kk : Nat) : Int) == 8) = false := by simp; omega
      have e9 : (((kk : Nat) : Int) == 9) = true := by simp; omega
      have Q7 := Lib.hid q7
      have Q8 := Lib.hid q8
      have Q9 := Lib.hid q9
      clear q7 q8 q9
      go_wp2_with fail
      have hs8 := sep_ceSet (i := 2) HS7.out rfl 3 (.int .u64 (rr : Int))
      have hs8 := sep_ceSet (i := 2) hs8 rfl 4 (.int .i64 (sn : Int))
      have hs8 := sep_ceSet (i := 2) hs8 rfl 5 (.int .u64 (si : Int))
      obtain ⟨w8, HW8⟩ : ∃ W, Hid (((w7.setCell ⟨g3, 3, none⟩ (.int .u64 (rr : Int))).setCell ⟨g3, 4, none⟩ (.int .i64 (sn : Int))).setCell ⟨g3, 5, none⟩ (.int .u64 (si : Int)) = W) := ⟨_, Lib.hid rfl⟩
      rw [HW8.out] at hs8 ⊢
      have HS8 := Lib.hid (show Sep w w8 [Ce w.heap.size 30 #[.int .i64 0, .int .i64 0, .int .u64 0, .int .u64 0, .int .i64 0, .int .u64 0, .int .u64 0, .slice none 0 0, .int .u64 0, .slice none 0 0, .bool false], Rd g2 s3.1 s3.2, Ce g3 30 #[.int .i64 (kk : Int), .int .i64 (nn : Int), .int .u64 (pi : Int), .int .u64 (rr : Int), .int .i64 (sn : Int), .int .u64 (si : Int), .int .u64 0, .slice none 0 0, .int .u64 0, .slice none 0 0, .bool false]] from hs8)
      clear hs8 HS7 y3 y4 y5 k3 k4 k5 k0
      have HN : Hid (rdN b = (0, s3)) := Lib.hid (by unfold rdN; rw [HK.out, HI.out, if_neg Q7.out])
      have HB : Hid (rdB b = ([], s3)) := Lib.hid (by unfold rdB; rw [HK.out, HN.out, if_neg Q7.out])
      have HC : Hid (rdC b = (0, s3)) := Lib.hid (by unfold rdC; rw [HK.out, HB.out, if_neg Q8.out])
      refine (sep_g8 (i := 1) (s := s3) HS8.out rfl hl3).mono ?_
      rintro e w20 ⟨rfl, hs20⟩
      have hcnt := g8_lt s3
      have hcl := g8_len s3
      obtain ⟨cnt, Hcnt⟩ : ∃ x, Hid ((g8 s3).1 = x) := ⟨_, Lib.hid rfl⟩
      obtain ⟨sC, HsC⟩ : ∃ x, Hid ((g8 s3).2 = x) := ⟨_, Lib.hid rfl⟩
      have HgC : Hid (gC s3 = gL cnt sC) := Lib.hid (by unfold gC; rw [Hcnt.out, HsC.out])
      rw [Hcnt.out] at hcnt ⊢
      rw [HsC.out] at hcl hs20
      have hcl2 : sC.1.length ≤ 1000000000 := by omega
      have HS20 := Lib.hid (show Sep w w20 [Ce w.heap.size 30 #[.int .i64 0, .int .i64 0, .int .u64 0, .int .u64 0, .int .i64 0, .int .u64 0, .int .u64 0, .slice none 0 0, .int .u64 0, .slice none 0 0, .bool false], Rd g2 sC.1 sC.2, Ce g3 30 #[.int .i64 (kk : Int), .int .i64 (nn : Int), .int .u64 (pi : Int), .int .u64 (rr : Int), .int .i64 (sn : Int), .int .u64 (si : Int), .int .u64 0, .slice none 0 0, .int .u64 0, .slice none 0 0, .bool false], Uv (.slice none 0 0) []] from sep_uvNil hs20)
      clear hs20 HS8
      go_wp2_with fail
      go_loopw [40] (fun iv wr => ∃ (k : Nat) (SA : Option Addr) (sc : Nat), k ≤ cnt ∧ iv = .int .u8 (k : Int) ∧ Hid (Sep w wr [Ce w.heap.size 30 #[.int .i64 0, .int .i64 0, .int .u64 0, .int .u64 0, .int .i64 0, .int .u64 0, .int .u64 0, .slice none 0 0, .int .u64 0, .slice none 0 0, .bool false], Rd g2 (gL k sC).2.1 (gL k sC).2.2, Ce g3 30 #[.int .i64 (kk : Int), .int .i64 (nn : Int), .int .u64 (pi : Int), .int .u64 (rr : Int), .int .i64 (sn : Int), .int .u64 (si : Int), .int .u64 0, .slice none 0 0, .int .u64 0, .slice SA k sc, .bool false], Uv (.slice SA k sc) (gL k sC).1])) (fun iv _ => cnt - (intOf iv).toNat)
      case atStart => exact ⟨0, none, 0, by omega, rfl, HS20⟩
      case round =>
        obtain ⟨k, SA, sc, hk, rfl, HSL⟩ := hrel
        by_cases hkt : k < cnt
        · have hsl := gL_len k sC
          have hll := gL_length k sC
          have HSN := Lib.hid (gL_snoc k sC)
          obtain ⟨s, Hs⟩ : ∃ x, Hid ((gL k sC).2 = x) := ⟨_, Lib.hid rfl⟩
          obtain ⟨l, Hl⟩ : ∃ x, Hid ((gL k sC).1 = x) := ⟨_, Lib.hid rfl⟩
          rw [Hs.out] at hsl HSL HSN
          rw [Hl.out] at hll HSL HSN
          have HLL := Lib.hid hll
          have hxl := g8_lt s
          obtain ⟨x, Hx⟩ : ∃ y, Hid ((g8 s).1 = y) := ⟨_, Lib.hid rfl⟩
          obtain ⟨s', Hs'⟩ : ∃ y, Hid ((g8 s).2 = y) := ⟨_, Lib.hid rfl⟩
          rw [Hx.out] at hxl HSN
          rw [Hs'.out] at HSN
          have m1 : ((k : Int) + 1) % 256 = (k : Int) + 1 := by omega
          clear hll
          go_wp2_with fail
          have hcell : ∀ (dn : Nat → Bool) (xv : Nat → Value) (W : World), (if dn 8 = true then ∃ (SB : Option Addr) (sd : Nat), Sep w W [Ce w.heap.size 30 #[.int .i64 0, .int .i64 0, .int .u64 0, .int .u64 0, .int .i64 0, .int .u64 0, .int .u64 0, .slice none 0 0, .int .u64 0, .slice none 0 0, .bool false], Rd g2 s'.1 s'.2, Ce g3 30 #[.int .i64 (kk : Int), .int .i64 (nn : Int), .int .u64 (pi : Int), .int .u64 (rr : Int), .int .i64 (sn : Int), .int .u64 (si : Int), .int .u64 0, .slice none 0 0, .int .u64 0, .slice SB (k + 1) sd, .bool false], Uv (.slice SB (k + 1) sd) (l ++ [x])] else if dn 6 = true then Sep w W [Ce w.heap.size 30 #[.int .i64 0, .int .i64 0, .int .u64 0, .int .u64 0, .int .i64 0, .int .u64 0, .int .u64 0, .slice none 0 0, .int .u64 0, .slice none 0 0, .bool false], Rd g2 s'.1 s'.2, Ce g3 30 #[.int .i64 (kk : Int), .int .i64 (nn : Int), .int .u64 (pi : Int), .int .u64 (rr : Int), .int .i64 (sn : Int), .int .u64 (si : Int), .int .u64 0, .slice none 0 0, .int .u64 0, .slice SA k sc, .bool false], Uv (xv 6) (l ++ [x])] else if dn 5 = true then Sep w W [Ce w.heap.size 30 #[.int .i64 0, .int .i64 0, .int .u64 0, .int .u64 0, .int .i64 0, .int .u64 0, .int .u64 0, .slice none 0 0, .int .u64 0, .slice none 0 0, .bool false], Rd g2 s'.1 s'.2, Ce g3 30 #[.int .i64 (kk : Int), .int .i64 (nn : Int), .int .u64 (pi : Int), .int .u64 (rr : Int), .int .i64 (sn : Int), .int .u64 (si : Int), .int .u64 0, .slice none 0 0, .int .u64 0, .slice SA k sc, .bool false], Uv (.slice SA k sc) l] ∧ OneU x (xv 5) W else if dn 3 = true then Sep w W [Ce w.heap.size 30 #[.int .i64 0, .int .i64 0, .int .u64 0, .int .u64 0, .int .i64 0, .int .u64 0, .int .u64 0, .slice none 0 0, .int .u64 0, .slice none 0 0, .bool false], Rd g2 s'.1 s'.2, Ce g3 30 #[.int .i64 (kk : Int), .int .i64 (nn : Int), .int .u64 (pi : Int), .int .u64 (rr : Int), .int .i64 (sn : Int), .int .u64 (si : Int), .int .u64 0, .slice none 0 0, .int .u64 0, .slice SA k sc, .bool false], Uv (.slice SA k sc) l] else Sep w W [Ce w.heap.size 30 #[.int .i64 0, .int .i64 0, .int .u64 0, .int .u64 0, .int .i64 0, .int .u64 0, .int .u64 0, .slice none 0 0, .int .u64 0, .slice none 0 0, .bool false], Rd g2 s.1 s.2, Ce g3 30 #[.int .i64 (kk : Int), .int .i64 (nn : Int), .int .u64 (pi : Int), .int .u64 (rr : Int), .int .i64 (sn : Int), .int .u64 (si : Int), .int .u64 0, .slice none 0 0, .int .u64 0, .slice SA k sc, .bool false], Uv (.slice SA k sc) l]) → dn 8 = false → W.cell? ⟨g3, 9, none⟩ = some (.slice SA k sc) := fun dn xv W h h0 => by
            rw [if_neg (by simp [h0])] at h
            split at h
            · exact sep_ceAt (i := 2) h rfl 9 rfl
            split at h
            · exact sep_ceAt (i := 2) h.1 rfl 9 rfl
            split at h
            · exact sep_ceAt (i := 2) h rfl 9 rfl
            exact sep_ceAt (i := 2) h rfl 9 rfl
          refine wp_region_f (fun dn xv W => if dn 8 = true then ∃ (SB : Option Addr) (sd : Nat), Sep w W [Ce w.heap.size 30 #[.int .i64 0, .int .i64 0, .int .u64 0, .int .u64 0, .int .i64 0, .int .u64 0, .int .u64 0, .slice none 0 0, .int .u64 0, .slice none 0 0, .bool false], Rd g2 s'.1 s'.2, Ce g3 30 #[.int .i64 (kk : Int), .int .i64 (nn : Int), .int .u64 (pi : Int), .int .u64 (rr : Int), .int .i64 (sn : Int), .int .u64 (si : Int), .int .u64 0, .slice none 0 0, .int .u64 0, .slice SB (k + 1) sd, .bool false], Uv (.slice SB (k + 1) sd) (l ++ [x])] else if dn 6 = true then Sep w W [Ce w.heap.size 30 #[.int .i64 0, .int .i64 0, .int .u64 0, .int .u64 0, .int .i64 0, .int .u64 0, .int .u64 0, .slice none 0 0, .int .u64 0, .slice none 0 0, .bool false], Rd g2 s'.1 s'.2, Ce g3 30 #[.int .i64 (kk : Int), .int .i64 (nn : Int), .int .u64 (pi : Int), .int .u64 (rr : Int), .int .i64 (sn : Int), .int .u64 (si : Int), .int .u64 0, .slice none 0 0, .int .u64 0, .slice SA k sc, .bool false], Uv (xv 6) (l ++ [x])] else if dn 5 = true then Sep w W [Ce w.heap.size 30 #[.int .i64 0, .int .i64 0, .int .u64 0, .int .u64 0, .int .i64 0, .int .u64 0, .int .u64 0, .slice none 0 0, .int .u64 0, .slice none 0 0, .bool false], Rd g2 s'.1 s'.2, Ce g3 30 #[.int .i64 (kk : Int), .int .i64 (nn : Int), .int .u64 (pi : Int), .int .u64 (rr : Int), .int .i64 (sn : Int), .int .u64 (si : Int), .int .u64 0, .slice none 0 0, .int .u64 0, .slice SA k sc, .bool false], Uv (.slice SA k sc) l] ∧ OneU x (xv 5) W else if dn 3 = true then Sep w W [Ce w.heap.size 30 #[.int .i64 0, .int .i64 0, .int .u64 0, .int .u64 0, .int .i64 0, .int .u64 0, .int .u64 0, .slice none 0 0, .int .u64 0, .slice none 0 0, .bool false], Rd g2 s'.1 s'.2, Ce g3 30 #[.int .i64 (kk : Int), .int .i64 (nn : Int), .int .u64 (pi : Int), .int .u64 (rr : Int), .int .i64 (sn : Int), .int .u64 (si : Int), .int .u64 0, .slice none 0 0, .int .u64 0, .slice SA k sc, .bool false], Uv (.slice SA k sc) l] else Sep w W [Ce w.heap.size 30 #[.int .i64 0, .int .i64 0, .int .u64 0, .int .u64 0, .int .i64 0, .int .u64 0, .int .u64 0, .slice none 0 0, .int .u64 0, .slice none 0 0, .bool false], Rd g2 s.1 s.2, Ce g3 30 #[.int .i64 (kk : Int), .int .i64 (nn : Int), .int .u64 (pi : Int), .int .u64 (rr : Int), .int .i64 (sn : Int), .int .u64 (si : Int), .int .u64 0, .slice none 0 0, .int .u64 0, .slice SA k sc, .bool false], Uv (.slice SA k sc) l]) (fun _ _ => True) [fun v _ => v = .pointer (some ⟨g3, 9, none⟩), fun v _ => v = .slice SA k sc, fun v _ => v = .pointer (some ⟨g2, 0, none⟩), fun v _ => v = .int .u8 (x : Int), fun v _ => v = .int .u64 (x : Int), fun v _ => True, fun v _ => True, fun v _ => v = .pointer (some ⟨g3, 9, none⟩), fun v _ => True] (by kernel_rfl) (by kernel_rfl) (by kernel_rfl) (by kernel_rfl) (fun xv => by simpa using HSL.out.drew)
            (by exact ⟨fun _ _ _ _ h => h, fun _ _ _ _ h => h, fun _ _ _ _ h => h, fun _ _ _ _ h => h, fun _ _ _ _ h => h, fun _ _ _ _ h => h, fun _ _ _ _ h => h, fun _ _ _ _ h => h, fun _ _ _ _ h => h, trivial⟩) ?_ ?_
          · refine EachF.cons 1 rfl (fun dn xv W F hF hd hN hX hI H K hK => ?_) ?_
            · have f5 : F.tmps.getD 5 undef = .pointer (some ⟨g3, 0, none⟩) := (hF 5).trans (by kernel_rfl)
              clear H hN hd hX hF
              refine on_plain rfl ?_
              go_simp
              exact hK.out _ _ rfl trivial (by simpa [upB, upd] using hI)
            refine EachF.cons 2 rfl (fun dn xv W F hF hd hN hX hI H K hK => ?_) ?_
            · have h0 : xv 0 = .pointer (some ⟨g3, 9, none⟩) := (H 0 (.edge (by kernel_rfl))).2
              have f42 : F.tmps.getD 42 undef = .pointer (some ⟨g3, 9, none⟩) := (hF 42).trans (Eq.trans (by kernel_rfl) h0)
              have hc0 := hcell dn xv W hI (hN 8 (.more (j := 6) (by kernel_rfl) (.edge (by kernel_rfl))))
              clear H hN hd hX hF
              refine on_plain rfl ?_
              go_simp
              exact hK.out _ _ rfl trivial (by simpa [upB, upd] using hI)
            refine EachF.cons 3 rfl (fun dn xv W F hF hd hN hX hI H K hK => ?_) ?_
            · have f4 : F.tmps.getD 4 undef = .pointer (some ⟨g2, 0, none⟩) := (hF 4).trans (by kernel_rfl)
              clear H hN hd hX hF
              refine on_plain rfl ?_
              go_simp
              exact hK.out _ _ rfl trivial (by simpa [upB, upd] using hI)
            refine EachF.cons 4 rfl (fun dn xv W F hF hd hN hX hI H K hK => ?_) ?_
            · have h2 : xv 2 = .pointer (some ⟨g2, 0, none⟩) := (H 2 (.edge (by kernel_rfl))).2
              have f44 : F.tmps.getD 44 undef = .pointer (some ⟨g2, 0, none⟩) := (hF 44).trans (Eq.trans (by kernel_rfl) h2)
              have q5 : dn 5 = false := hN 5 (.more (j := 4) (by kernel_rfl) (.edge (by kernel_rfl)))
              have q6 : dn 6 = false := hN 6 (.more (j := 5) (by kernel_rfl) (.more (j := 4) (by kernel_rfl) (.edge (by kernel_rfl))))
              have q8 : dn 8 = false := hN 8 (.more (j := 6) (by kernel_rfl) (.more (j := 5) (by kernel_rfl) (.more (j := 4) (by kernel_rfl) (.edge (by kernel_rfl)))))
              have hS : Sep w W [Ce w.heap.size 30 #[.int .i64 0, .int .i64 0, .int .u64 0, .int .u64 0, .int .i64 0, .int .u64 0, .int .u64 0, .slice none 0 0, .int .u64 0, .slice none 0 0, .bool false], Rd g2 s.1 s.2, Ce g3 30 #[.int .i64 (kk : Int), .int .i64 (nn : Int), .int .u64 (pi : Int), .int .u64 (rr : Int), .int .i64 (sn : Int), .int .u64 (si : Int), .int .u64 0, .slice none 0 0, .int .u64 0, .slice SA k sc, .bool false], Uv (.slice SA k sc) l] := by simpa [hd, q5, q6, q8] using hI
              clear hI hN hd hX hF H
              refine on_plain rfl ?_
              go_simp
              refine (sep_g8 (i := 1) (s := s) hS rfl (by omega)).mono ?_
              rintro e W' ⟨rfl, hs0⟩
              rw [Hs'.out] at hs0
              rw [Hx.out]
              have hs : Sep w W' [Ce w.heap.size 30 #[.int .i64 0, .int .i64 0, .int .u64 0, .int .u64 0, .int .i64 0, .int .u64 0, .int .u64 0, .slice none 0 0, .int .u64 0, .slice none 0 0, .bool false], Rd g2 s'.1 s'.2, Ce g3 30 #[.int .i64 (kk : Int), .int .i64 (nn : Int), .int .u64 (pi : Int), .int .u64 (rr : Int), .int .i64 (sn : Int), .int .u64 (si : Int), .int .u64 0, .slice none 0 0, .int .u64 0, .slice SA k sc, .bool false], Uv (.slice SA k sc) l] := hs0
              exact hK.out _ W' rfl trivial (by simpa [upB, upd, q5, q6, q8] using hs)
            refine EachF.cons 5 rfl (fun dn xv W F hF hd hN hX hI H K hK => ?_) ?_
            · have h3 : xv 3 = .int .u8 (x : Int) := (H 3 (.edge (by kernel_rfl))).2
              have f45 : F.tmps.getD 45 undef = .int .u8 (x : Int) := (hF 45).trans (Eq.trans (by kernel_rfl) h3)
              clear H hN hd hX hF
              refine on_plain rfl ?_
              go_simp
              rw [show IntKind.u64.wrap (x : Int) = (x : Int) by rw [IntKind.wrap_u64]; omega]
              exact hK.out _ _ rfl trivial (by simpa [upB, upd] using hI)
            refine EachF.cons 6 rfl (fun dn xv W F hF hd hN hX hI H K hK => ?_) ?_
            · have h4 : xv 4 = .int .u64 (x : Int) := (H 4 (.edge (by kernel_rfl))).2
              have f46 : F.tmps.getD 46 undef = .int .u64 (x : Int) := (hF 46).trans (Eq.trans (by kernel_rfl) h4)
              have q3 : dn 3 = true := (H 3 (.more (j := 4) (by kernel_rfl) (.edge (by kernel_rfl)))).1
              have q6 : dn 6 = false := hN 6 (.edge (by kernel_rfl))
              have q8 : dn 8 = false := hN 8 (.more (j := 6) (by kernel_rfl) (.edge (by kernel_rfl)))
              have hS : Sep w W [Ce w.heap.size 30 #[.int .i64 0, .int .i64 0, .int .u64 0, .int .u64 0, .int .i64 0, .int .u64 0, .int .u64 0, .slice none 0 0, .int .u64 0, .slice none 0 0, .bool false], Rd g2 s'.1 s'.2, Ce g3 30 #[.int .i64 (kk : Int), .int .i64 (nn : Int), .int .u64 (pi : Int), .int .u64 (rr : Int), .int .i64 (sn : Int), .int .u64 (si : Int), .int .u64 0, .slice none 0 0, .int .u64 0, .slice SA k sc, .bool false], Uv (.slice SA k sc) l] := by simpa [hd, q6, q8, q3] using hI
              clear hI hN hd hX hF H
              refine on_plain rfl ?_
              have g46 := f46
              rw [Array.getD_eq_getD_getElem?] at g46
              go_simp
              have hb : Below W.heap.size W (W.alloc (.cells #[.int .u64 (x : Int)] 22)) := (Below.refl _ _).alloc (Nat.le_refl _) _
              have hs : Sep w (W.alloc (.cells #[.int .u64 (x : Int)] 22)) [Ce w.heap.size 30 #[.int .i64 0, .int .i64 0, .int .u64 0, .int .u64 0, .int .i64 0, .int .u64 0, .int .u64 0, .slice none 0 0, .int .u64 0, .slice none 0 0, .bool false], Rd g2 s'.1 s'.2, Ce g3 30 #[.int .i64 (kk : Int), .int .i64 (nn : Int), .int .u64 (pi : Int), .int .u64 (rr : Int), .int .i64 (sn : Int), .int .u64 (si : Int), .int .u64 0, .slice none 0 0, .int .u64 0, .slice SA k sc, .bool false], Uv (.slice SA k sc) l] ∧ OneU x (.slice (some ⟨W.heap.size, 0, none⟩) 1 1) (W.alloc (.cells #[.int .u64 (x : Int)] 22)) := ⟨hS.grow hb, OneU.new W x _⟩
              exact hK.out _ _ trivial trivial (by simpa [upB, upd, q6, q8] using hs)
            refine EachF.cons 7 rfl (fun dn xv W F hF hd hN hX hI H K hK => ?_) ?_
            · have h1 : xv 1 = .slice SA k sc := (H 1 (.edge (by kernel_rfl))).2
              have f43 : F.tmps.getD 43 undef = .slice SA k sc := (hF 43).trans (Eq.trans (by kernel_rfl) h1)
              have h5 := (H 5 (.edge (by kernel_rfl))).2
              simp only [Dl] at h5
              have f47 : F.tmps.getD 47 undef = xv 5 := (hF 47).trans (by kernel_rfl)
              have q5 : dn 5 = true := (H 5 (.edge (by kernel_rfl))).1
              have q8 : dn 8 = false := hN 8 (.edge (by kernel_rfl))
              have hS : Sep w W [Ce w.heap.size 30 #[.int .i64 0, .int .i64 0, .int .u64 0, .int .u64 0, .int .i64 0, .int .u64 0, .int .u64 0, .slice none 0 0, .int .u64 0, .slice none 0 0, .bool false], Rd g2 s'.1 s'.2, Ce g3 30 #[.int .i64 (kk : Int), .int .i64 (nn : Int), .int .u64 (pi : Int), .int .u64 (rr : Int), .int .i64 (sn : Int), .int .u64 (si : Int), .int .u64 0, .slice none 0 0, .int .u64 0, .slice SA k sc, .bool false], Uv (.slice SA k sc) l] ∧ OneU x (xv 5) W := by simpa [hd, q8, q5] using hI
              clear hI hN hd hX hF H
              refine on_plain rfl ?_
              obtain ⟨s1, A3, c3, e3, hh3⟩ := hS
              have f47x := f47.trans e3
              refine sep_opAppU (i := 3) (l := l) (m := [x]) (s := .tmp 43) (x := .tmp 47) (by rfl) f43 f47x s1 (by rw [← HLL.out]; rfl) hh3 (by rw [HLL.out]; simp; omega) ?_
              intro v W' hs0
              have hs : Sep w W' [Ce w.heap.size 30 #[.int .i64 0, .int .i64 0, .int .u64 0, .int .u64 0, .int .i64 0, .int .u64 0, .int .u64 0, .slice none 0 0, .int .u64 0, .slice none 0 0, .bool false], Rd g2 s'.1 s'.2, Ce g3 30 #[.int .i64 (kk : Int), .int .i64 (nn : Int), .int .u64 (pi : Int), .int .u64 (rr : Int), .int .i64 (sn : Int), .int .u64 (si : Int), .int .u64 0, .slice none 0 0, .int .u64 0, .slice SA k sc, .bool false], Uv v (l ++ [x])] := hs0
              exact hK.out v W' trivial trivial (by simpa [upB, upd, q8] using hs)
            refine EachF.cons 8 rfl (fun dn xv W F hF hd hN hX hI H K hK => ?_) ?_
            · have f5 : F.tmps.getD 5 undef = .pointer (some ⟨g3, 0, none⟩) := (hF 5).trans (by kernel_rfl)
              clear H hN hd hX hF
              refine on_plain rfl ?_
              go_simp
              exact hK.out _ _ rfl trivial (by simpa [upB, upd] using hI)
            refine EachF.cons 9 rfl (fun dn xv W F hF hd hN hX hI H K hK => ?_) ?_
            · have h6 := (H 6 (.edge (by kernel_rfl))).2
              simp only [Dl] at h6
              have f48 : F.tmps.getD 48 undef = xv 6 := (hF 48).trans (by kernel_rfl)
              have h7 : xv 7 = .pointer (some ⟨g3, 9, none⟩) := (H 7 (.edge (by kernel_rfl))).2
              have f49 : F.tmps.getD 49 undef = .pointer (some ⟨g3, 9, none⟩) := (hF 49).trans (Eq.trans (by kernel_rfl) h7)
              have q6 : dn 6 = true := (H 6 (.edge (by kernel_rfl))).1
              have hS : Sep w W [Ce w.heap.size 30 #[.int .i64 0, .int .i64 0, .int .u64 0, .int .u64 0, .int .i64 0, .int .u64 0, .int .u64 0, .slice none 0 0, .int .u64 0, .slice none 0 0, .bool false], Rd g2 s'.1 s'.2, Ce g3 30 #[.int .i64 (kk : Int), .int .i64 (nn : Int), .int .u64 (pi : Int), .int .u64 (rr : Int), .int .i64 (sn : Int), .int .u64 (si : Int), .int .u64 0, .slice none 0 0, .int .u64 0, .slice SA k sc, .bool false], Uv (xv 6) (l ++ [x])] := by simpa [hd, q6] using hI
              clear hI hN hd hX hF H
              refine on_plain rfl ?_
              obtain ⟨A2, c2, e2, _⟩ := sep_uvForm (i := 3) hS rfl
              have e2x : xv 6 = .slice A2 (k + 1) c2 := e2.trans (by rw [List.length_append, HLL.out]; rfl)
              have f48x := f48.trans e2x
              have hc3 := sep_ceAt (i := 2) hS rfl 9 rfl
              have hf3 := sep_ceFrozen (i := 2) hS rfl 9
              rw [e2x] at hS
              have hs0 := sep_ceSet (i := 2) hS rfl 9 (.slice A2 (k + 1) c2)
              have hs : ∃ (SB : Option Addr) (sd : Nat), Sep w (W.setCell ⟨g3, 9, none⟩ (.slice A2 (k + 1) c2)) [Ce w.heap.size 30 #[.int .i64 0, .int .i64 0, .int .u64 0, .int .u64 0, .int .i64 0, .int .u64 0, .int .u64 0, .slice none 0 0, .int .u64 0, .slice none 0 0, .bool false], Rd g2 s'.1 s'.2, Ce g3 30 #[.int .i64 (kk : Int), .int .i64 (nn : Int), .int .u64 (pi : Int), .int .u64 (rr : Int), .int .i64 (sn : Int), .int .u64 (si : Int), .int .u64 0, .slice none 0 0, .int .u64 0, .slice SB (k + 1) sd, .bool false], Uv (.slice SB (k + 1) sd) (l ++ [x])] := ⟨A2, c2, hs0⟩
              clear e2 hs0
              go_simp
              exact hK.out undef _ trivial trivial (by simpa [upB, upd] using hs)
            exact EachF.nil
          · intro dn xv W hI H
            have qe : dn 8 = true := (H 8 (of_decide_eq_true (by kernel_rfl))).1
            have hS : ∃ (SB : Option Addr) (sd : Nat), Sep w W [Ce w.heap.size 30 #[.int .i64 0, .int .i64 0, .int .u64 0, .int .u64 0, .int .i64 0, .int .u64 0, .int .u64 0, .slice none 0 0, .int .u64 0, .slice none 0 0, .bool false], Rd g2 s'.1 s'.2, Ce g3 30 #[.int .i64 (kk : Int), .int .i64 (nn : Int), .int .u64 (pi : Int), .int .u64 (rr : Int), .int .i64 (sn : Int), .int .u64 (si : Int), .int .u64 0, .slice none 0 0, .int .u64 0, .slice SB (k + 1) sd, .bool false], Uv (.slice SB (k + 1) sd) (l ++ [x])] := by simpa [qe] using hI
            clear H hI qe
            simp only [putAll, Act.put, List.setIfInBounds_toArray, List.set_cons_zero, List.set_cons_succ, Nat.reduceAdd]
            obtain ⟨SB, sd, hS⟩ := hS
            have HSM := Lib.hid hS
            clear hS
            go_wp2_with fail
            go_roundw
            case rel => exact ⟨k + 1, SB, sd, by omega, by go_num, Lib.hid (by rw [HSN.out]; exact HSM.out)⟩
            case measure => simp [intOf]; omega
        · have hkk : k = cnt := by omega
          have hll := gL_length k sC
          have hlt := gL_lt k sC
          have hsl := gL_len k sC
          have HgC2 : Hid (gC s3 = gL k sC) := Lib.hid (by rw [HgC.out, hkk])
          have HSL2 := HSL
          clear HgC HSL
          clear hkk
          obtain ⟨l, Hl⟩ : ∃ x, Hid ((gL k sC).1 = x) := ⟨_, Lib.hid rfl⟩
          obtain ⟨s7, Hs7⟩ : ∃ x, Hid ((gL k sC).2 = x) := ⟨_, Lib.hid rfl⟩
          rw [Hl.out] at hll hlt HSL2
          rw [Hs7.out] at hsl HSL2
          have HX : Hid (rdX b = (l, s7)) := Lib.hid (by unfold rdX; rw [HK.out, HC.out, if_pos (show kk = 8 ∨ kk = 9 by exact .inr Q9.out), HgC2.out, ← Hl.out, ← Hs7.out])
          clear Hl Hs7 HgC2
          subst hll
          have k0 := sep_ceAt (i := 2) HSL2.out rfl 0 rfl
          have HLT := Lib.hid hlt
          clear hlt
          go_wp2_with fail
          clear k0 e7 e8 e9
          refine (sep_g8 (i := 1) (s := s7) HSL2.out rfl (by omega)).mono ?_
          rintro e w30 ⟨rfl, hs30⟩
          have hwl := g8_lt s7
          obtain ⟨wv, Hwv⟩ : ∃ y, Hid ((g8 s7).1 = y) := ⟨_, Lib.hid rfl⟩
          obtain ⟨s8, Hs8⟩ : ∃ y, Hid ((g8 s7).2 = y) := ⟨_, Lib.hid rfl⟩
          have HW0 : Hid (rdW b = (decide (wv = 1), s8.1, s8.2 || decide (1 < wv))) := Lib.hid (by unfold rdW gW; rw [HK.out, HX.out, if_pos Q9.out, Hwv.out, Hs8.out])
          rw [Hwv.out] at hwl ⊢
          rw [Hs8.out] at hs30
          have HS30 := Lib.hid (show Sep w w30 [Ce w.heap.size 30 #[.int .i64 0, .int .i64 0, .int .u64 0, .int .u64 0, .int .i64 0, .int .u64 0, .int .u64 0, .slice none 0 0, .int .u64 0, .slice none 0 0, .bool false], Rd g2 s8.1 s8.2, Ce g3 30 #[.int .i64 (kk : Int), .int .i64 (nn : Int), .int .u64 (pi : Int), .int .u64 (rr : Int), .int .i64 (sn : Int), .int .u64 (si : Int), .int .u64 0, .slice none 0 0, .int .u64 0, .slice SA l.length sc, .bool false], Uv (.slice SA l.length sc) l] from hs30)
          clear hs30 HSL2 Hwv Hs8
          by_cases hw1 : 1 < wv
          · have ew : (((wv : Nat) : Int) == 1) = false := by simp; omega
            have HW1 : Hid (rdW b = (false, s8.1, true)) := Lib.hid (by rw [HW0.out, decide_eq_false (show ¬ wv = 1 by omega), decide_eq_true hw1, Bool.or_true])
            go_wp2_with fail
            refine (sep_fail (i := 1) (s := s8) HS30.out rfl).mono ?_
            rintro e w31 ⟨rfl, hs31⟩
            obtain ⟨s9, Hs9⟩ : ∃ y : Rs, Hid ((s8.1, true) = y) := ⟨_, Lib.hid rfl⟩
            have HW : Hid (rdW b = (false, s9)) := Lib.hid (by rw [HW1.out, ← Hs9.out])
            have HS31 := Lib.hid (show Sep w w31 [Ce w.heap.size 30 #[.int .i64 0, .int .i64 0, .int .u64 0, .int .u64 0, .int .i64 0, .int .u64 0, .int .u64 0, .slice none 0 0, .int .u64 0, .slice none 0 0, .bool false], Rd g2 s9.1 s9.2, Ce g3 30 #[.int .i64 (kk : Int), .int .i64 (nn : Int), .int .u64 (pi : Int), .int .u64 (rr : Int), .int .i64 (sn : Int), .int .u64 (si : Int), .int .u64 0, .slice none 0 0, .int .u64 0, .slice SA l.length sc, .bool false], Uv (.slice SA l.length sc) l] by rw [← Hs9.out]; exact hs31)
            clear hs31 HS30 Hs9 HW0 HW1
            have k10 := sep_ceAt (i := 2) HS31.out rfl 10 rfl
            have y10 := sep_ceFrozen (i := 2) HS31.out rfl 10
            go_wp2_with fail
            have hs32 := sep_ceSet (i := 2) HS31.out rfl 10 (.bool false)
            obtain ⟨w32, HW32⟩ : ∃ W, Hid (w31.setCell ⟨g3, 10, none⟩ (.bool false) = W) := ⟨_, Lib.hid rfl⟩
            rw [HW32.out] at hs32 ⊢
            have HS32 := Lib.hid (show Sep w w32 [Ce w.heap.size 30 #[.int .i64 0, .int .i64 0, .int .u64 0, .int .u64 0, .int .i64 0, .int .u64 0, .int .u64 0, .slice none 0 0, .int .u64 0, .slice none 0 0, .bool false], Rd g2 s9.1 s9.2, Ce g3 30 #[.int .i64 (kk : Int), .int .i64 (nn : Int), .int .u64 (pi : Int), .int .u64 (rr : Int), .int .i64 (sn : Int), .int .u64 (si : Int), .int .u64 0, .slice none 0 0, .int .u64 0, .slice SA l.length sc, .bool false], Uv (.slice SA l.length sc) l] from hs32)
            clear hs32 HS31 y10 k10 ew
            by_cases hen : rEnd s9.1 s9.2 = true
            · refine (sep_gEb (i := 1) (s := s9) (z := 3) HS32.out rfl hen rfl).mono ?_
              rintro e w9 ⟨rfl, hs9⟩
              have HS9 := Lib.hid (show Sep w w9 [Ce w.heap.size 30 #[.int .i64 0, .int .i64 0, .int .u64 0, .int .u64 0, .int .i64 0, .int .u64 0, .int .u64 0, .slice none 0 0, .int .u64 0, .slice none 0 0, .bool false], Rd g2 s9.1 true, Ce g3 30 #[.int .i64 (kk : Int), .int .i64 (nn : Int), .int .u64 (pi : Int), .int .u64 (rr : Int), .int .i64 (sn : Int), .int .u64 (si : Int), .int .u64 0, .slice none 0 0, .int .u64 0, .slice SA l.length sc, .bool false], Uv (.slice SA l.length sc) l] from hs9)
              clear hs9 HS32
              have k0 := sep_ceAt (i := 0) HS9.out rfl 0 rfl
              have k1 := sep_ceAt (i := 0) HS9.out rfl 1 rfl
              have k2 := sep_ceAt (i := 0) HS9.out rfl 2 rfl
              have k3 := sep_ceAt (i := 0) HS9.out rfl 3 rfl
              have k4 := sep_ceAt (i := 0) HS9.out rfl 4 rfl
              have k5 := sep_ceAt (i := 0) HS9.out rfl 5 rfl
              have k6 := sep_ceAt (i := 0) HS9.out rfl 6 rfl
              have k7 := sep_ceAt (i := 0) HS9.out rfl 7 rfl
              have k8 := sep_ceAt (i := 0) HS9.out rfl 8 rfl
              have k9 := sep_ceAt (i := 0) HS9.out rfl 9 rfl
              have k10 := sep_ceAt (i := 0) HS9.out rfl 10 rfl
              have y0 := sep_ceFrozen (i := 0) HS9.out rfl 0
              have y1 := sep_ceFrozen (i := 0) HS9.out rfl 1
              have y2 := sep_ceFrozen (i := 0) HS9.out rfl 2
              have y3 := sep_ceFrozen (i := 0) HS9.out rfl 3
              have y4 := sep_ceFrozen (i := 0) HS9.out rfl 4
              have y5 := sep_ceFrozen (i := 0) HS9.out rfl 5
              have y6 := sep_ceFrozen (i := 0) HS9.out rfl 6
              have y7 := sep_ceFrozen (i := 0) HS9.out rfl 7
              have y8 := sep_ceFrozen (i := 0) HS9.out rfl 8
              have y9 := sep_ceFrozen (i := 0) HS9.out rfl 9
              have y10 := sep_ceFrozen (i := 0) HS9.out rfl 10
              go_wp2_with fail
              obtain ⟨_, hs2⟩ := sep_put11 (i := 0) HS9.out rfl (.int .i64 0) (.int .i64 0) (.int .u64 0) (.int .u64 0) (.int .i64 0) (.int .u64 0) (.int .u64 0) (.slice none 0 0) (.int .u64 0) (.slice none 0 0) (.bool false)
              refine bodyPost_ret (v := .tuple #[.agg #[.int .i64 0, .int .i64 0, .int .u64 0, .int .u64 0, .int .i64 0, .int .u64 0, .int .u64 0, .slice none 0 0, .int .u64 0, .slice none 0 0, .bool false], .int .i64 3]) (by simp [results, Try.results18, go_sem, k0, k1, k2, k3, k4, k5, k6, k7, k8, k9, k10]) rfl ?_
              exact .inr ⟨fun x hx => (by have h := ((isLt_rd b x).1 hx).1; rw [HW.out] at h; rw [h] at hen; cases hen), rfl, hs2.bel⟩
            · have HEN : Hid (rEnd s9.1 s9.2 = false) := Lib.hid (by simpa using hen)
              clear hen
              refine (sep_gEb (i := 1) (s := s9) (z := 0) HS32.out rfl HEN.out rfl).mono ?_
              rintro e w9 ⟨rfl, hs9⟩
              have HS9 := Lib.hid (show Sep w w9 [Ce w.heap.size 30 #[.int .i64 0, .int .i64 0, .int .u64 0, .int .u64 0, .int .i64 0, .int .u64 0, .int .u64 0, .slice none 0 0, .int .u64 0, .slice none 0 0, .bool false], Rd g2 s9.1 false, Ce g3 30 #[.int .i64 (kk : Int), .int .i64 (nn : Int), .int .u64 (pi : Int), .int .u64 (rr : Int), .int .i64 (sn : Int), .int .u64 (si : Int), .int .u64 0, .slice none 0 0, .int .u64 0, .slice SA l.length sc, .bool false], Uv (.slice SA l.length sc) l] from hs9)
              clear hs9 HS32
              have z0 := sep_ceAt (i := 2) HS9.out rfl 0 rfl
              have z1 := sep_ceAt (i := 2) HS9.out rfl 1 rfl
              have z2 := sep_ceAt (i := 2) HS9.out rfl 2 rfl
              have z3 := sep_ceAt (i := 2) HS9.out rfl 3 rfl
              have z4 := sep_ceAt (i := 2) HS9.out rfl 4 rfl
              have z5 := sep_ceAt (i := 2) HS9.out rfl 5 rfl
              have z6 := sep_ceAt (i := 2) HS9.out rfl 6 rfl
              have z7 := sep_ceAt (i := 2) HS9.out rfl 7 rfl
              have z8 := sep_ceAt (i := 2) HS9.out rfl 8 rfl
              have z9 := sep_ceAt (i := 2) HS9.out rfl 9 rfl
              have z10 := sep_ceAt (i := 2) HS9.out rfl 10 rfl
              go_wp2_with fail
              clear z0 z1 z2 z3 z4 z5 z6 z7 z8 z9 z10
              by_cases hmy : (Lt.mk kk nn pi rr sn si 0 [] 0 l false).may = true
              · have HMY := Lib.hid hmy
                clear hmy
                refine (mayL (w := w9) (x := (Lt.mk kk nn pi rr sn si 0 [] 0 l false)) (A := none) (c := 0) (A2 := SA) (c2 := sc) (B := w9.heap.size) HMY.out (by obtain ⟨A9, c9, e9, _, _, h9⟩ := OwnU.form (sep_uvOwn HS9.out (i := 3) rfl); injection e9 with e9 _ _; subst e9; exact h9) (Nat.le_refl _) (by simp <;> omega) (by show l.length ≤ 1000000; omega) (fun y hy => by have := HLT.out y hy; omega)).mono ?_
                rintro e w10 ⟨rfl, hb10⟩
                have HS10 := Lib.hid (HS9.out.grow hb10)
                clear HS9 hb10
                have z0 := sep_ceAt (i := 2) HS10.out rfl 0 rfl
                have z1 := sep_ceAt (i := 2) HS10.out rfl 1 rfl
                have z2 := sep_ceAt (i := 2) HS10.out rfl 2 rfl
                have z3 := sep_ceAt (i := 2) HS10.out rfl 3 rfl
                have z4 := sep_ceAt (i := 2) HS10.out rfl 4 rfl
                have z5 := sep_ceAt (i := 2) HS10.out rfl 5 rfl
                have z6 := sep_ceAt (i := 2) HS10.out rfl 6 rfl
                have z7 := sep_ceAt (i := 2) HS10.out rfl 7 rfl
                have z8 := sep_ceAt (i := 2) HS10.out rfl 8 rfl
                have z9 := sep_ceAt (i := 2) HS10.out rfl 9 rfl
                have z10 := sep_ceAt (i := 2) HS10.out rfl 10 rfl
                have k0 := sep_ceAt (i := 0) HS10.out rfl 0 rfl
                have k1 := sep_ceAt (i := 0) HS10.out rfl 1 rfl
                have k2 := sep_ceAt (i := 0) HS10.out rfl 2 rfl
                have k3 := sep_ceAt (i := 0) HS10.out rfl 3 rfl
                have k4 := sep_ceAt (i := 0) HS10.out rfl 4 rfl
                have k5 := sep_ceAt (i := 0) HS10.out rfl 5 rfl
                have k6 := sep_ceAt (i := 0) HS10.out rfl 6 rfl
                have k7 := sep_ceAt (i := 0) HS10.out rfl 7 rfl
                have k8 := sep_ceAt (i := 0) HS10.out rfl 8 rfl
                have k9 := sep_ceAt (i := 0) HS10.out rfl 9 rfl
                have k10 := sep_ceAt (i := 0) HS10.out rfl 10 rfl
                have y0 := sep_ceFrozen (i := 0) HS10.out rfl 0
                have y1 := sep_ceFrozen (i := 0) HS10.out rfl 1
                have y2 := sep_ceFrozen (i := 0) HS10.out rfl 2
                have y3 := sep_ceFrozen (i := 0) HS10.out rfl 3
                have y4 := sep_ceFrozen (i := 0) HS10.out rfl 4
                have y5 := sep_ceFrozen (i := 0) HS10.out rfl 5
                have y6 := sep_ceFrozen (i := 0) HS10.out rfl 6
                have y7 := sep_ceFrozen (i := 0) HS10.out rfl 7
                have y8 := sep_ceFrozen (i := 0) HS10.out rfl 8
                have y9 := sep_ceFrozen (i := 0) HS10.out rfl 9
                have y10 := sep_ceFrozen (i := 0) HS10.out rfl 10
                go_wp2_with fail
                obtain ⟨_, hs2⟩ := sep_put11 (i := 0) HS10.out rfl (.int .i64 (kk : Int)) (.int .i64 (nn : Int)) (.int .u64 (pi : Int)) (.int .u64 (rr : Int)) (.int .i64 (sn : Int)) (.int .u64 (si : Int)) (.int .u64 0) (.slice none 0 0) (.int .u64 0) (.slice SA l.length sc) (.bool false)
                refine bodyPost_ret (v := .tuple #[.agg #[.int .i64 (kk : Int), .int .i64 (nn : Int), .int .u64 (pi : Int), .int .u64 (rr : Int), .int .i64 (sn : Int), .int .u64 (si : Int), .int .u64 0, .slice none 0 0, .int .u64 0, .slice SA l.length sc, .bool false], .int .i64 0]) (by simp [results, Try.results18, go_sem, k0, k1, k2, k3, k4, k5, k6, k7, k8, k9, k10]) rfl ?_
                have hF : rdLt b = (Lt.mk kk nn pi rr sn si 0 [] 0 l false) := by
                  unfold rdLt
                  rw [HK.out, HP.out, HI.out, HN.out, HB.out, HC.out, HX.out, HW.out]
                exact .inl ⟨(Lt.mk kk nn pi rr sn si 0 [] 0 l false), none, 0, SA, sc, (isLt_rd b _).2 ⟨by rw [HW.out]; exact HEN.out, by rw [hF]; exact HMY.out, hF.symm⟩, rfl, .inl ⟨rfl, rfl, rfl⟩, sep_uvOwn hs2 (i := 3) rfl, hs2.bel⟩
              · have HMN : Hid ((Lt.mk kk nn pi rr sn si 0 [] 0 l false).may = false) := Lib.hid (by simpa using hmy)
                clear hmy
                refine (mayL (w := w9) (x := (Lt.mk kk nn pi rr sn si 0 [] 0 l false)) (A := none) (c := 0) (A2 := SA) (c2 := sc) (B := w9.heap.size) HMN.out (by obtain ⟨A9, c9, e9, _, _, h9⟩ := OwnU.form (sep_uvOwn HS9.out (i := 3) rfl); injection e9 with e9 _ _; subst e9; exact h9) (Nat.le_refl _) (by simp <;> omega) (by show l.length ≤ 1000000; omega) (fun y hy => by have := HLT.out y hy; omega)).mono ?_
                rintro e w10 ⟨rfl, hb10⟩
                have HS10 := Lib.hid (HS9.out.grow hb10)
                clear HS9 hb10
                have k0 := sep_ceAt (i := 0) HS10.out rfl 0 rfl
                have k1 := sep_ceAt (i := 0) HS10.out rfl 1 rfl
                have k2 := sep_ceAt (i := 0) HS10.out rfl 2 rfl
                have k3 := sep_ceAt (i := 0) HS10.out rfl 3 rfl
                have k4 := sep_ceAt (i := 0) HS10.out rfl 4 rfl
                have k5 := sep_ceAt (i := 0) HS10.out rfl 5 rfl
                have k6 := sep_ceAt (i := 0) HS10.out rfl 6 rfl
                have k7 := sep_ceAt (i := 0) HS10.out rfl 7 rfl
                have k8 := sep_ceAt (i := 0) HS10.out rfl 8 rfl
                have k9 := sep_ceAt (i := 0) HS10.out rfl 9 rfl
                have k10 := sep_ceAt (i := 0) HS10.out rfl 10 rfl
                have y0 := sep_ceFrozen (i := 0) HS10.out rfl 0
                have y1 := sep_ceFrozen (i := 0) HS10.out rfl 1
                have y2 := sep_ceFrozen (i := 0) HS10.out rfl 2
                have y3 := sep_ceFrozen (i := 0) HS10.out rfl 3
                have y4 := sep_ceFrozen (i := 0) HS10.out rfl 4
                have y5 := sep_ceFrozen (i := 0) HS10.out rfl 5
                have y6 := sep_ceFrozen (i := 0) HS10.out rfl 6
                have y7 := sep_ceFrozen (i := 0) HS10.out rfl 7
                have y8 := sep_ceFrozen (i := 0) HS10.out rfl 8
                have y9 := sep_ceFrozen (i := 0) HS10.out rfl 9
                have y10 := sep_ceFrozen (i := 0) HS10.out rfl 10
                go_wp2_with fail
                obtain ⟨_, hs2⟩ := sep_put11 (i := 0) HS10.out rfl (.int .i64 0) (.int .i64 0) (.int .u64 0) (.int .u64 0) (.int .i64 0) (.int .u64 0) (.int .u64 0) (.slice none 0 0) (.int .u64 0) (.slice none 0 0) (.bool false)
                refine bodyPost_ret (v := .tuple #[.agg #[.int .i64 0, .int .i64 0, .int .u64 0, .int .u64 0, .int .i64 0, .int .u64 0, .int .u64 0, .slice none 0 0, .int .u64 0, .slice none 0 0, .bool false], .int .i64 3]) (by simp [results, Try.results18, go_sem, k0, k1, k2, k3, k4, k5, k6, k7, k8, k9, k10]) rfl ?_
                exact .inr ⟨fun x hx => (by
                  have h := ((isLt_rd b x).1 hx).2.1
                  have hF : rdLt b = (Lt.mk kk nn pi rr sn si 0 [] 0 l false) := by
                    unfold rdLt
                    rw [HK.out, HP.out, HI.out, HN.out, HB.out, HC.out, HX.out, HW.out]
                  rw [hF, HMN.out] at h
                  cases h), rfl, hs2.bel⟩
          by_cases hw2 : wv = 1
          · have ew : (((wv : Nat) : Int) == 1) = true := by simp; omega
            have HW : Hid (rdW b = (true, s8)) := Lib.hid (by rw [HW0.out, decide_eq_true hw2, decide_eq_false hw1, Bool.or_false])
            have HW2 := Lib.hid hw2
            clear hw2
            have HS31 := HS30
            clear HS30 HW0
            have k10 := sep_ceAt (i := 2) HS31.out rfl 10 rfl
            have y10 := sep_ceFrozen (i := 2) HS31.out rfl 10
            go_wp2_with fail
            have hs32 := sep_ceSet (i := 2) HS31.out rfl 10 (.bool true)
            obtain ⟨w32, HW32⟩ : ∃ W, Hid (w30.setCell ⟨g3, 10, none⟩ (.bool true) = W) := ⟨_, Lib.hid rfl⟩
            rw [HW32.out] at hs32 ⊢
            have HS32 := Lib.hid (show Sep w w32 [Ce w.heap.size 30 #[.int .i64 0, .int .i64 0, .int .u64 0, .int .u64 0, .int .i64 0, .int .u64 0, .int .u64 0, .slice none 0 0, .int .u64 0, .slice none 0 0, .bool false], Rd g2 s8.1 s8.2, Ce g3 30 #[.int .i64 (kk : Int), .int .i64 (nn : Int), .int .u64 (pi : Int), .int .u64 (rr : Int), .int .i64 (sn : Int), .int .u64 (si : Int), .int .u64 0, .slice none 0 0, .int .u64 0, .slice SA l.length sc, .bool true], Uv (.slice SA l.length sc) l] from hs32)
            clear hs32 HS31 y10 k10 ew
            by_cases hen : rEnd s8.1 s8.2 = true
            · refine (sep_gEb (i := 1) (s := s8) (z := 3) HS32.out rfl hen rfl).mono ?_
              rintro e w9 ⟨rfl, hs9⟩
              have HS9 := Lib.hid (show Sep w w9 [Ce w.heap.size 30 #[.int .i64 0, .int .i64 0, .int .u64 0, .int .u64 0, .int .i64 0, .int .u64 0, .int .u64 0, .slice none 0 0, .int .u64 0, .slice none 0 0, .bool false], Rd g2 s8.1 true, Ce g3 30 #[.int .i64 (kk : Int), .int .i64 (nn : Int), .int .u64 (pi : Int), .int .u64 (rr : Int), .int .i64 (sn : Int), .int .u64 (si : Int), .int .u64 0, .slice none 0 0, .int .u64 0, .slice SA l.length sc, .bool true], Uv (.slice SA l.length sc) l] from hs9)
              clear hs9 HS32
              have k0 := sep_ceAt (i := 0) HS9.out rfl 0 rfl
              have k1 := sep_ceAt (i := 0) HS9.out rfl 1 rfl
              have k2 := sep_ceAt (i := 0) HS9.out rfl 2 rfl
              have k3 := sep_ceAt (i := 0) HS9.out rfl 3 rfl
              have k4 := sep_ceAt (i := 0) HS9.out rfl 4 rfl
              have k5 := sep_ceAt (i := 0) HS9.out rfl 5 rfl
              have k6 := sep_ceAt (i := 0) HS9.out rfl 6 rfl
              have k7 := sep_ceAt (i := 0) HS9.out rfl 7 rfl
              have k8 := sep_ceAt (i := 0) HS9.out rfl 8 rfl
              have k9 := sep_ceAt (i := 0) HS9.out rfl 9 rfl
              have k10 := sep_ceAt (i := 0) HS9.out rfl 10 rfl
              have y0 := sep_ceFrozen (i := 0) HS9.out rfl 0
              have y1 := sep_ceFrozen (i := 0) HS9.out rfl 1
              have y2 := sep_ceFrozen (i := 0) HS9.out rfl 2
              have y3 := sep_ceFrozen (i := 0) HS9.out rfl 3
              have y4 := sep_ceFrozen (i := 0) HS9.out rfl 4
              have y5 := sep_ceFrozen (i := 0) HS9.out rfl 5
              have y6 := sep_ceFrozen (i := 0) HS9.out rfl 6
              have y7 := sep_ceFrozen (i := 0) HS9.out rfl 7
              have y8 := sep_ceFrozen (i := 0) HS9.out rfl 8
              have y9 := sep_ceFrozen (i := 0) HS9.out rfl 9
              have y10 := sep_ceFrozen (i := 0) HS9.out rfl 10
              go_wp2_with fail
              obtain ⟨_, hs2⟩ := sep_put11 (i := 0) HS9.out rfl (.int .i64 0) (.int .i64 0) (.int .u64 0) (.int .u64 0) (.int .i64 0) (.int .u64 0) (.int .u64 0) (.slice none 0 0) (.int .u64 0) (.slice none 0 0) (.bool false)
              refine bodyPost_ret (v := .tuple #[.agg #[.int .i64 0, .int .i64 0, .int .u64 0, .int .u64 0, .int .i64 0, .int .u64 0, .int .u64 0, .slice none 0 0, .int .u64 0, .slice none 0 0, .bool false], .int .i64 3]) (by simp [results, Try.results18, go_sem, k0, k1, k2, k3, k4, k5, k6, k7, k8, k9, k10]) rfl ?_
              exact .inr ⟨fun x hx => (by have h := ((isLt_rd b x).1 hx).1; rw [HW.out] at h; rw [h] at hen; cases hen), rfl, hs2.bel⟩
            · have HEN : Hid (rEnd s8.1 s8.2 = false) := Lib.hid (by simpa using hen)
              clear hen
              refine (sep_gEb (i := 1) (s := s8) (z := 0) HS32.out rfl HEN.out rfl).mono ?_
              rintro e w9 ⟨rfl, hs9⟩
              have HS9 := Lib.hid (show Sep w w9 [Ce w.heap.size 30 #[.int .i64 0, .int .i64 0, .int .u64 0, .int .u64 0, .int .i64 0, .int .u64 0, .int .u64 0, .slice none 0 0, .int .u64 0, .slice none 0 0, .bool false], Rd g2 s8.1 false, Ce g3 30 #[.int .i64 (kk : Int), .int .i64 (nn : Int), .int .u64 (pi : Int), .int .u64 (rr : Int), .int .i64 (sn : Int), .int .u64 (si : Int), .int .u64 0, .slice none 0 0, .int .u64 0, .slice SA l.length sc, .bool true], Uv (.slice SA l.length sc) l] from hs9)
              clear hs9 HS32
              have z0 := sep_ceAt (i := 2) HS9.out rfl 0 rfl
              have z1 := sep_ceAt (i := 2) HS9.out rfl 1 rfl
              have z2 := sep_ceAt (i := 2) HS9.out rfl 2 rfl
              have z3 := sep_ceAt (i := 2) HS9.out rfl 3 rfl
              have z4 := sep_ceAt (i := 2) HS9.out rfl 4 rfl
              have z5 := sep_ceAt (i := 2) HS9.out rfl 5 rfl
              have z6 := sep_ceAt (i := 2) HS9.out rfl 6 rfl
              have z7 := sep_ceAt (i := 2) HS9.out rfl 7 rfl
              have z8 := sep_ceAt (i := 2) HS9.out rfl 8 rfl
              have z9 := sep_ceAt (i := 2) HS9.out rfl 9 rfl
              have z10 := sep_ceAt (i := 2) HS9.out rfl 10 rfl
              go_wp2_with fail
              clear z0 z1 z2 z3 z4 z5 z6 z7 z8 z9 z10
              by_cases hmy : (Lt.mk kk nn pi rr sn si 0 [] 0 l true).may = true
              · have HMY := Lib.hid hmy
                clear hmy
                refine (mayL (w := w9) (x := (Lt.mk kk nn pi rr sn si 0 [] 0 l true)) (A := none) (c := 0) (A2 := SA) (c2 := sc) (B := w9.heap.size) HMY.out (by obtain ⟨A9, c9, e9, _, _, h9⟩ := OwnU.form (sep_uvOwn HS9.out (i := 3) rfl); injection e9 with e9 _ _; subst e9; exact h9) (Nat.le_refl _) (by simp <;> omega) (by show l.length ≤ 1000000; omega) (fun y hy => by have := HLT.out y hy; omega)).mono ?_
                rintro e w10 ⟨rfl, hb10⟩
                have HS10 := Lib.hid (HS9.out.grow hb10)
                clear HS9 hb10
                have z0 := sep_ceAt (i := 2) HS10.out rfl 0 rfl
                have z1 := sep_ceAt (i := 2) HS10.out rfl 1 rfl
                have z2 := sep_ceAt (i := 2) HS10.out rfl 2 rfl
                have z3 := sep_ceAt (i := 2) HS10.out rfl 3 rfl
                have z4 := sep_ceAt (i := 2) HS10.out rfl 4 rfl
                have z5 := sep_ceAt (i := 2) HS10.out rfl 5 rfl
                have z6 := sep_ceAt (i := 2) HS10.out rfl 6 rfl
                have z7 := sep_ceAt (i := 2) HS10.out rfl 7 rfl
                have z8 := sep_ceAt (i := 2) HS10.out rfl 8 rfl
                have z9 := sep_ceAt (i := 2) HS10.out rfl 9 rfl
                have z10 := sep_ceAt (i := 2) HS10.out rfl 10 rfl
                have k0 := sep_ceAt (i := 0) HS10.out rfl 0 rfl
                have k1 := sep_ceAt (i := 0) HS10.out rfl 1 rfl
                have k2 := sep_ceAt (i := 0) HS10.out rfl 2 rfl
                have k3 := sep_ceAt (i := 0) HS10.out rfl 3 rfl
                have k4 := sep_ceAt (i := 0) HS10.out rfl 4 rfl
                have k5 := sep_ceAt (i := 0) HS10.out rfl 5 rfl
                have k6 := sep_ceAt (i := 0) HS10.out rfl 6 rfl
                have k7 := sep_ceAt (i := 0) HS10.out rfl 7 rfl
                have k8 := sep_ceAt (i := 0) HS10.out rfl 8 rfl
                have k9 := sep_ceAt (i := 0) HS10.out rfl 9 rfl
                have k10 := sep_ceAt (i := 0) HS10.out rfl 10 rfl
                have y0 := sep_ceFrozen (i := 0) HS10.out rfl 0
                have y1 := sep_ceFrozen (i := 0) HS10.out rfl 1
                have y2 := sep_ceFrozen (i := 0) HS10.out rfl 2
                have y3 := sep_ceFrozen (i := 0) HS10.out rfl 3
                have y4 := sep_ceFrozen (i := 0) HS10.out rfl 4
                have y5 := sep_ceFrozen (i := 0) HS10.out rfl 5
                have y6 := sep_ceFrozen (i := 0) HS10.out rfl 6
                have y7 := sep_ceFrozen (i := 0) HS10.out rfl 7
                have y8 := sep_ceFrozen (i := 0) HS10.out rfl 8
                have y9 := sep_ceFrozen (i := 0) HS10.out rfl 9
                have y10 := sep_ceFrozen (i := 0) HS10.out rfl 10
                go_wp2_with fail
                obtain ⟨_, hs2⟩ := sep_put11 (i := 0) HS10.out rfl (.int .i64 (kk : Int)) (.int .i64 (nn : Int)) (.int .u64 (pi : Int)) (.int .u64 (rr : Int)) (.int .i64 (sn : Int)) (.int .u64 (si : Int)) (.int .u64 0) (.slice none 0 0) (.int .u64 0) (.slice SA l.length sc) (.bool true)
                refine bodyPost_ret (v := .tuple #[.agg #[.int .i64 (kk : Int), .int .i64 (nn : Int), .int .u64 (pi : Int), .int .u64 (rr : Int), .int .i64 (sn : Int), .int .u64 (si : Int), .int .u64 0, .slice none 0 0, .int .u64 0, .slice SA l.length sc, .bool true], .int .i64 0]) (by simp [results, Try.results18, go_sem, k0, k1, k2, k3, k4, k5, k6, k7, k8, k9, k10]) rfl ?_
                have hF : rdLt b = (Lt.mk kk nn pi rr sn si 0 [] 0 l true) := by
                  unfold rdLt
                  rw [HK.out, HP.out, HI.out, HN.out, HB.out, HC.out, HX.out, HW.out]
                exact .inl ⟨(Lt.mk kk nn pi rr sn si 0 [] 0 l true), none, 0, SA, sc, (isLt_rd b _).2 ⟨by rw [HW.out]; exact HEN.out, by rw [hF]; exact HMY.out, hF.symm⟩, rfl, .inl ⟨rfl, rfl, rfl⟩, sep_uvOwn hs2 (i := 3) rfl, hs2.bel⟩
              · have HMN : Hid ((Lt.mk kk nn pi rr sn si 0 [] 0 l true).may = false) := Lib.hid (by simpa using hmy)
                clear hmy
                refine (mayL (w := w9) (x := (Lt.mk kk nn pi rr sn si 0 [] 0 l true)) (A := none) (c := 0) (A2 := SA) (c2 := sc) (B := w9.heap.size) HMN.out (by obtain ⟨A9, c9, e9, _, _, h9⟩ := OwnU.form (sep_uvOwn HS9.out (i := 3) rfl); injection e9 with e9 _ _; subst e9; exact h9) (Nat.le_refl _) (by simp <;> omega) (by show l.length ≤ 1000000; omega) (fun y hy => by have := HLT.out y hy; omega)).mono ?_
                rintro e w10 ⟨rfl, hb10⟩
                have HS10 := Lib.hid (HS9.out.grow hb10)
                clear HS9 hb10
                have k0 := sep_ceAt (i := 0) HS10.out rfl 0 rfl
                have k1 := sep_ceAt (i := 0) HS10.out rfl 1 rfl
                have k2 := sep_ceAt (i := 0) HS10.out rfl 2 rfl
                have k3 := sep_ceAt (i := 0) HS10.out rfl 3 rfl
                have k4 := sep_ceAt (i := 0) HS10.out rfl 4 rfl
                have k5 := sep_ceAt (i := 0) HS10.out rfl 5 rfl
                have k6 := sep_ceAt (i := 0) HS10.out rfl 6 rfl
                have k7 := sep_ceAt (i := 0) HS10.out rfl 7 rfl
                have k8 := sep_ceAt (i := 0) HS10.out rfl 8 rfl
                have k9 := sep_ceAt (i := 0) HS10.out rfl 9 rfl
                have k10 := sep_ceAt (i := 0) HS10.out rfl 10 rfl
                have y0 := sep_ceFrozen (i := 0) HS10.out rfl 0
                have y1 := sep_ceFrozen (i := 0) HS10.out rfl 1
                have y2 := sep_ceFrozen (i := 0) HS10.out rfl 2
                have y3 := sep_ceFrozen (i := 0) HS10.out rfl 3
                have y4 := sep_ceFrozen (i := 0) HS10.out rfl 4
                have y5 := sep_ceFrozen (i := 0) HS10.out rfl 5
                have y6 := sep_ceFrozen (i := 0) HS10.out rfl 6
                have y7 := sep_ceFrozen (i := 0) HS10.out rfl 7
                have y8 := sep_ceFrozen (i := 0) HS10.out rfl 8
                have y9 := sep_ceFrozen (i := 0) HS10.out rfl 9
                have y10 := sep_ceFrozen (i := 0) HS10.out rfl 10
                go_wp2_with fail
                obtain ⟨_, hs2⟩ := sep_put11 (i := 0) HS10.out rfl (.int .i64 0) (.int .i64 0) (.int .u64 0) (.int .u64 0) (.int .i64 0) (.int .u64 0) (.int .u64 0) (.slice none 0 0) (.int .u64 0) (.slice none 0 0) (.bool false)
                refine bodyPost_ret (v := .tuple #[.agg #[.int .i64 0, .int .i64 0, .int .u64 0, .int .u64 0, .int .i64 0, .int .u64 0, .int .u64 0, .slice none 0 0, .int .u64 0, .slice none 0 0, .bool false], .int .i64 3]) (by simp [results, Try.results18, go_sem, k0, k1, k2, k3, k4, k5, k6, k7, k8, k9, k10]) rfl ?_
                exact .inr ⟨fun x hx => (by
                  have h := ((isLt_rd b x).1 hx).2.1
                  have hF : rdLt b = (Lt.mk kk nn pi rr sn si 0 [] 0 l true) := by
                    unfold rdLt
                    rw [HK.out, HP.out, HI.out, HN.out, HB.out, HC.out, HX.out, HW.out]
                  rw [hF, HMN.out] at h
                  cases h), rfl, hs2.bel⟩
          · have ew : (((wv : Nat) : Int) == 1) = false := by simp; omega
            have HW : Hid (rdW b = (false, s8)) := Lib.hid (by rw [HW0.out, decide_eq_false hw2, decide_eq_false hw1, Bool.or_false])
            have HW2 := Lib.hid hw2
            clear hw2
            have HS31 := HS30
            clear HS30 HW0
            have k10 := sep_ceAt (i := 2) HS31.out rfl 10 rfl
            have y10 := sep_ceFrozen (i := 2) HS31.out rfl 10
            go_wp2_with fail
            have hs32 := sep_ceSet (i := 2) HS31.out rfl 10 (.bool false)
            obtain ⟨w32, HW32⟩ : ∃ W, Hid (w30.setCell ⟨g3, 10, none⟩ (.bool false) = W) := ⟨_, Lib.hid rfl⟩
            rw [HW32.out] at hs32 ⊢
            have HS32 := Lib.hid (show Sep w w32 [Ce w.heap.size 30 #[.int .i64 0, .int .i64 0, .int .u64 0, .int .u64 0, .int .i64 0, .int .u64 0, .int .u64 0, .slice none 0 0, .int .u64 0, .slice none 0 0, .bool false], Rd g2 s8.1 s8.2, Ce g3 30 #[.int .i64 (kk : Int), .int .i64 (nn : Int), .int .u64 (pi : Int), .int .u64 (rr : Int), .int .i64 (sn : Int), .int .u64 (si : Int), .int .u64 0, .slice none 0 0, .int .u64 0, .slice SA l.length sc, .bool false], Uv (.slice SA l.length sc) l] from hs32)
            clear hs32 HS31 y10 k10 ew
            by_cases hen : rEnd s8.1 s8.2 = true
            · refine (sep_gEb (i := 1) (s := s8) (z := 3) HS32.out rfl hen rfl).mono ?_
              rintro e w9 ⟨rfl, hs9⟩
              have HS9 := Lib.hid (show Sep w w9 [Ce w.heap.size 30 #[.int .i64 0, .int .i64 0, .int .u64 0, .int .u64 0, .int .i64 0, .int .u64 0, .int .u64 0, .slice none 0 0, .int .u64 0, .slice none 0 0, .bool false], Rd g2 s8.1 true, Ce g3 30 #[.int .i64 (kk : Int), .int .i64 (nn : Int), .int .u64 (pi : Int), .int .u64 (rr : Int), .int .i64 (sn : Int), .int .u64 (si : Int), .int .u64 0, .slice none 0 0, .int .u64 0, .slice SA l.length sc, .bool false], Uv (.slice SA l.length sc) l] from hs9)
              clear hs9 HS32
              have k0 := sep_ceAt (i := 0) HS9.out rfl 0 rfl
              have k1 := sep_ceAt (i := 0) HS9.out rfl 1 rfl
              have k2 := sep_ceAt (i := 0) HS9.out rfl 2 rfl
              have k3 := sep_ceAt (i := 0) HS9.out rfl 3 rfl
              have k4 := sep_ceAt (i := 0) HS9.out rfl 4 rfl
              have k5 := sep_ceAt (i := 0) HS9.out rfl 5 rfl
              have k6 := sep_ceAt (i := 0) HS9.out rfl 6 rfl
              have k7 := sep_ceAt (i := 0) HS9.out rfl 7 rfl
              have k8 := sep_ceAt (i := 0) HS9.out rfl 8 rfl
              have k9 := sep_ceAt (i := 0) HS9.out rfl 9 rfl
              have k10 := sep_ceAt (i := 0) HS9.out rfl 10 rfl
              have y0 := sep_ceFrozen (i := 0) HS9.out rfl 0
              have y1 := sep_ceFrozen (i := 0) HS9.out rfl 1
              have y2 := sep_ceFrozen (i := 0) HS9.out rfl 2
              have y3 := sep_ceFrozen (i := 0) HS9.out rfl 3
              have y4 := sep_ceFrozen (i := 0) HS9.out rfl 4
              have y5 := sep_ceFrozen (i := 0) HS9.out rfl 5
              have y6 := sep_ceFrozen (i := 0) HS9.out rfl 6
              have y7 := sep_ceFrozen (i := 0) HS9.out rfl 7
              have y8 := sep_ceFrozen (i := 0) HS9.out rfl 8
              have y9 := sep_ceFrozen (i := 0) HS9.out rfl 9
              have y10 := sep_ceFrozen (i := 0) HS9.out rfl 10
              go_wp2_with fail
              obtain ⟨_, hs2⟩ := sep_put11 (i := 0) HS9.out rfl (.int .i64 0) (.int .i64 0) (.int .u64 0) (.int .u64 0) (.int .i64 0) (.int .u64 0) (.int .u64 0) (.slice none 0 0) (.int .u64 0) (.slice none 0 0) (.bool false)
              refine bodyPost_ret (v := .tuple #[.agg #[.int .i64 0, .int .i64 0, .int .u64 0, .int .u64 0, .int .i64 0, .int .u64 0, .int .u64 0, .slice none 0 0, .int .u64 0, .slice none 0 0, .bool false], .int .i64 3]) (by simp [results, Try.results18, go_sem, k0, k1, k2, k3, k4, k5, k6, k7, k8, k9, k10]) rfl ?_
              exact .inr ⟨fun x hx => (by have h := ((isLt_rd b x).1 hx).1; rw [HW.out] at h; rw [h] at hen; cases hen), rfl, hs2.bel⟩
            · have HEN : Hid (rEnd s8.1 s8.2 = false) := Lib.hid (by simpa using hen)
              clear hen
              refine (sep_gEb (i := 1) (s := s8) (z := 0) HS32.out rfl HEN.out rfl).mono ?_
              rintro e w9 ⟨rfl, hs9⟩
              have HS9 := Lib.hid (show Sep w w9 [Ce w.heap.size 30 #[.int .i64 0, .int .i64 0, .int .u64 0, .int .u64 0, .int .i64 0, .int .u64 0, .int .u64 0, .slice none 0 0, .int .u64 0, .slice none 0 0, .bool false], Rd g2 s8.1 false, Ce g3 30 #[.int .i64 (kk : Int), .int .i64 (nn : Int), .int .u64 (pi : Int), .int .u64 (rr : Int), .int .i64 (sn : Int), .int .u64 (si : Int), .int .u64 0, .slice none 0 0, .int .u64 0, .slice SA l.length sc, .bool false], Uv (.slice SA l.length sc) l] from hs9)
              clear hs9 HS32
              have z0 := sep_ceAt (i := 2) HS9.out rfl 0 rfl
              have z1 := sep_ceAt (i := 2) HS9.out rfl 1 rfl
              have z2 := sep_ceAt (i := 2) HS9.out rfl 2 rfl
              have z3 := sep_ceAt (i := 2) HS9.out rfl 3 rfl
              have z4 := sep_ceAt (i := 2) HS9.out rfl 4 rfl
              have z5 := sep_ceAt (i := 2) HS9.out rfl 5 rfl
              have z6 := sep_ceAt (i := 2) HS9.out rfl 6 rfl
              have z7 := sep_ceAt (i := 2) HS9.out rfl 7 rfl
              have z8 := sep_ceAt (i := 2) HS9.out rfl 8 rfl
              have z9 := sep_ceAt (i := 2) HS9.out rfl 9 rfl
              have z10 := sep_ceAt (i := 2) HS9.out rfl 10 rfl
              go_wp2_with fail
              clear z0 z1 z2 z3 z4 z5 z6 z7 z8 z9 z10
              by_cases hmy : (Lt.mk kk nn pi rr sn si 0 [] 0 l false).may = true
              · have HMY := Lib.hid hmy
                clear hmy
                refine (mayL (w := w9) (x := (Lt.mk kk nn pi rr sn si 0 [] 0 l false)) (A := none) (c := 0) (A2 := SA) (c2 := sc) (B := w9.heap.size) HMY.out (by obtain ⟨A9, c9, e9, _, _, h9⟩ := OwnU.form (sep_uvOwn HS9.out (i := 3) rfl); injection e9 with e9 _ _; subst e9; exact h9) (Nat.le_refl _) (by simp <;> omega) (by show l.length ≤ 1000000; omega) (fun y hy => by have := HLT.out y hy; omega)).mono ?_
                rintro e w10 ⟨rfl, hb10⟩
                have HS10 := Lib.hid (HS9.out.grow hb10)
                clear HS9 hb10
                have z0 := sep_ceAt (i := 2) HS10.out rfl 0 rfl
                have z1 := sep_ceAt (i := 2) HS10.out rfl 1 rfl
                have z2 := sep_ceAt (i := 2) HS10.out rfl 2 rfl
                have z3 := sep_ceAt (i := 2) HS10.out rfl 3 rfl
                have z4 := sep_ceAt (i := 2) HS10.out rfl 4 rfl
                have z5 := sep_ceAt (i := 2) HS10.out rfl 5 rfl
                have z6 := sep_ceAt (i := 2) HS10.out rfl 6 rfl
                have z7 := sep_ceAt (i := 2) HS10.out rfl 7 rfl
                have z8 := sep_ceAt (i := 2) HS10.out rfl 8 rfl
                have z9 := sep_ceAt (i := 2) HS10.out rfl 9 rfl
                have z10 := sep_ceAt (i := 2) HS10.out rfl 10 rfl
                have k0 := sep_ceAt (i := 0) HS10.out rfl 0 rfl
                have k1 := sep_ceAt (i := 0) HS10.out rfl 1 rfl
                have k2 := sep_ceAt (i := 0) HS10.out rfl 2 rfl
                have k3 := sep_ceAt (i := 0) HS10.out rfl 3 rfl
                have k4 := sep_ceAt (i := 0) HS10.out rfl 4 rfl
                have k5 := sep_ceAt (i := 0) HS10.out rfl 5 rfl
                have k6 := sep_ceAt (i := 0) HS10.out rfl 6 rfl
                have k7 := sep_ceAt (i := 0) HS10.out rfl 7 rfl
                have k8 := sep_ceAt (i := 0) HS10.out rfl 8 rfl
                have k9 := sep_ceAt (i := 0) HS10.out rfl 9 rfl
                have k10 := sep_ceAt (i := 0) HS10.out rfl 10 rfl
                have y0 := sep_ceFrozen (i := 0) HS10.out rfl 0
                have y1 := sep_ceFrozen (i := 0) HS10.out rfl 1
                have y2 := sep_ceFrozen (i := 0) HS10.out rfl 2
                have y3 := sep_ceFrozen (i := 0) HS10.out rfl 3
                have y4 := sep_ceFrozen (i := 0) HS10.out rfl 4
                have y5 := sep_ceFrozen (i := 0) HS10.out rfl 5
                have y6 := sep_ceFrozen (i := 0) HS10.out rfl 6
                have y7 := sep_ceFrozen (i := 0) HS10.out rfl 7
                have y8 := sep_ceFrozen (i := 0) HS10.out rfl 8
                have y9 := sep_ceFrozen (i := 0) HS10.out rfl 9
                have y10 := sep_ceFrozen (i := 0) HS10.out rfl 10
                go_wp2_with fail
                obtain ⟨_, hs2⟩ := sep_put11 (i := 0) HS10.out rfl (.int .i64 (kk : Int)) (.int .i64 (nn : Int)) (.int .u64 (pi : Int)) (.int .u64 (rr : Int)) (.int .i64 (sn : Int)) (.int .u64 (si : Int)) (.int .u64 0) (.slice none 0 0) (.int .u64 0) (.slice SA l.length sc) (.bool false)
                refine bodyPost_ret (v := .tuple #[.agg #[.int .i64 (kk : Int), .int .i64 (nn : Int), .int .u64 (pi : Int), .int .u64 (rr : Int), .int .i64 (sn : Int), .int .u64 (si : Int), .int .u64 0, .slice none 0 0, .int .u64 0, .slice SA l.length sc, .bool false], .int .i64 0]) (by simp [results, Try.results18, go_sem, k0, k1, k2, k3, k4, k5, k6, k7, k8, k9, k10]) rfl ?_
                have hF : rdLt b = (Lt.mk kk nn pi rr sn si 0 [] 0 l false) := by
                  unfold rdLt
                  rw [HK.out, HP.out, HI.out, HN.out, HB.out, HC.out, HX.out, HW.out]
                exact .inl ⟨(Lt.mk kk nn pi rr sn si 0 [] 0 l false), none, 0, SA, sc, (isLt_rd b _).2 ⟨by rw [HW.out]; exact HEN.out, by rw [hF]; exact HMY.out, hF.symm⟩, rfl, .inl ⟨rfl, rfl, rfl⟩, sep_uvOwn hs2 (i := 3) rfl, hs2.bel⟩
              · have HMN : Hid ((Lt.mk kk nn pi rr sn si 0 [] 0 l false).may = false) := Lib.hid (by simpa using hmy)
                clear hmy
                refine (mayL (w := w9) (x := (Lt.mk kk nn pi rr sn si 0 [] 0 l false)) (A := none) (c := 0) (A2 := SA) (c2 := sc) (B := w9.heap.size) HMN.out (by obtain ⟨A9, c9, e9, _, _, h9⟩ := OwnU.form (sep_uvOwn HS9.out (i := 3) rfl); injection e9 with e9 _ _; subst e9; exact h9) (Nat.le_refl _) (by simp <;> omega) (by show l.length ≤ 1000000; omega) (fun y hy => by have := HLT.out y hy; omega)).mono ?_
                rintro e w10 ⟨rfl, hb10⟩
                have HS10 := Lib.hid (HS9.out.grow hb10)
                clear HS9 hb10
                have k0 := sep_ceAt (i := 0) HS10.out rfl 0 rfl
                have k1 := sep_ceAt (i := 0) HS10.out rfl 1 rfl
                have k2 := sep_ceAt (i := 0) HS10.out rfl 2 rfl
                have k3 := sep_ceAt (i := 0) HS10.out rfl 3 rfl
                have k4 := sep_ceAt (i := 0) HS10.out rfl 4 rfl
                have k5 := sep_ceAt (i := 0) HS10.out rfl 5 rfl
                have k6 := sep_ceAt (i := 0) HS10.out rfl 6 rfl
                have k7 := sep_ceAt (i := 0) HS10.out rfl 7 rfl
                have k8 := sep_ceAt (i := 0) HS10.out rfl 8 rfl
                have k9 := sep_ceAt (i := 0) HS10.out rfl 9 rfl
                have k10 := sep_ceAt (i := 0) HS10.out rfl 10 rfl
                have y0 := sep_ceFrozen (i := 0) HS10.out rfl 0
                have y1 := sep_ceFrozen (i := 0) HS10.out rfl 1
                have y2 := sep_ceFrozen (i := 0) HS10.out rfl 2
                have y3 := sep_ceFrozen (i := 0) HS10.out rfl 3
                have y4 := sep_ceFrozen (i := 0) HS10.out rfl 4
                have y5 := sep_ceFrozen (i := 0) HS10.out rfl 5
                have y6 := sep_ceFrozen (i := 0) HS10.out rfl 6
                have y7 := sep_ceFrozen (i := 0) HS10.out rfl 7
                have y8 := sep_ceFrozen (i := 0) HS10.out rfl 8
                have y9 := sep_ceFrozen (i := 0) HS10.out rfl 9
                have y10 := sep_ceFrozen (i := 0) HS10.out rfl 10
                go_wp2_with fail
                obtain ⟨_, hs2⟩ := sep_put11 (i := 0) HS10.out rfl (.int .i64 0) (.int .i64 0) (.int .u64 0) (.int .u64 0) (.int .i64 0) (.int .u64 0) (.int .u64 0) (.slice none 0 0) (.int .u64 0) (.slice none 0 0) (.bool false)
                refine bodyPost_ret (v := .tuple #[.agg #[.int .i64 0, .int .i64 0, .int .u64 0, .int .u64 0, .int .i64 0, .int .u64 0, .int .u64 0, .slice none 0 0, .int .u64 0, .slice none 0 0, .bool false], .int .i64 3]) (by simp [results, Try.results18, go_sem, k0, k1, k2, k3, k4, k5, k6, k7, k8, k9, k10]) rfl ?_
                exact .inr ⟨fun x hx => (by
                  have h := ((isLt_rd b x).1 hx).2.1
                  have hF : rdLt b = (Lt.mk kk nn pi rr sn si 0 [] 0 l false) := by
                    unfold rdLt
                    rw [HK.out, HP.out, HI.out, HN.out, HB.out, HC.out, HX.out, HW.out]
                  rw [hF, HMN.out] at h
                  cases h), rfl, hs2.bel⟩
    have e7 : (((kk : Nat) : Int) == 7) = false := by simp; omega
    have e8 : (((kk : Nat) : Int) == 8) = false := by simp; omega
    have e9 : (((kk : Nat) : Int) == 9) = false := by simp; omega
    have HN : Hid (rdN b = (0, s3)) := Lib.hid (by unfold rdN; rw [HK.out, HI.out, if_neg q7])
    have HB : Hid (rdB b = ([], s3)) := Lib.hid (by unfold rdB; rw [HK.out, HN.out, if_neg q7])
    have HC : Hid (rdC b = (0, s3)) := Lib.hid (by unfold rdC; rw [HK.out, HB.out, if_neg q8])
    have HX : Hid (rdX b = ([], s3)) := Lib.hid (by unfold rdX; rw [HK.out, HC.out, if_neg (show ¬ (kk = 8 ∨ kk = 9) by omega)])
    have HW : Hid (rdW b = (false, s3)) := Lib.hid (by unfold rdW; rw [HK.out, HX.out, if_neg q9])
    go_wp2_with fail
    have hs8 := sep_ceSet (i := 2) HS7.out rfl 3 (.int .u64 (rr : Int))
    have hs8 := sep_ceSet (i := 2) hs8 rfl 4 (.int .i64 (sn : Int))
    have hs8 := sep_ceSet (i := 2) hs8 rfl 5 (.int .u64 (si : Int))
    obtain ⟨w8, HW8⟩ : ∃ W, Hid (((w7.setCell ⟨g3, 3, none⟩ (.int .u64 (rr : Int))).setCell ⟨g3, 4, none⟩ (.int .i64 (sn : Int))).setCell ⟨g3, 5, none⟩ (.int .u64 (si : Int)) = W) := ⟨_, Lib.hid rfl⟩
    rw [HW8.out] at hs8 ⊢
    have HS8 := Lib.hid (show Sep w w8 [Ce w.heap.size 30 #[.int .i64 0, .int .i64 0, .int .u64 0, .int .u64 0, .int .i64 0, .int .u64 0, .int .u64 0, .slice none 0 0, .int .u64 0, .slice none 0 0, .bool false], Rd g2 s3.1 s3.2, Ce g3 30 #[.int .i64 (kk : Int), .int .i64 (nn : Int), .int .u64 (pi : Int), .int .u64 (rr : Int), .int .i64 (sn : Int), .int .u64 (si : Int), .int .u64 0, .slice none 0 0, .int .u64 0, .slice none 0 0, .bool false]] from hs8)
    clear hs8 HS7 y3 y4 y5 k3 k4 k5 k0
    clear e7 e8 e9
    by_cases hen : rEnd s3.1 s3.2 = true
    · refine (sep_gEb (i := 1) (s := s3) (z := 3) HS8.out rfl hen rfl).mono ?_
      rintro e w9 ⟨rfl, hs9⟩
      have HS9 := Lib.hid (show Sep w w9 [Ce w.heap.size 30 #[.int .i64 0, .int .i64 0, .int .u64 0, .int .u64 0, .int .i64 0, .int .u64 0, .int .u64 0, .slice none 0 0, .int .u64 0, .slice none 0 0, .bool false], Rd g2 s3.1 true, Ce g3 30 #[.int .i64 (kk : Int), .int .i64 (nn : Int), .int .u64 (pi : Int), .int .u64 (rr : Int), .int .i64 (sn : Int), .int .u64 (si : Int), .int .u64 0, .slice none 0 0, .int .u64 0, .slice none 0 0, .bool false]] from hs9)
      clear hs9 HS8
      have k0 := sep_ceAt (i := 0) HS9.out rfl 0 rfl
      have k1 := sep_ceAt (i := 0) HS9.out rfl 1 rfl
      have k2 := sep_ceAt (i := 0) HS9.out rfl 2 rfl
      have k3 := sep_ceAt (i := 0) HS9.out rfl 3 rfl
      have k4 := sep_ceAt (i := 0) HS9.out rfl 4 rfl
      have k5 := sep_ceAt (i := 0) HS9.out rfl 5 rfl
      have k6 := sep_ceAt (i := 0) HS9.out rfl 6 rfl
      have k7 := sep_ceAt (i := 0) HS9.out rfl 7 rfl
      have k8 := sep_ceAt (i := 0) HS9.out rfl 8 rfl
      have k9 := sep_ceAt (i := 0) HS9.out rfl 9 rfl
      have k10 := sep_ceAt (i := 0) HS9.out rfl 10 rfl
      have y0 := sep_ceFrozen (i := 0) HS9.out rfl 0
      have y1 := sep_ceFrozen (i := 0) HS9.out rfl 1
      have y2 := sep_ceFrozen (i := 0) HS9.out rfl 2
      have y3 := sep_ceFrozen (i := 0) HS9.out rfl 3
      have y4 := sep_ceFrozen (i := 0) HS9.out rfl 4
      have y5 := sep_ceFrozen (i := 0) HS9.out rfl 5
      have y6 := sep_ceFrozen (i := 0) HS9.out rfl 6
      have y7 := sep_ceFrozen (i := 0) HS9.out rfl 7
      have y8 := sep_ceFrozen (i := 0) HS9.out rfl 8
      have y9 := sep_ceFrozen (i := 0) HS9.out rfl 9
      have y10 := sep_ceFrozen (i := 0) HS9.out rfl 10
      go_wp2_with fail
      obtain ⟨_, hs2⟩ := sep_put11 (i := 0) HS9.out rfl (.int .i64 0) (.int .i64 0) (.int .u64 0) (.int .u64 0) (.int .i64 0) (.int .u64 0) (.int .u64 0) (.slice none 0 0) (.int .u64 0) (.slice none 0 0) (.bool false)
      refine bodyPost_ret (v := .tuple #[.agg #[.int .i64 0, .int .i64 0, .int .u64 0, .int .u64 0, .int .i64 0, .int .u64 0, .int .u64 0, .slice none 0 0, .int .u64 0, .slice none 0 0, .bool false], .int .i64 3]) (by simp [results, Try.results18, go_sem, k0, k1, k2, k3, k4, k5, k6, k7, k8, k9, k10]) rfl ?_
      exact .inr ⟨fun x hx => (by have h := ((isLt_rd b x).1 hx).1; rw [HW.out] at h; rw [h] at hen; cases hen), rfl, hs2.bel⟩
    · have HEN : Hid (rEnd s3.1 s3.2 = false) := Lib.hid (by simpa using hen)
      clear hen
      refine (sep_gEb (i := 1) (s := s3) (z := 0) HS8.out rfl HEN.out rfl).mono ?_
      rintro e w9 ⟨rfl, hs9⟩
      have HS9 := Lib.hid (show Sep w w9 [Ce w.heap.size 30 #[.int .i64 0, .int .i64 0, .int .u64 0, .int .u64 0, .int .i64 0, .int .u64 0, .int .u64 0, .slice none 0 0, .int .u64 0, .slice none 0 0, .bool false], Rd g2 s3.1 false, Ce g3 30 #[.int .i64 (kk : Int), .int .i64 (nn : Int), .int .u64 (pi : Int), .int .u64 (rr : Int), .int .i64 (sn : Int), .int .u64 (si : Int), .int .u64 0, .slice none 0 0, .int .u64 0, .slice none 0 0, .bool false]] from hs9)
      clear hs9 HS8
      have z0 := sep_ceAt (i := 2) HS9.out rfl 0 rfl
      have z1 := sep_ceAt (i := 2) HS9.out rfl 1 rfl
      have z2 := sep_ceAt (i := 2) HS9.out rfl 2 rfl
      have z3 := sep_ceAt (i := 2) HS9.out rfl 3 rfl
      have z4 := sep_ceAt (i := 2) HS9.out rfl 4 rfl
      have z5 := sep_ceAt (i := 2) HS9.out rfl 5 rfl
      have z6 := sep_ceAt (i := 2) HS9.out rfl 6 rfl
      have z7 := sep_ceAt (i := 2) HS9.out rfl 7 rfl
      have z8 := sep_ceAt (i := 2) HS9.out rfl 8 rfl
      have z9 := sep_ceAt (i := 2) HS9.out rfl 9 rfl
      have z10 := sep_ceAt (i := 2) HS9.out rfl 10 rfl
      go_wp2_with fail
      clear z0 z1 z2 z3 z4 z5 z6 z7 z8 z9 z10
      by_cases hmy : (Lt.mk kk nn pi rr sn si 0 [] 0 [] false).may = true
      · have HMY := Lib.hid hmy
        clear hmy
        refine (mayL (w := w9) (x := (Lt.mk kk nn pi rr sn si 0 [] 0 [] false)) (A := none) (c := 0) (A2 := none) (c2 := 0) (B := w9.heap.size) HMY.out (by exact Has.nil) (Nat.le_refl _) (by simp <;> omega) (by simp) (by simp)).mono ?_
        rintro e w10 ⟨rfl, hb10⟩
        have HS10 := Lib.hid (HS9.out.grow hb10)
        clear HS9 hb10
        have z0 := sep_ceAt (i := 2) HS10.out rfl 0 rfl
        have z1 := sep_ceAt (i := 2) HS10.out rfl 1 rfl
        have z2 := sep_ceAt (i := 2) HS10.out rfl 2 rfl
        have z3 := sep_ceAt (i := 2) HS10.out rfl 3 rfl
        have z4 := sep_ceAt (i := 2) HS10.out rfl 4 rfl
        have z5 := sep_ceAt (i := 2) HS10.out rfl 5 rfl
        have z6 := sep_ceAt (i := 2) HS10.out rfl 6 rfl
        have z7 := sep_ceAt (i := 2) HS10.out rfl 7 rfl
        have z8 := sep_ceAt (i := 2) HS10.out rfl 8 rfl
        have z9 := sep_ceAt (i := 2) HS10.out rfl 9 rfl
        have z10 := sep_ceAt (i := 2) HS10.out rfl 10 rfl
        have k0 := sep_ceAt (i := 0) HS10.out rfl 0 rfl
        have k1 := sep_ceAt (i := 0) HS10.out rfl 1 rfl
        have k2 := sep_ceAt (i := 0) HS10.out rfl 2 rfl
        have k3 := sep_ceAt (i := 0) HS10.out rfl 3 rfl
        have k4 := sep_ceAt (i := 0) HS10.out rfl 4 rfl
        have k5 := sep_ceAt (i := 0) HS10.out rfl 5 rfl
        have k6 := sep_ceAt (i := 0) HS10.out rfl 6 rfl
        have k7 := sep_ceAt (i := 0) HS10.out rfl 7 rfl
        have k8 := sep_ceAt (i := 0) HS10.out rfl 8 rfl
        have k9 := sep_ceAt (i := 0) HS10.out rfl 9 rfl
        have k10 := sep_ceAt (i := 0) HS10.out rfl 10 rfl
        have y0 := sep_ceFrozen (i := 0) HS10.out rfl 0
        have y1 := sep_ceFrozen (i := 0) HS10.out rfl 1
        have y2 := sep_ceFrozen (i := 0) HS10.out rfl 2
        have y3 := sep_ceFrozen (i := 0) HS10.out rfl 3
        have y4 := sep_ceFrozen (i := 0) HS10.out rfl 4
        have y5 := sep_ceFrozen (i := 0) HS10.out rfl 5
        have y6 := sep_ceFrozen (i := 0) HS10.out rfl 6
        have y7 := sep_ceFrozen (i := 0) HS10.out rfl 7
        have y8 := sep_ceFrozen (i := 0) HS10.out rfl 8
        have y9 := sep_ceFrozen (i := 0) HS10.out rfl 9
        have y10 := sep_ceFrozen (i := 0) HS10.out rfl 10
        go_wp2_with fail
        obtain ⟨_, hs2⟩ := sep_put11 (i := 0) HS10.out rfl (.int .i64 (kk : Int)) (.int .i64 (nn : Int)) (.int .u64 (pi : Int)) (.int .u64 (rr : Int)) (.int .i64 (sn : Int)) (.int .u64 (si : Int)) (.int .u64 0) (.slice none 0 0) (.int .u64 0) (.slice none 0 0) (.bool false)
        refine bodyPost_ret (v := .tuple #[.agg #[.int .i64 (kk : Int), .int .i64 (nn : Int), .int .u64 (pi : Int), .int .u64 (rr : Int), .int .i64 (sn : Int), .int .u64 (si : Int), .int .u64 0, .slice none 0 0, .int .u64 0, .slice none 0 0, .bool false], .int .i64 0]) (by simp [results, Try.results18, go_sem, k0, k1, k2, k3, k4, k5, k6, k7, k8, k9, k10]) rfl ?_
        have hF : rdLt b = (Lt.mk kk nn pi rr sn si 0 [] 0 [] false) := by
          unfold rdLt
          rw [HK.out, HP.out, HI.out, HN.out, HB.out, HC.out, HX.out, HW.out]
        exact .inl ⟨(Lt.mk kk nn pi rr sn si 0 [] 0 [] false), none, 0, none, 0, (isLt_rd b _).2 ⟨by rw [HW.out]; exact HEN.out, by rw [hF]; exact HMY.out, hF.symm⟩, rfl, .inl ⟨rfl, rfl, rfl⟩, OwnU.nil _ _, hs2.bel⟩
      · have HMN : Hid ((Lt.mk kk nn pi rr sn si 0 [] 0 [] false).may = false) := Lib.hid (by simpa using hmy)
        clear hmy
        refine (mayL (w := w9) (x := (Lt.mk kk nn pi rr sn si 0 [] 0 [] false)) (A := none) (c := 0) (A2 := none) (c2 := 0) (B := w9.heap.size) HMN.out (by exact Has.nil) (Nat.le_refl _) (by simp <;> omega) (by simp) (by simp)).mono ?_
        rintro e w10 ⟨rfl, hb10⟩
        have HS10 := Lib.hid (HS9.out.grow hb10)
        clear HS9 hb10
        have k0 := sep_ceAt (i := 0) HS10.out rfl 0 rfl
        have k1 := sep_ceAt (i := 0) HS10.out rfl 1 rfl
        have k2 := sep_ceAt (i := 0) HS10.out rfl 2 rfl
        have k3 := sep_ceAt (i := 0) HS10.out rfl 3 rfl
        have k4 := sep_ceAt (i := 0) HS10.out rfl 4 rfl
        have k5 := sep_ceAt (i := 0) HS10.out rfl 5 rfl
        have k6 := sep_ceAt (i := 0) HS10.out rfl 6 rfl
        have k7 := sep_ceAt (i := 0) HS10.out rfl 7 rfl
        have k8 := sep_ceAt (i := 0) HS10.out rfl 8 rfl
        have k9 := sep_ceAt (i := 0) HS10.out rfl 9 rfl
        have k10 := sep_ceAt (i := 0) HS10.out rfl 10 rfl
        have y0 := sep_ceFrozen (i := 0) HS10.out rfl 0
        have y1 := sep_ceFrozen (i := 0) HS10.out rfl 1
        have y2 := sep_ceFrozen (i := 0) HS10.out rfl 2
        have y3 := sep_ceFrozen (i := 0) HS10.out rfl 3
        have y4 := sep_ceFrozen (i := 0) HS10.out rfl 4
        have y5 := sep_ceFrozen (i := 0) HS10.out rfl 5
        have y6 := sep_ceFrozen (i := 0) HS10.out rfl 6
        have y7 := sep_ceFrozen (i := 0) HS10.out rfl 7
        have y8 := sep_ceFrozen (i := 0) HS10.out rfl 8
        have y9 := sep_ceFrozen (i := 0) HS10.out rfl 9
        have y10 := sep_ceFrozen (i := 0) HS10.out rfl 10
        go_wp2_with fail
        obtain ⟨_, hs2⟩ := sep_put11 (i := 0) HS10.out rfl (.int .i64 0) (.int .i64 0) (.int .u64 0) (.int .u64 0) (.int .i64 0) (.int .u64 0) (.int .u64 0) (.slice none 0 0) (.int .u64 0) (.slice none 0 0) (.bool false)
        refine bodyPost_ret (v := .tuple #[.agg #[.int .i64 0, .int .i64 0, .int .u64 0, .int .u64 0, .int .i64 0, .int .u64 0, .int .u64 0, .slice none 0 0, .int .u64 0, .slice none 0 0, .bool false], .int .i64 3]) (by simp [results, Try.results18, go_sem, k0, k1, k2, k3, k4, k5, k6, k7, k8, k9, k10]) rfl ?_
        exact .inr ⟨fun x hx => (by
          have h := ((isLt_rd b x).1 hx).2.1
          have hF : rdLt b = (Lt.mk kk nn pi rr sn si 0 [] 0 [] false) := by
            unfold rdLt
            rw [HK.out, HP.out, HI.out, HN.out, HB.out, HC.out, HX.out, HW.out]
          rw [hF, HMN.out] at h
          cases h), rfl, hs2.bel⟩
end Go.Proofs.Ytbnjlminjopaaaa
