/- The walk of the law CodeBreaks. -/
import Derived.Test.YtkjficbegjhefaaCodeAwake
import Derived.Test.YtkjficbegjhefaaCodeNobody
import Derived.Deep.QuietTactic
import Derived.BigQuiet
namespace Go.Proofs.Ytkjficbegjhefaa
open Go Go.RowKit
set_option linter.unusedVariables false
set_option linter.unusedSimpArgs false
set_option maxRecDepth 100000

theorem askR_fault (l : List UInt8) (k : Nat) (hk : k < 9) (n : Int) : askR l true k n = ((if k = 8 then 3 else 0, []), l, true) := by
  match k, hk with
  | 0, _ => rfl
  | 1, _ => rfl
  | 2, _ => rfl
  | 3, _ => rfl
  | 4, _ => rfl
  | 5, _ => rfl
  | 6, _ => rfl
  | 7, _ => rfl
  | 8, _ => rfl
/-- what a number is read from is what it is written as -/
theorem num_take {l : List UInt8} {y n k : Nat} (h : Code.num (l.take k) = some (y, n)) : Code.num l = some (y, n) ∧ n ≤ k := by
  obtain ⟨f1, f2, f3⟩ := Code.num_form h
  have f4 := Code.num_len h
  rw [List.length_take] at f4
  have e : l = Code.short y ++ l.drop n := by
    have : (l.take k).take n = l.take n := by rw [List.take_take, Nat.min_eq_left (by omega)]
    rw [← f2, this, List.take_append_drop]
  refine ⟨?_, by omega⟩
  rw [e, Code.num_short y f1, ← f3]
theorem short_cut (x k : Nat) (hx : x < 18446744073709551616) (hk : k < (Code.short x).length) : rUint ((Code.short x).take k) false = (0, (Code.short x).take k, true) := by
  have hn : Code.num ((Code.short x).take k) = none := by
    cases h : Code.num ((Code.short x).take k) with
    | none => rfl
    | some p =>
      obtain ⟨y, n⟩ := p
      obtain ⟨h1, h2⟩ := num_take h
      have h3 := Code.num_short x hx []
      rw [List.append_nil, h1] at h3
      simp only [Option.some.injEq, Prod.mk.injEq] at h3
      omega
  unfold rUint
  rw [hn]
  rfl
theorem text_cut (s : List UInt8) (k : Nat) (hs : s.length < 18446744073709551616) (hk : k < (Code.text s).length) : rText ((Code.text s).take k) false (s.length : Int) = ([], (Code.text s).take k, true) := by
  cases h : Code.num ((Code.text s).take k) with
  | none => exact rText_none _ _ _ h
  | some p =>
    obtain ⟨y, n⟩ := p
    obtain ⟨h1, h2⟩ := num_take h
    have h3 := Code.num_short s.length hs s
    rw [show Code.short s.length ++ s = Code.text s from rfl, h1] at h3
    simp only [Option.some.injEq, Prod.mk.injEq] at h3
    have h4 : (Code.text s).length = (Code.short s.length).length + s.length := by unfold Code.text; rw [List.length_append]
    refine rText_no _ _ _ y n h ?_
    rw [List.length_take]
    omega
theorem and_24 (z : Int) : ∃ q : Nat, bits .and .i64 z 16777215 = (q : Int) := ⟨_, and_mask z 24 (by omega)⟩

set_option maxHeartbeats 3200000 in
theorem codeBreaks_walk (w : World) (x : Nat) (s : List UInt8) (cut : Int) (B : Option Addr) (d : Nat) (qs : List (Int × Int)) (hB : Has w w.heap.size B (pairsOf qs)) (hx : ∀ x ∈ qs, -9223372036854775808 ≤ x.2 ∧ x.2 ≤ 9223372036854775807) (hsl : s.length ≤ 140737488355328) (hxx : x < 18446744073709551616) :
    Calls Try.prog 9 #[.int .u64 x, .string ⟨s.toArray⟩, .int .i64 cut, .slice B qs.length d] w fun e w' => e = .returned (.bool true) ∧ Below w.heap.size w w' := by
  have HX := Lib.hid hx
  have HXX := Lib.hid hxx
  have HCR0 := Lib.hid (pairs_cells hB)
  have hsz := size_str s
  clear hB hx hxx
  by_cases hl2 : 10000 < s.length
  · go_enter Try.func9, Try.ntmps9
    go_wp2_with fail
    refine (codeAwake w).mono ?_
    rintro e w' ⟨rfl, hb⟩
    go_wp2
    go_ret
    exact ⟨rfl, hb⟩
  by_cases hl1 : 100 < qs.length
  · go_enter Try.func9, Try.ntmps9
    go_wp2_with fail
    refine (codeAwake w).mono ?_
    rintro e w' ⟨rfl, hb⟩
    go_wp2
    go_ret
    exact ⟨rfl, hb⟩
  have hal := Code.short_length x
  have htl : (Code.text s).length = (Code.short s.length).length + s.length := by unfold Code.text; rw [List.length_append]
  have hsl2 := Code.short_length s.length
  have HCA := Lib.hid (fun k => short_cut x k HXX.out)
  have HCB := Lib.hid (fun k => text_cut s k (by omega))
  obtain ⟨La, HLa⟩ : ∃ La, Hid (Code.short x = La) := ⟨_, Lib.hid rfl⟩
  obtain ⟨Lb, HLb⟩ : ∃ Lb, Hid (Code.text s = Lb) := ⟨_, Lib.hid rfl⟩
  rw [HLa.out] at hal HCA
  rw [HLb.out] at htl HCB
  have hbl : 1 ≤ Lb.length ∧ Lb.length ≤ 10011 := by omega
  clear htl hsl2
  go_enter Try.func9, Try.ntmps9
  go_wp2_with fail
  refine (sep_newWriter (Sep.nil w)).mono ?_
  rintro e w1 ⟨g1, rfl, hs1⟩
  have HS1 := Lib.hid (show Sep w w1 [Wr g1 []] from hs1)
  clear hs1
  go_wp2_with fail
  refine (sep_newWriter HS1.out).mono ?_
  rintro e w2 ⟨g2, rfl, hs2⟩
  have HS2 := Lib.hid (show Sep w w2 [Wr g1 [], Wr g2 []] from hs2)
  clear hs2 HS1
  go_wp2_with fail
  refine (sep_writes (i := 0) (l' := [] ++ Code.short x) HS2.out rfl (fun r hr => uint_any w2 0 g1 r [] x hr (Nat.zero_le _) HXX.out (by simp))).mono ?_
  rintro e w3 ⟨rfl, hs3⟩
  have HS3 := Lib.hid (show Sep w w3 [Wr g1 La, Wr g2 []] by rw [← HLa.out]; exact hs3)
  clear hs3 HS2
  go_wp2_with fail
  refine (sep_writes (i := 1) (l' := [] ++ Code.text s) HS3.out rfl (fun r hr => textW_any w3 0 g2 r [] s hr (Nat.zero_le _) (by simp; omega))).mono ?_
  rintro e w4 ⟨rfl, hs4⟩
  have HS4 := Lib.hid (show Sep w w4 [Wr g1 La, Wr g2 Lb] by rw [← HLb.out]; exact hs4)
  clear hs4 HS3
  go_wp2_with fail
  refine (sep_bytes (i := 0) HS4.out rfl (by omega)).mono ?_
  rintro e w5 ⟨v5, rfl, hs5⟩
  have HS5 := Lib.hid (show Sep w w5 [Wr g1 La, Wr g2 Lb, By v5 La] from hs5)
  clear hs5 HS4
  go_wp2_with fail
  refine (sep_bytes (i := 1) HS5.out rfl (by omega)).mono ?_
  rintro e w6 ⟨v6, rfl, hs6⟩
  have HS6 := Lib.hid (show Sep w w6 [Wr g1 La, Wr g2 Lb, By v5 La, By v6 Lb] from hs6)
  obtain ⟨A5, c5, rfl, hc5, hm5, hh5⟩ := sep_byForm (i := 2) HS6.out rfl
  obtain ⟨A6, c6, rfl, hc6, hm6, hh6⟩ := sep_byForm (i := 3) HS6.out rfl
  have HH5 := Lib.hid hh5
  have HH6 := Lib.hid hh6
  clear hs6 HS5 hh5 hh6
  obtain ⟨q, hand⟩ := and_24 cut
  have ea : ((La.length : Int) == 0) = false := beq_eq_false_iff_ne.2 (by omega)
  have eb : ((Lb.length : Int) == 0) = false := beq_eq_false_iff_ne.2 (by omega)
  obtain ⟨pa, hpa⟩ : ∃ pa, q % La.length = pa := ⟨_, rfl⟩
  obtain ⟨pb, hpb⟩ : ∃ pb, q % Lb.length = pb := ⟨_, rfl⟩
  have hpal : pa < La.length := by rw [← hpa]; exact Nat.mod_lt _ (by omega)
  have hpbl : pb < Lb.length := by rw [← hpb]; exact Nat.mod_lt _ (by omega)
  have hra : (q : Int).tmod (La.length : Int) = (pa : Int) := by rw [← hpa]; rfl
  have hrb : (q : Int).tmod (Lb.length : Int) = (pb : Int) := by rw [← hpb]; rfl
  have i1 : (0 : Int) ≤ (pa : Int) := by omega
  have i2 : (pa : Int) ≤ (c5 : Int) := by omega
  have i3 : (0 : Int) ≤ (pb : Int) := by omega
  have i4 : (pb : Int) ≤ (c6 : Int) := by omega
  clear hpa hpb
  go_wp2_with fail
  go_quiet (fail)
  clear hand hra hrb
  have HTA := Lib.hid (HH5.out.take pa)
  have HTB := Lib.hid (HH6.out.take pb)
  rw [← us_take] at HTA HTB
  have hta : (La.take pa).length = pa := by rw [List.length_take]; omega
  have htb : (Lb.take pb).length = pb := by rw [List.length_take]; omega
  have HUA := Lib.hid (HCA.out pa hpal)
  have HUB := Lib.hid (HCB.out pb hpbl)
  obtain ⟨Ta, HTa⟩ : ∃ Ta, Hid (La.take pa = Ta) := ⟨_, Lib.hid rfl⟩
  obtain ⟨Tb, HTb⟩ : ∃ Tb, Hid (Lb.take pb = Tb) := ⟨_, Lib.hid rfl⟩
  rw [HTa.out] at HTA hta HUA
  rw [HTb.out] at HTB htb HUB
  subst hta htb
  go_wp2_with fail
  refine (sep_newReader (HS6.out.drewN nq) w6.heap.size A5 c5 Ta (HTA.out.drewN nq) (Nat.le_refl _) (by omega)).mono ?_
  rintro e w7 ⟨g3, rfl, hs7⟩
  have HS7 := Lib.hid (show Sep w w7 [Wr g1 La, Wr g2 Lb, By (.slice A5 La.length c5) La, By (.slice A6 Lb.length c6) Lb, Rd g3 Ta false] from hs7)
  obtain ⟨_, _, e6, _, _, hh6⟩ := sep_byForm (i := 3) HS7.out rfl
  injection e6 with e6 _ e6'
  subst e6 e6'
  have HT7 := Lib.hid (show Has w7 w7.heap.size A6 (us Tb) by rw [← HTb.out, us_take]; exact hh6.take _)
  clear hs7 hh6
  go_wp2_with fail
  refine (sep_newReader HS7.out w7.heap.size A6 c6 Tb HT7.out (Nat.le_refl _) (by omega)).mono ?_
  rintro e w8 ⟨g4, rfl, hs8⟩
  have HS8 := Lib.hid (show Sep w w8 [Wr g1 La, Wr g2 Lb, By (.slice A5 La.length c5) La, By (.slice A6 Lb.length c6) Lb, Rd g3 Ta false, Rd g4 Tb false] from hs8)
  clear hs8 HS7
  go_wp2_with fail
  refine (sep_reads (i := 4) (l' := Ta) (bad' := true) (v := .int .u64 0) HS8.out rfl (Nat.le_refl _) (fun rb hr => by have h3 := uintR_any w8 g3 rb Ta false hr (by omega); rw [HUA.out] at h3; exact h3)).mono ?_
  rintro e w9 ⟨rfl, hs9⟩
  have HS9 := Lib.hid (show Sep w w9 [Wr g1 La, Wr g2 Lb, By (.slice A5 La.length c5) La, By (.slice A6 Lb.length c6) Lb, Rd g3 Ta true, Rd g4 Tb false] from hs9)
  clear hs9 HS8
  go_wp2_with fail
  refine (sep_reads (i := 5) (l' := Tb) (bad' := true) (v := .string ⟨([] : List UInt8).toArray⟩) HS9.out rfl (Nat.le_refl _) (fun rb hr => by have h3 := textR_any w9 g4 rb Tb false (s.length : Int) hr (by omega) (by omega) (by omega); rw [HUB.out] at h3; exact h3)).mono ?_
  rintro e w10 ⟨rfl, hs10⟩
  have HS10 := Lib.hid (show Sep w w10 [Wr g1 La, Wr g2 Lb, By (.slice A5 La.length c5) La, By (.slice A6 Lb.length c6) Lb, Rd g3 Ta true, Rd g4 Tb true] from hs10)
  clear hs10 HS9
  go_wp2_with fail
  refine (sep_err (i := 4) HS10.out rfl).mono ?_
  rintro e w11 ⟨rfl, rfl⟩
  simp only [errOf, if_true]
  go_wp2_with fail
  refine (sep_err (i := 5) HS10.out rfl).mono ?_
  rintro e w11 ⟨rfl, rfl⟩
  simp only [errOf, if_true]
  go_wp2_with fail
  go_loopw [8, 15, 16, 17, 18, 19, 20] (fun s8 iv _ _ _ _ _ wr => ∃ k : Nat, k ≤ qs.length ∧ s8 = .bool false ∧ iv = .int .i64 k ∧ Hid (Sep w wr [Wr g1 La, Wr g2 Lb, By (.slice A5 La.length c5) La, By (.slice A6 Lb.length c6) Lb, Rd g3 Ta true, Rd g4 Tb true])) (fun _ iv _ _ _ _ _ _ => qs.length - (intOf iv).toNat)
  case atStart => exact ⟨0, Nat.zero_le _, rfl, rfl, HS10⟩
  case round =>
    obtain ⟨k, hk, rfl, rfl, HS⟩ := hrel
    by_cases hkt : k < qs.length
    · obtain ⟨bb, o, rfl, hc⟩ := HCR0.out k hkt
      have hb2 := HX.out qs[k] (List.getElem_mem hkt)
      have HCR := Lib.hid hc
      clear hc
      obtain ⟨z, n, Hq⟩ : ∃ z n, Hid (qs[k] = (z, n)) := ⟨_, _, Lib.hid rfl⟩
      rw [Hq.out] at hb2 HCR
      dsimp only at hb2 HCR
      obtain ⟨m, hm9, hm⟩ := mod9_nat z
      have HM := Lib.hid hm
      obtain ⟨y, hy1, hy2, hy3, hy4⟩ := mod9 z
      rw [hm] at hy4
      have HY3 := Lib.hid hy3
      have HY4 := Lib.hid hy4
      have hy5 : 0 ≤ y + 9 := by omega
      have HFA := Lib.hid (askR_fault Ta m hm9 n)
      have HFB := Lib.hid (askR_fault Tb m hm9 n)
      clear hm hy3 hy4
      obtain ⟨hc7, hc8⟩ := HCR.out wr HS.out.bel
      go_wp2_with fail
      refine (sep_asked (i := 4) z n HS.out rfl (by omega) hb2.1 hb2.2 m hm9 HM.out).mono ?_
      rintro e w12 ⟨rfl, hs12⟩
      rw [HFA.out] at hs12 ⊢
      have HS12 := Lib.hid (show Sep w w12 [Wr g1 La, Wr g2 Lb, By (.slice A5 La.length c5) La, By (.slice A6 Lb.length c6) Lb, Rd g3 Ta true, Rd g4 Tb true] from hs12)
      clear hs12 hc7 hc8
      dsimp only
      obtain ⟨xx, Hxx⟩ : ∃ xx : Nat, Hid ((if m = 8 then 3 else 0) = xx) := ⟨_, Lib.hid rfl⟩
      rw [Hxx.out]
      obtain ⟨hc7, hc8⟩ := HCR.out w12 HS12.out.bel
      go_wp2_with fail
      refine (sep_asked (i := 5) z n HS12.out rfl (by omega) hb2.1 hb2.2 m hm9 HM.out).mono ?_
      rintro e w13 ⟨rfl, hs13⟩
      rw [HFB.out] at hs13 ⊢
      have HS13 := Lib.hid (show Sep w w13 [Wr g1 La, Wr g2 Lb, By (.slice A5 La.length c5) La, By (.slice A6 Lb.length c6) Lb, Rd g3 Ta true, Rd g4 Tb true] from hs13)
      clear hs13 hc7 hc8
      dsimp only
      rw [Hxx.out]
      obtain ⟨hc7, hc8⟩ := HCR.out w13 HS13.out.bel
      have hy3 := HY3.out
      have hy4 := HY4.out
      by_cases h8 : m = 8
      · have hx3 : xx = 3 := by rw [← Hxx.out, if_pos h8]
        subst hx3 h8
        go_wp2
        go_roundw
        case rel => exact ⟨k + 1, by omega, rfl, by go_num, HS13⟩
        case measure => simp [intOf]; omega
      · have hx0 : xx = 0 := by rw [← Hxx.out, if_neg h8]
        have e8 : ((m : Int) == 8) = false := beq_eq_false_iff_ne.2 (by omega)
        subst hx0
        clear h8
        go_wp2
        go_roundw
        case rel => exact ⟨k + 1, by omega, rfl, by go_num, HS13⟩
        case measure => simp [intOf]; omega
    · go_wp2_with fail
      refine (sep_left (i := 4) HS.out rfl).mono ?_
      rintro e w11 ⟨rfl, rfl⟩
      go_wp2_with fail
      refine (sep_left (i := 5) HS.out rfl).mono ?_
      rintro e w11 ⟨rfl, rfl⟩
      go_wp2_with fail
      refine (codeAwake _).mono ?_
      rintro e w9 ⟨rfl, hb9⟩
      go_wp2
      go_ret
      exact ⟨rfl, (HS.out.grow hb9).bel⟩
end Go.Proofs.Ytkjficbegjhefaa
