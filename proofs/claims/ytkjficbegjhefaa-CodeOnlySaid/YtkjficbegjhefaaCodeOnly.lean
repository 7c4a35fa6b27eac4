/- The walk of the law CodeOnly. -/
import Derived.Test.YtkjficbegjhefaaCodeAwake
import Derived.Test.YtkjficbegjhefaaSepCode
import Derived.Test.YtkjficbegjhefaaRgB
import Derived.Deep.QuietTactic
namespace Go.Proofs.Ytkjficbegjhefaa
open Go Go.RowKit
set_option linter.unusedVariables false
set_option maxRecDepth 100000

theorem rUint_none {l : List UInt8} (h : Code.num l = none) : rUint l false = (0, l, true) := by unfold rUint; rw [h]; rfl
theorem rUint_some {l : List UInt8} {x n : Nat} (h : Code.num l = some (x, n)) : rUint l false = (x, l.drop n, false) := by unfold rUint; rw [h]; rfl
/-- what is left is not more -/
theorem rUint_left (l : List UInt8) (bad : Bool) : (rUint l bad).2.1.length ≤ l.length := by
  unfold rUint
  cases bad
  · simp only [Bool.false_eq_true, if_false]; split <;> simp
  · simp
theorem rText_left (l : List UInt8) (bad : Bool) (most : Int) : (rText l bad most).2.1.length ≤ l.length := by
  unfold rText
  cases bad
  · simp only [Bool.false_eq_true, if_false]
    split
    · simp
    · split
      · simp
      · simp
  · simp
/-- a text that was read is written so -/
theorem rText_form (b : List UInt8) (most : Int) : (rText b false most = ([], b, true)) ∨ ∃ s r : List UInt8, rText b false most = (s, r, false) ∧ (s.length : Int) ≤ most ∧ r.length ≤ b.length ∧ Code.text s = b.take (b.length - r.length) := by
  unfold rText
  simp only [Bool.false_eq_true, if_false]
  split
  · exact .inl rfl
  · rename_i x n hn
    split
    · rename_i h
      obtain ⟨h1, h2, h3⟩ := h
      have hl := Code.num_len hn
      obtain ⟨f1, f2, f3⟩ := Code.num_form hn
      refine .inr ⟨_, _, rfl, ?_, by simp, ?_⟩
      · rw [List.length_take, List.length_drop]; omega
      · unfold Code.text
        have e1 : (List.take x (List.drop n b)).length = x := by rw [List.length_take, List.length_drop]; omega
        have e2 : b.length - (List.drop x (List.drop n b)).length = n + x := by rw [List.length_drop, List.length_drop]; omega
        rw [e1, e2, ← f2, List.take_add]
    · exact .inl rfl

set_option maxHeartbeats 3200000 in
theorem codeOnly_walk (w : World) (A : Option Addr) (c : Nat) (b : List UInt8) (most : Int) (hA : Has w w.heap.size A (us b)) (hc : b.length ≤ c) (hm1 : -9223372036854775808 ≤ most) (hm2 : most ≤ 9223372036854775807) :
    Calls Try.prog 4 #[.slice A b.length c, .int .i64 most] w fun e w' => e = .returned (.bool true) ∧ Below w.heap.size w w' := by
  have HA := Lib.hid hA
  clear hA
  by_cases hlong : 65536 < b.length
  · go_enter Try.func4, Try.ntmps4
    go_wp2_with fail
    refine (codeAwake w).mono ?_
    rintro e w' ⟨rfl, hb⟩
    go_wp2
    go_ret
    exact ⟨rfl, hb⟩
  · go_enter Try.func4, Try.ntmps4
    go_wp2_with fail
    refine (sep_newReader (Sep.nil w) w.heap.size A c b HA.out (Nat.le_refl _) (by omega)).mono ?_
    rintro e w1 ⟨g1, rfl, hs1⟩
    have HS1 := Lib.hid hs1
    clear hs1
    go_wp2_with fail
    refine (sep_newWriter HS1.out).mono ?_
    rintro e w2 ⟨g2, rfl, hs2⟩
    have HS2 := Lib.hid hs2
    clear hs2 HS1
    simp only [List.nil_append, List.singleton_append] at HS2
    go_wp2_with fail
    go_loopw [4, 7, 8] (fun s4 nv xv wr => ∃ (n : Nat) (L l2 : List UInt8), s4 = .bool false ∧ nv = .int .i64 n ∧ n ≤ L.length ∧ L.length + l2.length = b.length ∧ Hid (b = L ++ l2) ∧ Hid (Sep w wr [Rd g1 l2 false, Wr g2 L])) (fun _ nv _ _ => b.length - (intOf nv).toNat)
    case atStart => exact ⟨0, [], b, rfl, rfl, Nat.zero_le _, by simp, Lib.hid rfl, HS2⟩
    case round =>
      obtain ⟨n, L, l2, rfl, rfl, hn, hlen, HE, HS⟩ := hrel
      go_wp2_with fail
      cases hnum : Code.num l2 with
      | some p =>
        obtain ⟨x, k⟩ := p
        obtain ⟨f1, f2, f3⟩ := Code.num_form hnum
        have f4 := Code.num_len hnum
        have hu := rUint_some hnum
        have HF := Lib.hid f2
        have HX := Lib.hid f1
        refine (sep_reads (l' := l2.drop k) (bad' := false) (v := .int .u64 x) HS.out (i := 0) rfl (by simp) (fun rb hr => by have h3 := uintR_any wr g1 rb l2 false hr (by omega); rw [hu] at h3; exact h3)).mono ?_
        rintro e w3 ⟨rfl, hs3⟩
        have HS3 := Lib.hid hs3
        clear hs3 hnum hu f1 f2 f3
        simp only [List.set_cons_zero] at HS3
        go_wp2_with fail
        refine (sep_err (i := 0) HS3.out rfl).mono ?_
        rintro e w4 ⟨rfl, rfl⟩
        simp only [errOf, Bool.false_eq_true, if_false]
        go_wp2_with fail
        refine (sep_writes (i := 1) (l' := L ++ Code.short x) HS3.out rfl (fun r hr => uint_any w3 0 g2 r L x hr (Nat.zero_le _) HX.out (by omega))).mono ?_
        rintro e w5 ⟨rfl, hs5⟩
        have HS5 := Lib.hid hs5
        clear hs5
        simp only [List.set_cons_zero, List.set_cons_succ] at HS5
        rw [← HF.out] at HS5
        have hlk : (l2.take k).length = k := by rw [List.length_take]; omega
        have hld : (l2.drop k).length = l2.length - k := by rw [List.length_drop]
        have hL2 : (L ++ l2.take k).length = L.length + k := by rw [List.length_append, hlk]
        have HE2 := Lib.hid (show b = (L ++ l2.take k) ++ l2.drop k by rw [HE.out]; simp)
        clear hlk
        generalize L ++ l2.take k = L' at *
        generalize l2.drop k = l3 at *
        go_wp2_with fail
        refine (sep_len (i := 1) HS5.out rfl).mono ?_
        rintro e w6 ⟨rfl, rfl⟩
        go_wp2
        go_roundw
        case rel => exact ⟨n + 1, L', l3, rfl, by go_num, by omega, by omega, HE2, HS5⟩
        case measure => simp [intOf]; omega
      | none =>
        have hu := rUint_none hnum
        refine (sep_reads (l' := l2) (bad' := true) (v := .int .u64 0) HS.out (i := 0) rfl (by simp) (fun rb hr => by have h3 := uintR_any wr g1 rb l2 false hr (by omega); rw [hu] at h3; exact h3)).mono ?_
        rintro e w3 ⟨rfl, hs3⟩
        have HS := Lib.hid hs3
        clear hs3 hnum hu
        simp only [List.set_cons_zero] at HS
        go_wp2_with fail
        refine (sep_err (i := 0) HS.out rfl).mono ?_
        rintro e w4 ⟨rfl, rfl⟩
        simp only [errOf, if_true]
        go_wp2_with fail
        refine (sep_left (i := 0) HS.out rfl).mono ?_
        rintro e w4 ⟨rfl, rfl⟩
        obtain ⟨t, ht⟩ : ∃ t : Nat, t = b.length - l2.length := ⟨_, rfl⟩
        have hsub : (b.length : Int) - (l2.length : Int) = (t : Int) := by omega
        have HTK := Lib.hid (show b.take t = L by rw [ht, HE.out]; simp)
        have htb : t ≤ b.length := by omega
        have htc : (t : Int) ≤ (c : Int) := by omega
        have ht0 : (0 : Int) ≤ (t : Int) := by omega
        have hcv : ∀ W, Sep w W [Rd g1 l2 true, Wr g2 L] → (convert 26 9 (.slice A t c)).run Try.prog W = .ok (.string ⟨L.toArray⟩) W := fun W hW => by
          have h1 := (hW.has HA.out).take t
          rw [← us_take, HTK.out] at h1
          have h2 : L.length = t := by rw [← HTK.out, List.length_take]; omega
          rw [← h2]
          exact run_str h1
        have HCV := Lib.hid hcv
        clear hcv ht
        go_wp2_with fail
        have hcv := HCV.out
        refine wp_region_list (fun W => Sep w W [Rd g1 l2 true, Wr g2 L]) (fun W W' => Below W.heap.size W W') [fun v _ => v = .int .i64 (t : Int), fun v _ => v = .bool false, fun v _ => v = .bool false, fun v _ => v = .pointer (some ⟨g2, 0, none⟩), IsB L, fun v _ => v = .string ⟨L.toArray⟩, fun v _ => v = .slice A b.length c, fun v _ => v = .int .i64 (t : Int), fun v _ => v = .slice A t c, fun v _ => v = .string ⟨L.toArray⟩, fun v _ => v = .bool false, fun v _ => v = .bool false] (by kernel_rfl) (by kernel_rfl) (by kernel_rfl) HS.out.drew
          ⟨fun _ _ _ _ h => h, fun _ _ _ _ h => h, fun _ _ _ _ h => h, fun _ _ _ _ h => h, fun _ _ _ hR h => h.keep hR, fun _ _ _ _ h => h, fun _ _ _ _ h => h, fun _ _ _ _ h => h, fun _ _ _ _ h => h, fun _ _ _ _ h => h, fun _ _ _ _ h => h, fun _ _ _ _ h => h, trivial⟩ ?_ ?_
        · refine EachOp.cons 1 rfl (fun x W hI H K hK => ?_) ?_
          · clear H
            simp only [putAll, Act.put, List.setIfInBounds_toArray, List.set_cons_zero, List.set_cons_succ]
            go_simp
            exact hK.out _ _ _ (by simp only [putAll, Act.put, List.setIfInBounds_toArray, List.set_cons_zero, List.set_cons_succ]) rfl (Below.refl _ _) hI
          refine EachOp.cons 2 rfl (fun x W hI H K hK => ?_) ?_
          · have h0 : x 0 = .int .i64 (t : Int) := H 0 (.edge (by kernel_rfl))
            clear H
            simp only [putAll, Act.put, List.setIfInBounds_toArray, List.set_cons_zero, List.set_cons_succ, h0]
            have d0 : decide ((t : Int) < 0) = false := decide_eq_false (by omega)
            go_simp
            exact hK.out _ _ _ (by simp only [putAll, Act.put, List.setIfInBounds_toArray, List.set_cons_zero, List.set_cons_succ, h0]) rfl (Below.refl _ _) hI
          refine EachOp.cons 3 rfl (fun x W hI H K hK => ?_) ?_
          · have h1 : x 1 = .bool false := H 1 (.edge (by kernel_rfl))
            clear H
            simp only [putAll, Act.put, List.setIfInBounds_toArray, List.set_cons_zero, List.set_cons_succ, h1]
            go_simp
            exact hK.out _ _ _ (by simp only [putAll, Act.put, List.setIfInBounds_toArray, List.set_cons_zero, List.set_cons_succ, h1]) rfl (Below.refl _ _) hI
          refine EachOp.cons 4 rfl (fun x W hI H K hK => ?_) ?_
          · have h2 : x 2 = .bool false := H 2 (.edge (by kernel_rfl))
            clear H
            simp only [putAll, Act.put, List.setIfInBounds_toArray, List.set_cons_zero, List.set_cons_succ, h2]
            go_simp
            exact hK.out _ _ _ (by simp only [putAll, Act.put, List.setIfInBounds_toArray, List.set_cons_zero, List.set_cons_succ, h2]) rfl (Below.refl _ _) hI
          refine EachOp.cons 5 rfl (fun x W hI H K hK => ?_) ?_
          · have h2 : x 2 = .bool false := H 2 (.edge (by kernel_rfl))
            have h3 : x 3 = .pointer (some ⟨g2, 0, none⟩) := H 3 (.edge (by kernel_rfl))
            clear H
            simp only [putAll, Act.put, List.setIfInBounds_toArray, List.set_cons_zero, List.set_cons_succ, h2, h3]
            go_simp
            obtain ⟨F0, r0, hw0, _⟩ := hI.get (i := 1) rfl
            refine (bytes_any W 0 _ r0 L hw0 (by omega)).mono ?_
            rintro e W' ⟨v, rfl, ho, hb⟩
            exact hK.out _ v W' (by simp only [putAll, Act.put, List.setIfInBounds_toArray, List.set_cons_zero, List.set_cons_succ, h2, h3]) (IsB.of_own ho) hb (hI.grow hb)
          refine EachOp.cons 6 rfl (fun x W hI H K hK => ?_) ?_
          · have h2 : x 2 = .bool false := H 2 (.edge (by kernel_rfl))
            have h4 := H 4 (.edge (by kernel_rfl))
            simp only [Dl] at h4
            clear H
            simp only [putAll, Act.put, List.setIfInBounds_toArray, List.set_cons_zero, List.set_cons_succ, h2]
            go_simp
            obtain ⟨A1, c1, e0, e1⟩ := h4
            have e2 := run_str (c := c1) e1
            clear e1
            rw [e0]
            go_simp
            exact hK.out _ _ _ (by simp only [putAll, Act.put, List.setIfInBounds_toArray, List.set_cons_zero, List.set_cons_succ, h2]; rw [e0]) rfl (Below.refl _ _) hI
          refine EachOp.cons 7 rfl (fun x W hI H K hK => ?_) ?_
          · have h2 : x 2 = .bool false := H 2 (.edge (by kernel_rfl))
            clear H
            simp only [putAll, Act.put, List.setIfInBounds_toArray, List.set_cons_zero, List.set_cons_succ, h2]
            go_simp
            exact hK.out _ _ _ (by simp only [putAll, Act.put, List.setIfInBounds_toArray, List.set_cons_zero, List.set_cons_succ, h2]) rfl (Below.refl _ _) hI
          refine EachOp.cons 8 rfl (fun x W hI H K hK => ?_) ?_
          · have h2 : x 2 = .bool false := H 2 (.edge (by kernel_rfl))
            clear H
            simp only [putAll, Act.put, List.setIfInBounds_toArray, List.set_cons_zero, List.set_cons_succ, h2]
            go_simp
            exact hK.out _ _ _ (by simp only [putAll, Act.put, List.setIfInBounds_toArray, List.set_cons_zero, List.set_cons_succ, h2]) rfl (Below.refl _ _) hI
          refine EachOp.cons 9 rfl (fun x W hI H K hK => ?_) ?_
          · have h2 : x 2 = .bool false := H 2 (.edge (by kernel_rfl))
            have h6 : x 6 = .slice A b.length c := H 6 (.edge (by kernel_rfl))
            have h7 : x 7 = .int .i64 (t : Int) := H 7 (.edge (by kernel_rfl))
            clear H
            simp only [putAll, Act.put, List.setIfInBounds_toArray, List.set_cons_zero, List.set_cons_succ, h2, h6, h7]
            go_simp
            exact hK.out _ _ _ (by simp only [putAll, Act.put, List.setIfInBounds_toArray, List.set_cons_zero, List.set_cons_succ, h2, h6, h7]) rfl (Below.refl _ _) hI
          refine EachOp.cons 10 rfl (fun x W hI H K hK => ?_) ?_
          · have h2 : x 2 = .bool false := H 2 (.edge (by kernel_rfl))
            have h8 : x 8 = .slice A t c := H 8 (.edge (by kernel_rfl))
            clear H
            simp only [putAll, Act.put, List.setIfInBounds_toArray, List.set_cons_zero, List.set_cons_succ, h2, h8]
            have e1 := hcv W hI
            clear hcv
            go_simp
            exact hK.out _ _ _ (by simp only [putAll, Act.put, List.setIfInBounds_toArray, List.set_cons_zero, List.set_cons_succ, h2, h8]) rfl (Below.refl _ _) hI
          refine EachOp.cons 11 rfl (fun x W hI H K hK => ?_) ?_
          · have h2 : x 2 = .bool false := H 2 (.edge (by kernel_rfl))
            have h5 : x 5 = .string ⟨L.toArray⟩ := H 5 (.edge (by kernel_rfl))
            have h9 : x 9 = .string ⟨L.toArray⟩ := H 9 (.edge (by kernel_rfl))
            clear H
            simp only [putAll, Act.put, List.setIfInBounds_toArray, List.set_cons_zero, List.set_cons_succ, h2, h5, h9]
            go_simp
            exact hK.out _ _ _ (by simp only [putAll, Act.put, List.setIfInBounds_toArray, List.set_cons_zero, List.set_cons_succ, h2, h5, h9]) rfl (Below.refl _ _) hI
          refine EachOp.cons 12 rfl (fun x W hI H K hK => ?_) ?_
          · have h2 : x 2 = .bool false := H 2 (.edge (by kernel_rfl))
            have h10 : x 10 = .bool false := H 10 (.edge (by kernel_rfl))
            clear H
            simp only [putAll, Act.put, List.setIfInBounds_toArray, List.set_cons_zero, List.set_cons_succ, h2, h10]
            go_simp
            exact hK.out _ _ _ (by simp only [putAll, Act.put, List.setIfInBounds_toArray, List.set_cons_zero, List.set_cons_succ, h2, h10]) rfl (Below.refl _ _) hI
          exact EachOp.nil
        · intro x W hI H
          have q11 : x 11 = .bool false := H 11 (of_decide_eq_true (by kernel_rfl))
          clear H
          simp only [putAll, Act.put, List.setIfInBounds_toArray, List.set_cons_zero, List.set_cons_succ, q11]
          clear q11
          have HS := Lib.hid hI
          clear hI
          go_wp2_with fail
          refine (sep_newReader HS.out w.heap.size A c b (HS.out.has HA.out) HS.out.size (by omega)).mono ?_
          rintro e w5 ⟨g3, rfl, hs5⟩
          have HS5 := Lib.hid hs5
          clear hs5
          go_wp2_with fail
          refine (sep_newWriter HS5.out).mono ?_
          rintro e w6 ⟨g4, rfl, hs6⟩
          have HS6 := Lib.hid hs6
          clear hs6 HS HS5
          simp only [List.cons_append, List.nil_append] at HS6
          go_wp2_with fail
          rcases rText_form b most with hf | ⟨s, r, hf, hsm, hrb, htx⟩
          · refine (sep_reads (l' := b) (bad' := true) (v := .string ⟨([] : List UInt8).toArray⟩) HS6.out (i := 2) rfl (by simp) (fun rb hr => by have h3 := textR_any w6 g3 rb b false most hr (by omega) hm1 hm2; rw [hf] at h3; exact h3)).mono ?_
            rintro e w7 ⟨rfl, hs7⟩
            have HS7 := Lib.hid hs7
            clear hs7 hf HS6
            simp only [List.set_cons_zero, List.set_cons_succ] at HS7
            go_wp2_with fail
            refine (sep_err (i := 2) HS7.out rfl).mono ?_
            rintro e w8 ⟨rfl, rfl⟩
            simp only [errOf, if_true]
            go_wp2_with fail
            refine (sep_left (i := 2) HS7.out rfl).mono ?_
            rintro e w8 ⟨rfl, rfl⟩
            go_wp2_with fail
            refine (codeAwake _).mono ?_
            rintro e w9 ⟨rfl, hb9⟩
            go_wp2
            go_ret
            exact ⟨rfl, (HS7.out.grow hb9).bel⟩
          · refine (sep_reads (l' := r) (bad' := false) (v := .string ⟨s.toArray⟩) HS6.out (i := 2) rfl hrb (fun rb hr => by have h3 := textR_any w6 g3 rb b false most hr (by omega) hm1 hm2; rw [hf] at h3; exact h3)).mono ?_
            rintro e w7 ⟨rfl, hs7⟩
            have HS7 := Lib.hid hs7
            have HTX := Lib.hid htx
            have hsl : s.length ≤ b.length := by
              have h1 := congrArg List.length htx
              unfold Code.text at h1
              rw [List.length_append, List.length_take] at h1
              omega
            clear hs7 hf HS6 htx
            simp only [List.set_cons_zero, List.set_cons_succ] at HS7
            go_wp2_with fail
            refine (sep_err (i := 2) HS7.out rfl).mono ?_
            rintro e w8 ⟨rfl, rfl⟩
            simp only [errOf, Bool.false_eq_true, if_false]
            go_wp2_with fail
            refine (sep_writes (i := 3) (l' := [] ++ Code.text s) HS7.out rfl (fun r0 hr => textW_any w7 0 g4 r0 [] s hr (Nat.zero_le _) (by simp; omega))).mono ?_
            rintro e w8 ⟨rfl, hs8⟩
            have HS8 := Lib.hid hs8
            clear hs8
            simp only [List.set_cons_zero, List.set_cons_succ, List.nil_append] at HS8
            obtain ⟨L2, hL2⟩ : ∃ L2, L2 = Code.text s := ⟨_, rfl⟩
            rw [← hL2] at HS8 HTX
            clear hL2
            go_wp2_with fail
            refine (sep_left (i := 2) HS8.out rfl).mono ?_
            rintro e w9 ⟨rfl, rfl⟩
            obtain ⟨t2, ht2⟩ : ∃ t2 : Nat, t2 = b.length - r.length := ⟨_, rfl⟩
            have hsub2 : (b.length : Int) - (r.length : Int) = (t2 : Int) := by omega
            have HTK2 := Lib.hid (show b.take t2 = L2 by rw [HTX.out, ht2])
            have hL2l : L2.length = t2 := by rw [← HTK2.out, List.length_take]; omega
            have htc2 : (t2 : Int) ≤ (c : Int) := by omega
            have ht02 : (0 : Int) ≤ (t2 : Int) := by omega
            have htb2 : (t2 : Int) ≤ (b.length : Int) := by omega
            have hcv2 : ∀ W, Sep w W [Rd g1 l2 true, Wr g2 L, Rd g3 r false, Wr g4 L2] → (convert 26 9 (.slice A t2 c)).run Try.prog W = .ok (.string ⟨L2.toArray⟩) W := fun W hW => by
              have h1 := (hW.has HA.out).take t2
              rw [← us_take, HTK2.out] at h1
              rw [← hL2l]
              exact run_str h1
            have HCV := Lib.hid hcv2
            have HL2 := Lib.hid hL2l
            have hL2b : L2.length ≤ 65536 := by omega
            have HS := Lib.hid HS8.out
            clear hcv2 ht2 hL2l HS8 HS7
            go_wp2_with fail
            have hcv2 := HCV.out
            refine wp_region_list (fun W => Sep w W [Rd g1 l2 true, Wr g2 L, Rd g3 r false, Wr g4 L2]) (fun W W' => Below W.heap.size W W') [fun v _ => v = .string ⟨s.toArray⟩, fun v _ => v = .int .i64 (s.length : Int), fun v _ => v = .int .i64 most, fun v _ => v = .bool true, fun v _ => v = .bool true, fun v _ => v = .int .i64 (t2 : Int), fun v _ => v = .bool true, fun v _ => v = .bool true, fun v _ => v = .bool true, fun v _ => v = .int .i64 (t2 : Int), fun v _ => v = .slice A b.length c, fun v _ => v = .int .i64 (b.length : Int), fun v _ => v = .bool true, fun v _ => v = .bool true, fun v _ => v = .bool true, fun v _ => v = .pointer (some ⟨g4, 0, none⟩), IsB L2, fun v _ => v = .string ⟨L2.toArray⟩, fun v _ => v = .slice A b.length c, fun v _ => v = .int .i64 (t2 : Int), fun v _ => v = .slice A t2 c, fun v _ => v = .string ⟨L2.toArray⟩, fun v _ => v = .bool true, fun v _ => v = .bool true, fun v _ => v = .bool true, fun v _ => v = .bool true, fun v _ => v = .bool true, fun v _ => v = .bool true] (by kernel_rfl) (by kernel_rfl) (by kernel_rfl) HS.out.drew
              ⟨fun _ _ _ _ h => h, fun _ _ _ _ h => h, fun _ _ _ _ h => h, fun _ _ _ _ h => h, fun _ _ _ _ h => h, fun _ _ _ _ h => h, fun _ _ _ _ h => h, fun _ _ _ _ h => h, fun _ _ _ _ h => h, fun _ _ _ _ h => h, fun _ _ _ _ h => h, fun _ _ _ _ h => h, fun _ _ _ _ h => h, fun _ _ _ _ h => h, fun _ _ _ _ h => h, fun _ _ _ _ h => h, fun _ _ _ hR h => h.keep hR, fun _ _ _ _ h => h, fun _ _ _ _ h => h, fun _ _ _ _ h => h, fun _ _ _ _ h => h, fun _ _ _ _ h => h, fun _ _ _ _ h => h, fun _ _ _ _ h => h, fun _ _ _ _ h => h, fun _ _ _ _ h => h, fun _ _ _ _ h => h, fun _ _ _ _ h => h, trivial⟩ ?_ ?_
            · refine EachOp.cons 1 rfl (fun x W hI H K hK => ?_) ?_
              · clear H
                simp only [putAll, Act.put, List.setIfInBounds_toArray, List.set_cons_zero, List.set_cons_succ]
                go_simp
                exact hK.out _ _ _ (by simp only [putAll, Act.put, List.setIfInBounds_toArray, List.set_cons_zero, List.set_cons_succ]) rfl (Below.refl _ _) hI
              refine EachOp.cons 2 rfl (fun x W hI H K hK => ?_) ?_
              · have h0 : x 0 = .string ⟨s.toArray⟩ := H 0 (.edge (by kernel_rfl))
                clear H
                simp only [putAll, Act.put, List.setIfInBounds_toArray, List.set_cons_zero, List.set_cons_succ, h0]
                go_simp
                exact hK.out _ _ _ (by simp only [putAll, Act.put, List.setIfInBounds_toArray, List.set_cons_zero, List.set_cons_succ, h0]) rfl (Below.refl _ _) hI
              refine EachOp.cons 3 rfl (fun x W hI H K hK => ?_) ?_
              · clear H
                simp only [putAll, Act.put, List.setIfInBounds_toArray, List.set_cons_zero, List.set_cons_succ]
                go_simp
                exact hK.out _ _ _ (by simp only [putAll, Act.put, List.setIfInBounds_toArray, List.set_cons_zero, List.set_cons_succ]) rfl (Below.refl _ _) hI
              refine EachOp.cons 4 rfl (fun x W hI H K hK => ?_) ?_
              · have h1 : x 1 = .int .i64 (s.length : Int) := H 1 (.edge (by kernel_rfl))
                have h2 : x 2 = .int .i64 most := H 2 (.edge (by kernel_rfl))
                clear H
                simp only [putAll, Act.put, List.setIfInBounds_toArray, List.set_cons_zero, List.set_cons_succ, h1, h2]
                have d0 : decide ((s.length : Int) ≤ most) = true := decide_eq_true hsm
                go_simp
                exact hK.out _ _ _ (by simp only [putAll, Act.put, List.setIfInBounds_toArray, List.set_cons_zero, List.set_cons_succ, h1, h2]) rfl (Below.refl _ _) hI
              refine EachOp.cons 5 rfl (fun x W hI H K hK => ?_) ?_
              · have h3 : x 3 = .bool true := H 3 (.edge (by kernel_rfl))
                clear H
                simp only [putAll, Act.put, List.setIfInBounds_toArray, List.set_cons_zero, List.set_cons_succ, h3]
                go_simp
                exact hK.out _ _ _ (by simp only [putAll, Act.put, List.setIfInBounds_toArray, List.set_cons_zero, List.set_cons_succ, h3]) rfl (Below.refl _ _) hI
              refine EachOp.cons 6 rfl (fun x W hI H K hK => ?_) ?_
              · have h4 : x 4 = .bool true := H 4 (.edge (by kernel_rfl))
                clear H
                simp only [putAll, Act.put, List.setIfInBounds_toArray, List.set_cons_zero, List.set_cons_succ, h4]
                go_simp
                exact hK.out _ _ _ (by simp only [putAll, Act.put, List.setIfInBounds_toArray, List.set_cons_zero, List.set_cons_succ, h4]) rfl (Below.refl _ _) hI
              refine EachOp.cons 7 rfl (fun x W hI H K hK => ?_) ?_
              · have h4 : x 4 = .bool true := H 4 (.edge (by kernel_rfl))
                have h5 : x 5 = .int .i64 (t2 : Int) := H 5 (.edge (by kernel_rfl))
                clear H
                simp only [putAll, Act.put, List.setIfInBounds_toArray, List.set_cons_zero, List.set_cons_succ, h4, h5]
                have d0 : decide ((0 : Int) ≤ (t2 : Int)) = true := decide_eq_true (by omega)
                go_simp
                exact hK.out _ _ _ (by simp only [putAll, Act.put, List.setIfInBounds_toArray, List.set_cons_zero, List.set_cons_succ, h4, h5]) rfl (Below.refl _ _) hI
              refine EachOp.cons 8 rfl (fun x W hI H K hK => ?_) ?_
              · have h4 : x 4 = .bool true := H 4 (.edge (by kernel_rfl))
                have h6 : x 6 = .bool true := H 6 (.edge (by kernel_rfl))
                clear H
                simp only [putAll, Act.put, List.setIfInBounds_toArray, List.set_cons_zero, List.set_cons_succ, h4, h6]
                go_simp
                exact hK.out _ _ _ (by simp only [putAll, Act.put, List.setIfInBounds_toArray, List.set_cons_zero, List.set_cons_succ, h4, h6]) rfl (Below.refl _ _) hI
              refine EachOp.cons 9 rfl (fun x W hI H K hK => ?_) ?_
              · have h7 : x 7 = .bool true := H 7 (.edge (by kernel_rfl))
                clear H
                simp only [putAll, Act.put, List.setIfInBounds_toArray, List.set_cons_zero, List.set_cons_succ, h7]
                go_simp
                exact hK.out _ _ _ (by simp only [putAll, Act.put, List.setIfInBounds_toArray, List.set_cons_zero, List.set_cons_succ, h7]) rfl (Below.refl _ _) hI
              refine EachOp.cons 10 rfl (fun x W hI H K hK => ?_) ?_
              · have h8 : x 8 = .bool true := H 8 (.edge (by kernel_rfl))
                clear H
                simp only [putAll, Act.put, List.setIfInBounds_toArray, List.set_cons_zero, List.set_cons_succ, h8]
                go_simp
                exact hK.out _ _ _ (by simp only [putAll, Act.put, List.setIfInBounds_toArray, List.set_cons_zero, List.set_cons_succ, h8]) rfl (Below.refl _ _) hI
              refine EachOp.cons 11 rfl (fun x W hI H K hK => ?_) ?_
              · have h8 : x 8 = .bool true := H 8 (.edge (by kernel_rfl))
                clear H
                simp only [putAll, Act.put, List.setIfInBounds_toArray, List.set_cons_zero, List.set_cons_succ, h8]
                go_simp
                exact hK.out _ _ _ (by simp only [putAll, Act.put, List.setIfInBounds_toArray, List.set_cons_zero, List.set_cons_succ, h8]) rfl (Below.refl _ _) hI
              refine EachOp.cons 12 rfl (fun x W hI H K hK => ?_) ?_
              · have h8 : x 8 = .bool true := H 8 (.edge (by kernel_rfl))
                have h10 : x 10 = .slice A b.length c := H 10 (.edge (by kernel_rfl))
                clear H
                simp only [putAll, Act.put, List.setIfInBounds_toArray, List.set_cons_zero, List.set_cons_succ, h8, h10]
                go_simp
                exact hK.out _ _ _ (by simp only [putAll, Act.put, List.setIfInBounds_toArray, List.set_cons_zero, List.set_cons_succ, h8, h10]) rfl (Below.refl _ _) hI
              refine EachOp.cons 13 rfl (fun x W hI H K hK => ?_) ?_
              · have h8 : x 8 = .bool true := H 8 (.edge (by kernel_rfl))
                have h9 : x 9 = .int .i64 (t2 : Int) := H 9 (.edge (by kernel_rfl))
                have h11 : x 11 = .int .i64 (b.length : Int) := H 11 (.edge (by kernel_rfl))
                clear H
                simp only [putAll, Act.put, List.setIfInBounds_toArray, List.set_cons_zero, List.set_cons_succ, h8, h9, h11]
                have d0 : decide ((t2 : Int) ≤ (b.length : Int)) = true := decide_eq_true htb2
                have d1 : decide (t2 ≤ b.length) = true := decide_eq_true (by omega)
                go_simp
                exact hK.out _ _ _ (by simp only [putAll, Act.put, List.setIfInBounds_toArray, List.set_cons_zero, List.set_cons_succ, h8, h9, h11]) rfl (Below.refl _ _) hI
              refine EachOp.cons 14 rfl (fun x W hI H K hK => ?_) ?_
              · have h8 : x 8 = .bool true := H 8 (.edge (by kernel_rfl))
                have h12 : x 12 = .bool true := H 12 (.edge (by kernel_rfl))
                clear H
                simp only [putAll, Act.put, List.setIfInBounds_toArray, List.set_cons_zero, List.set_cons_succ, h8, h12]
                go_simp
                exact hK.out _ _ _ (by simp only [putAll, Act.put, List.setIfInBounds_toArray, List.set_cons_zero, List.set_cons_succ, h8, h12]) rfl (Below.refl _ _) hI
              refine EachOp.cons 15 rfl (fun x W hI H K hK => ?_) ?_
              · have h13 : x 13 = .bool true := H 13 (.edge (by kernel_rfl))
                clear H
                simp only [putAll, Act.put, List.setIfInBounds_toArray, List.set_cons_zero, List.set_cons_succ, h13]
                go_simp
                exact hK.out _ _ _ (by simp only [putAll, Act.put, List.setIfInBounds_toArray, List.set_cons_zero, List.set_cons_succ, h13]) rfl (Below.refl _ _) hI
              refine EachOp.cons 16 rfl (fun x W hI H K hK => ?_) ?_
              · have h14 : x 14 = .bool true := H 14 (.edge (by kernel_rfl))
                clear H
                simp only [putAll, Act.put, List.setIfInBounds_toArray, List.set_cons_zero, List.set_cons_succ, h14]
                go_simp
                exact hK.out _ _ _ (by simp only [putAll, Act.put, List.setIfInBounds_toArray, List.set_cons_zero, List.set_cons_succ, h14]) rfl (Below.refl _ _) hI
              refine EachOp.cons 17 rfl (fun x W hI H K hK => ?_) ?_
              · have h14 : x 14 = .bool true := H 14 (.edge (by kernel_rfl))
                have h15 : x 15 = .pointer (some ⟨g4, 0, none⟩) := H 15 (.edge (by kernel_rfl))
                clear H
                simp only [putAll, Act.put, List.setIfInBounds_toArray, List.set_cons_zero, List.set_cons_succ, h14, h15]
                go_simp
                obtain ⟨F0, r0, hw0, _⟩ := hI.get (i := 3) rfl
                refine (bytes_any W 0 _ r0 L2 hw0 (by omega)).mono ?_
                rintro e W' ⟨v, rfl, ho, hb⟩
                exact hK.out _ v W' (by simp only [putAll, Act.put, List.setIfInBounds_toArray, List.set_cons_zero, List.set_cons_succ, h14, h15]) (IsB.of_own ho) hb (hI.grow hb)
              refine EachOp.cons 18 rfl (fun x W hI H K hK => ?_) ?_
              · have h14 : x 14 = .bool true := H 14 (.edge (by kernel_rfl))
                have h16 := H 16 (.edge (by kernel_rfl))
                simp only [Dl] at h16
                clear H
                simp only [putAll, Act.put, List.setIfInBounds_toArray, List.set_cons_zero, List.set_cons_succ, h14]
                go_simp
                obtain ⟨A1, c1, e0, e1⟩ := h16
                have e2 := run_str (c := c1) e1
                clear e1
                rw [e0]
                go_simp
                exact hK.out _ _ _ (by simp only [putAll, Act.put, List.setIfInBounds_toArray, List.set_cons_zero, List.set_cons_succ, h14]; rw [e0]) rfl (Below.refl _ _) hI
              refine EachOp.cons 19 rfl (fun x W hI H K hK => ?_) ?_
              · have h14 : x 14 = .bool true := H 14 (.edge (by kernel_rfl))
                clear H
                simp only [putAll, Act.put, List.setIfInBounds_toArray, List.set_cons_zero, List.set_cons_succ, h14]
                go_simp
                exact hK.out _ _ _ (by simp only [putAll, Act.put, List.setIfInBounds_toArray, List.set_cons_zero, List.set_cons_succ, h14]) rfl (Below.refl _ _) hI
              refine EachOp.cons 20 rfl (fun x W hI H K hK => ?_) ?_
              · have h14 : x 14 = .bool true := H 14 (.edge (by kernel_rfl))
                clear H
                simp only [putAll, Act.put, List.setIfInBounds_toArray, List.set_cons_zero, List.set_cons_succ, h14]
                go_simp
                exact hK.out _ _ _ (by simp only [putAll, Act.put, List.setIfInBounds_toArray, List.set_cons_zero, List.set_cons_succ, h14]) rfl (Below.refl _ _) hI
              refine EachOp.cons 21 rfl (fun x W hI H K hK => ?_) ?_
              · have h14 : x 14 = .bool true := H 14 (.edge (by kernel_rfl))
                have h18 : x 18 = .slice A b.length c := H 18 (.edge (by kernel_rfl))
                have h19 : x 19 = .int .i64 (t2 : Int) := H 19 (.edge (by kernel_rfl))
                clear H
                simp only [putAll, Act.put, List.setIfInBounds_toArray, List.set_cons_zero, List.set_cons_succ, h14, h18, h19]
                go_simp
                exact hK.out _ _ _ (by simp only [putAll, Act.put, List.setIfInBounds_toArray, List.set_cons_zero, List.set_cons_succ, h14, h18, h19]) rfl (Below.refl _ _) hI
              refine EachOp.cons 22 rfl (fun x W hI H K hK => ?_) ?_
              · have h14 : x 14 = .bool true := H 14 (.edge (by kernel_rfl))
                have h20 : x 20 = .slice A t2 c := H 20 (.edge (by kernel_rfl))
                clear H
                simp only [putAll, Act.put, List.setIfInBounds_toArray, List.set_cons_zero, List.set_cons_succ, h14, h20]
                have e1 := hcv2 W hI
                clear hcv2
                go_simp
                exact hK.out _ _ _ (by simp only [putAll, Act.put, List.setIfInBounds_toArray, List.set_cons_zero, List.set_cons_succ, h14, h20]) rfl (Below.refl _ _) hI
              refine EachOp.cons 23 rfl (fun x W hI H K hK => ?_) ?_
              · have h14 : x 14 = .bool true := H 14 (.edge (by kernel_rfl))
                have h17 : x 17 = .string ⟨L2.toArray⟩ := H 17 (.edge (by kernel_rfl))
                have h21 : x 21 = .string ⟨L2.toArray⟩ := H 21 (.edge (by kernel_rfl))
                clear H
                simp only [putAll, Act.put, List.setIfInBounds_toArray, List.set_cons_zero, List.set_cons_succ, h14, h17, h21]
                go_simp
                exact hK.out _ _ _ (by simp only [putAll, Act.put, List.setIfInBounds_toArray, List.set_cons_zero, List.set_cons_succ, h14, h17, h21]) rfl (Below.refl _ _) hI
              refine EachOp.cons 24 rfl (fun x W hI H K hK => ?_) ?_
              · have h14 : x 14 = .bool true := H 14 (.edge (by kernel_rfl))
                have h22 : x 22 = .bool true := H 22 (.edge (by kernel_rfl))
                clear H
                simp only [putAll, Act.put, List.setIfInBounds_toArray, List.set_cons_zero, List.set_cons_succ, h14, h22]
                go_simp
                exact hK.out _ _ _ (by simp only [putAll, Act.put, List.setIfInBounds_toArray, List.set_cons_zero, List.set_cons_succ, h14, h22]) rfl (Below.refl _ _) hI
              refine EachOp.cons 25 rfl (fun x W hI H K hK => ?_) ?_
              · have h23 : x 23 = .bool true := H 23 (.edge (by kernel_rfl))
                clear H
                simp only [putAll, Act.put, List.setIfInBounds_toArray, List.set_cons_zero, List.set_cons_succ, h23]
                go_simp
                exact hK.out _ _ _ (by simp only [putAll, Act.put, List.setIfInBounds_toArray, List.set_cons_zero, List.set_cons_succ, h23]) rfl (Below.refl _ _) hI
              refine EachOp.cons 26 rfl (fun x W hI H K hK => ?_) ?_
              · have h24 : x 24 = .bool true := H 24 (.edge (by kernel_rfl))
                clear H
                simp only [putAll, Act.put, List.setIfInBounds_toArray, List.set_cons_zero, List.set_cons_succ, h24]
                go_simp
                refine (codeAwake _).mono ?_
                rintro e W' ⟨rfl, hb⟩
                exact hK.out _ _ W' (by simp only [putAll, Act.put, List.setIfInBounds_toArray, List.set_cons_zero, List.set_cons_succ, h24]) rfl hb (hI.grow hb)
              refine EachOp.cons 27 rfl (fun x W hI H K hK => ?_) ?_
              · have h24 : x 24 = .bool true := H 24 (.edge (by kernel_rfl))
                have h25 : x 25 = .bool true := H 25 (.edge (by kernel_rfl))
                clear H
                simp only [putAll, Act.put, List.setIfInBounds_toArray, List.set_cons_zero, List.set_cons_succ, h24, h25]
                go_simp
                exact hK.out _ _ _ (by simp only [putAll, Act.put, List.setIfInBounds_toArray, List.set_cons_zero, List.set_cons_succ, h24, h25]) rfl (Below.refl _ _) hI
              refine EachOp.cons 28 rfl (fun x W hI H K hK => ?_) ?_
              · have h26 : x 26 = .bool true := H 26 (.edge (by kernel_rfl))
                clear H
                simp only [putAll, Act.put, List.setIfInBounds_toArray, List.set_cons_zero, List.set_cons_succ, h26]
                go_simp
                exact hK.out _ _ _ (by simp only [putAll, Act.put, List.setIfInBounds_toArray, List.set_cons_zero, List.set_cons_succ, h26]) rfl (Below.refl _ _) hI
              exact EachOp.nil
            · intro x W hI H
              have q27 : x 27 = .bool true := H 27 (of_decide_eq_true (by kernel_rfl))
              clear H
              simp only [putAll, Act.put, List.setIfInBounds_toArray, List.set_cons_zero, List.set_cons_succ, q27]
              clear q27
              go_wp2
              go_ret
              exact ⟨rfl, hI.bel⟩
end Go.Proofs.Ytkjficbegjhefaa
