/- The walk of the law CodeTravels. -/
import Derived.Test.YtkjficbegjhefaaTravel
import Derived.Test.YtkjficbegjhefaaRgF
import Derived.Test.YtkjficbegjhefaaOpenStr
namespace Go.Proofs.Ytkjficbegjhefaa
open Go Go.RowKit
set_option linter.unusedVariables false
set_option linter.unusedSimpArgs false
set_option linter.unnecessarySimpa false
set_option maxRecDepth 100000

set_option maxHeartbeats 6400000 in
theorem codeTravels_walk (w : World) (A B : Option Addr) (c d : Nat) (xs : List Nat) (ts : List (List UInt8)) (hA : Has w w.heap.size A (u64s xs)) (hB : Has w w.heap.size B (strsOf ts)) (hx : ∀ x ∈ xs, x < 18446744073709551616) (ht : ∀ x ∈ ts, x.length ≤ 140737488355328) :
    Calls Try.prog 11 #[.slice A xs.length c, .slice B ts.length d] w fun e w' => e = .returned (.bool true) ∧ Below w.heap.size w w' := by
  have HXX := Lib.hid hx
  have HTB := Lib.hid ht
  have hcx : ∀ (k : Nat) (hk : k < xs.length), ∃ b o : Nat, A = some ⟨b, o, none⟩ ∧ ∀ W, Below w.heap.size w W → W.cell? ⟨b, o + k, none⟩ = some (.int .u64 (xs[k] : Int)) := fun k hk => by
    obtain ⟨b, o, e, hbB, hc⟩ := hA.at_ (show k < (u64s xs).length by rw [u64s_length]; exact hk)
    exact ⟨b, o, e, fun W hW => by rw [hW.cell (p := ⟨b, o + k, none⟩) hbB, hc]; simp [u64s]⟩
  have hct : ∀ (k : Nat) (hk : k < ts.length), ∃ b o : Nat, B = some ⟨b, o, none⟩ ∧ ∀ W, Below w.heap.size w W → W.cell? ⟨b, o + k, none⟩ = some (.string ⟨(ts[k]).toArray⟩) := fun k hk => by
    obtain ⟨b, o, e, hbB, hc⟩ := hB.at_ (show k < (strsOf ts).length by rw [strsOf_length]; exact hk)
    exact ⟨b, o, e, fun W hW => by rw [hW.cell (p := ⟨b, o + k, none⟩) hbB, hc]; simp [strsOf]⟩
  have HCX0 := Lib.hid hcx
  have HCT0 := Lib.hid hct
  clear hA hB hx ht hcx hct
  by_cases hl1 : 1000 < xs.length
  · go_enter Try.func11, Try.ntmps11
    go_wp2_with fail
    refine (codeAwake w).mono ?_
    rintro e w' ⟨rfl, hb⟩
    go_wp2
    go_ret
    exact ⟨rfl, hb⟩
  by_cases hl2 : 1000 < ts.length
  · go_enter Try.func11, Try.ntmps11
    go_wp2_with fail
    refine (codeAwake w).mono ?_
    rintro e w' ⟨rfl, hb⟩
    go_wp2
    go_ret
    exact ⟨rfl, hb⟩
  obtain ⟨N, hN1, hN2, hN3⟩ : ∃ N, xs.length ≤ N ∧ ts.length ≤ N ∧ (N ≤ xs.length ∨ N ≤ ts.length) := ⟨max xs.length ts.length, by omega, by omega, by omega⟩
  go_enter Try.func11, Try.ntmps11
  go_wp2_with fail
  refine (sep_newWriter (Sep.nil w)).mono ?_
  rintro e w1 ⟨g, rfl, hs1⟩
  have HS0 := Lib.hid (show Sep w w1 [Wr g []] from hs1)
  clear hs1
  go_wp2_with fail
  go_loopw [4, 6] (fun s4 iv wr => ∃ k : Nat, k ≤ N ∧ s4 = .bool false ∧ iv = .int .i64 k ∧ Hid (∀ i t, i < k → ts[i]? = some t → t.length ≤ 10000) ∧ Hid (Sep w wr [Wr g (fromK xs ts 0 k)])) (fun _ iv _ => N - (intOf iv).toNat)
  case atStart => exact ⟨0, Nat.zero_le _, rfl, rfl, Lib.hid (fun i t hi => by omega), HS0⟩
  case round =>
    obtain ⟨k, hk, rfl, rfl, HSH, HS⟩ := hrel
    have hLl : (fromK xs ts 0 k).length ≤ 20030000 := by
      have h1 := fromK_length xs ts 0 k fun i t hi => HSH.out i t (by omega)
      omega
    by_cases hkN : k < N
    · have HSN := Lib.hid (fromK_snoc xs ts k)
      obtain ⟨L, HL⟩ : ∃ L, Hid (fromK xs ts 0 k = L) := ⟨_, Lib.hid rfl⟩
      rw [HL.out] at HS hLl
      by_cases h1 : k < xs.length
      · by_cases h2 : k < ts.length
        · skip
          obtain ⟨b, o, rfl, hcx⟩ := HCX0.out k h1
          have hxk := HXX.out xs[k] (List.getElem_mem h1)
          have HCX := Lib.hid hcx
          have HXK := Lib.hid hxk
          clear hcx hxk
          obtain ⟨x, Hx⟩ : ∃ x, Hid (xs[k] = x) := ⟨_, Lib.hid rfl⟩
          rw [Hx.out] at HCX HXK
          obtain ⟨s, hs4⟩ : ∃ s, s = k % 4 := ⟨_, rfl⟩
          have hsl : s < 4 := by omega
          have HAND := Lib.hid (show bits .and .i64 (k : Int) 3 = (s : Int) by rw [and_3]; congr 1; omega)
          have h2s : 2 ^ s ≤ 8 := by
            have : 2 ^ s ≤ 2 ^ 3 := Nat.pow_le_pow_right (by omega) (by omega)
            omega
          have HSM := Lib.hid (show ((s : Int)) % 9 = ((s : Nat) : Int) by omega)
          have HPX := Lib.hid (show partX xs k = Code.wide (2 ^ s) x ++ Code.short x by rw [partX_some h1, Hx.out, hs4])
          have hshl := (Code.short_length x).2
          clear hs4
          obtain ⟨L1, HL1⟩ : ∃ L1, Hid (L ++ Code.wide (2 ^ s) x = L1) := ⟨_, Lib.hid rfl⟩
          obtain ⟨L2, HL2⟩ : ∃ L2, Hid (L1 ++ Code.short x = L2) := ⟨_, Lib.hid rfl⟩
          have hL1 : L1.length ≤ L.length + 8 := by rw [← HL1.out, List.length_append, Code.wide_length]; omega
          have hL2 : L2.length ≤ L.length + 19 := by rw [← HL2.out, List.length_append]; omega
          have HP := Lib.hid (show L ++ partX xs k = L2 by rw [HPX.out, ← HL2.out, ← HL1.out, List.append_assoc])
          have hc1 := HCX.out wr HS.out.bel
          have hand := HAND.out
          go_wp2_with fail
          refine (sep_writes (i := 0) (l' := L ++ Code.wide (2 ^ s) x) HS.out rfl (fun r hr => lawPut_any _ g r L x s hr HXK.out hsl (by omega))).mono ?_
          rintro e w3 ⟨rfl, hs3⟩
          have HS3 := Lib.hid (show Sep w w3 [Wr g L1] by rw [← HL1.out]; exact hs3)
          clear hs3 hc1 hand
          have hc1 := HCX.out w3 HS3.out.bel
          go_wp2_with fail
          refine (sep_writes (i := 0) (l' := L1 ++ Code.short x) HS3.out rfl (fun r hr => uint_any _ 0 g r L1 x hr (Nat.zero_le _) HXK.out (by omega))).mono ?_
          rintro e w4 ⟨rfl, hs4⟩
          have HS4 := Lib.hid (show Sep w w4 [Wr g L2] by rw [← HL2.out]; exact hs4)
          clear hs4 hc1
          obtain ⟨b2, o2, rfl, hct⟩ := HCT0.out k h2
          have HCT := Lib.hid hct
          clear hct
          have htb := HTB.out ts[k] (List.getElem_mem h2)
          obtain ⟨t, Ht⟩ : ∃ t, Hid (ts[k] = t) := ⟨_, Lib.hid rfl⟩
          rw [Ht.out] at HCT htb
          have HPT := Lib.hid (show partT ts k = Code.text t ++ t by rw [partT_some h2, Ht.out])
          have hsz := size_str t
          have htx : (Code.text t).length ≤ t.length + 11 := by
            have := (Code.short_length t.length).2
            unfold Code.text
            rw [List.length_append]
            omega
          have hc2 := HCT.out w4 HS4.out.bel
          by_cases ht : 10000 < t.length
          · go_wp2_with fail
            refine (codeAwake _).mono ?_
            rintro e w5 ⟨rfl, hb5⟩
            go_wp2
            go_ret
            exact ⟨rfl, (HS4.out.grow hb5).bel⟩
          · obtain ⟨L3, HL3⟩ : ∃ L3, Hid (L2 ++ Code.text t = L3) := ⟨_, Lib.hid rfl⟩
            obtain ⟨L4, HL4⟩ : ∃ L4, Hid (L3 ++ t = L4) := ⟨_, Lib.hid rfl⟩
            have hL3 : L3.length ≤ L.length + 10100 := by rw [← HL3.out, List.length_append]; omega
            have HP2 := Lib.hid (show L2 ++ partT ts k = L4 by rw [HPT.out, ← HL4.out, ← HL3.out, List.append_assoc])
            go_wp2_with fail
            refine (sep_writes (i := 0) (l' := L2 ++ Code.text t) HS4.out rfl (fun r hr => textW_any _ 0 g r L2 t hr (Nat.zero_le _) (by omega))).mono ?_
            rintro e w5 ⟨rfl, hs5⟩
            have HS5 := Lib.hid (show Sep w w5 [Wr g L3] by rw [← HL3.out]; exact hs5)
            clear hs5 hc2
            obtain ⟨w6, c6, hcv, hs6⟩ := sep_conv HS5.out t
            have HS6 := Lib.hid (show Sep w w6 [Wr g L3, Cv (.slice (some ⟨w5.heap.size, 0, none⟩) t.length c6) t] from hs6)
            have hc2 := HCT.out w5 HS5.out.bel
            clear hs6
            go_wp2_with fail
            clear hcv hc2
            obtain ⟨A4, c5, e4, hh4⟩ := sep_cvHas (i := 1) HS6.out rfl
            injection e4 with e4 _ e5
            subst e4 e5
            have HH4 := Lib.hid hh4
            clear hh4
            refine (sep_writes (i := 0) (l' := L3 ++ t) HS6.out rfl (fun r hr => rawW_any w6 0 g r L3 _ c6 t w6.heap.size hr (Nat.zero_le _) HH4.out (by omega))).mono ?_
            rintro e w7 ⟨rfl, hs7⟩
            have HS7 := Lib.hid (show Sep w w7 [Wr g L4] by rw [← HL4.out]; exact hs7.drop 1)
            clear hs7
            go_wp2
            go_roundw
            case rel => exact ⟨k + 1, by omega, rfl, by go_num, Lib.hid (fun i t0 hi h0 => by
                rcases Nat.lt_or_ge i k with h | h
                · exact HSH.out i t0 h h0
                · obtain rfl : i = k := by omega
                  rw [List.getElem?_eq_getElem h2, Ht.out] at h0
                  injection h0 with h0
                  rw [← h0]; omega), by rw [HSN.out, HL.out, HP.out, HP2.out]; exact HS7⟩
            case measure => simp [intOf]; omega
        · skip
          obtain ⟨b, o, rfl, hcx⟩ := HCX0.out k h1
          have hxk := HXX.out xs[k] (List.getElem_mem h1)
          have HCX := Lib.hid hcx
          have HXK := Lib.hid hxk
          clear hcx hxk
          obtain ⟨x, Hx⟩ : ∃ x, Hid (xs[k] = x) := ⟨_, Lib.hid rfl⟩
          rw [Hx.out] at HCX HXK
          obtain ⟨s, hs4⟩ : ∃ s, s = k % 4 := ⟨_, rfl⟩
          have hsl : s < 4 := by omega
          have HAND := Lib.hid (show bits .and .i64 (k : Int) 3 = (s : Int) by rw [and_3]; congr 1; omega)
          have h2s : 2 ^ s ≤ 8 := by
            have : 2 ^ s ≤ 2 ^ 3 := Nat.pow_le_pow_right (by omega) (by omega)
            omega
          have HSM := Lib.hid (show ((s : Int)) % 9 = ((s : Nat) : Int) by omega)
          have HPX := Lib.hid (show partX xs k = Code.wide (2 ^ s) x ++ Code.short x by rw [partX_some h1, Hx.out, hs4])
          have hshl := (Code.short_length x).2
          clear hs4
          obtain ⟨L1, HL1⟩ : ∃ L1, Hid (L ++ Code.wide (2 ^ s) x = L1) := ⟨_, Lib.hid rfl⟩
          obtain ⟨L2, HL2⟩ : ∃ L2, Hid (L1 ++ Code.short x = L2) := ⟨_, Lib.hid rfl⟩
          have hL1 : L1.length ≤ L.length + 8 := by rw [← HL1.out, List.length_append, Code.wide_length]; omega
          have hL2 : L2.length ≤ L.length + 19 := by rw [← HL2.out, List.length_append]; omega
          have HP := Lib.hid (show L ++ partX xs k = L2 by rw [HPX.out, ← HL2.out, ← HL1.out, List.append_assoc])
          have hc1 := HCX.out wr HS.out.bel
          have hand := HAND.out
          go_wp2_with fail
          refine (sep_writes (i := 0) (l' := L ++ Code.wide (2 ^ s) x) HS.out rfl (fun r hr => lawPut_any _ g r L x s hr HXK.out hsl (by omega))).mono ?_
          rintro e w3 ⟨rfl, hs3⟩
          have HS3 := Lib.hid (show Sep w w3 [Wr g L1] by rw [← HL1.out]; exact hs3)
          clear hs3 hc1 hand
          have hc1 := HCX.out w3 HS3.out.bel
          go_wp2_with fail
          refine (sep_writes (i := 0) (l' := L1 ++ Code.short x) HS3.out rfl (fun r hr => uint_any _ 0 g r L1 x hr (Nat.zero_le _) HXK.out (by omega))).mono ?_
          rintro e w4 ⟨rfl, hs4⟩
          have HS4 := Lib.hid (show Sep w w4 [Wr g L2] by rw [← HL2.out]; exact hs4)
          clear hs4 hc1
          have HP2 := Lib.hid (show L2 ++ partT ts k = L2 by rw [partT_none h2, List.append_nil])
          go_wp2
          go_roundw
          case rel => exact ⟨k + 1, by omega, rfl, by go_num, Lib.hid (fun i t0 hi h0 => by
              rcases Nat.lt_or_ge i k with h | h
              · exact HSH.out i t0 h h0
              · rw [List.getElem?_eq_none (by omega)] at h0; cases h0), by rw [HSN.out, HL.out, HP.out, HP2.out]; exact HS4⟩
          case measure => simp [intOf]; omega
      · have h2 : k < ts.length := by omega
        obtain ⟨L2, HL2⟩ : ∃ L2, Hid (L = L2) := ⟨_, Lib.hid rfl⟩
        have HP := Lib.hid (show L ++ partX xs k = L2 by rw [partX_none h1, List.append_nil, HL2.out])
        have hL2 : L2.length ≤ L.length + 19 := by rw [← HL2.out]; omega
        have HS4 := Lib.hid (show Sep w wr [Wr g L2] by rw [← HL2.out]; exact HS.out)
        obtain ⟨w4, rfl⟩ : ∃ w4, w4 = wr := ⟨_, rfl⟩
        obtain ⟨b2, o2, rfl, hct⟩ := HCT0.out k h2
        have HCT := Lib.hid hct
        clear hct
        have htb := HTB.out ts[k] (List.getElem_mem h2)
        obtain ⟨t, Ht⟩ : ∃ t, Hid (ts[k] = t) := ⟨_, Lib.hid rfl⟩
        rw [Ht.out] at HCT htb
        have HPT := Lib.hid (show partT ts k = Code.text t ++ t by rw [partT_some h2, Ht.out])
        have hsz := size_str t
        have htx : (Code.text t).length ≤ t.length + 11 := by
          have := (Code.short_length t.length).2
          unfold Code.text
          rw [List.length_append]
          omega
        have hc2 := HCT.out w4 HS4.out.bel
        by_cases ht : 10000 < t.length
        · go_wp2_with fail
          refine (codeAwake _).mono ?_
          rintro e w5 ⟨rfl, hb5⟩
          go_wp2
          go_ret
          exact ⟨rfl, (HS4.out.grow hb5).bel⟩
        · obtain ⟨L3, HL3⟩ : ∃ L3, Hid (L2 ++ Code.text t = L3) := ⟨_, Lib.hid rfl⟩
          obtain ⟨L4, HL4⟩ : ∃ L4, Hid (L3 ++ t = L4) := ⟨_, Lib.hid rfl⟩
          have hL3 : L3.length ≤ L.length + 10100 := by rw [← HL3.out, List.length_append]; omega
          have HP2 := Lib.hid (show L2 ++ partT ts k = L4 by rw [HPT.out, ← HL4.out, ← HL3.out, List.append_assoc])
          go_wp2_with fail
          refine (sep_writes (i := 0) (l' := L2 ++ Code.text t) HS4.out rfl (fun r hr => textW_any _ 0 g r L2 t hr (Nat.zero_le _) (by omega))).mono ?_
          rintro e w5 ⟨rfl, hs5⟩
          have HS5 := Lib.hid (show Sep w w5 [Wr g L3] by rw [← HL3.out]; exact hs5)
          clear hs5 hc2
          obtain ⟨w6, c6, hcv, hs6⟩ := sep_conv HS5.out t
          have HS6 := Lib.hid (show Sep w w6 [Wr g L3, Cv (.slice (some ⟨w5.heap.size, 0, none⟩) t.length c6) t] from hs6)
          have hc2 := HCT.out w5 HS5.out.bel
          clear hs6
          go_wp2_with fail
          clear hcv hc2
          obtain ⟨A4, c5, e4, hh4⟩ := sep_cvHas (i := 1) HS6.out rfl
          injection e4 with e4 _ e5
          subst e4 e5
          have HH4 := Lib.hid hh4
          clear hh4
          refine (sep_writes (i := 0) (l' := L3 ++ t) HS6.out rfl (fun r hr => rawW_any w6 0 g r L3 _ c6 t w6.heap.size hr (Nat.zero_le _) HH4.out (by omega))).mono ?_
          rintro e w7 ⟨rfl, hs7⟩
          have HS7 := Lib.hid (show Sep w w7 [Wr g L4] by rw [← HL4.out]; exact hs7.drop 1)
          clear hs7
          go_wp2
          go_roundw
          case rel => exact ⟨k + 1, by omega, rfl, by go_num, Lib.hid (fun i t0 hi h0 => by
              rcases Nat.lt_or_ge i k with h | h
              · exact HSH.out i t0 h h0
              · obtain rfl : i = k := by omega
                rw [List.getElem?_eq_getElem h2, Ht.out] at h0
                injection h0 with h0
                rw [← h0]; omega), by rw [HSN.out, HL.out, HP.out, HP2.out]; exact HS7⟩
          case measure => simp [intOf]; omega
    · obtain rfl : k = N := by omega
      have h1 : ¬ k < xs.length := by omega
      have h2 : ¬ k < ts.length := by omega
      have HFL := Lib.hid (fun j n (h : j + n = k) => fromK_length xs ts j n fun i t hi => HSH.out i t (by omega))
      obtain ⟨L, HL⟩ : ∃ L, Hid (fromK xs ts 0 k = L) := ⟨_, Lib.hid rfl⟩
      rw [HL.out] at HS hLl
      go_wp2_with fail
      refine (sep_bytes (i := 0) HS.out rfl (by omega)).mono ?_
      rintro e w3 ⟨v3, rfl, hs3⟩
      have HS3 := Lib.hid (show Sep w w3 [Wr g L, By v3 L] from hs3)
      obtain ⟨A3, c3, rfl, _, _, hh3⟩ := sep_byForm (i := 1) HS3.out rfl
      have HH3 := Lib.hid hh3
      clear hs3 hh3
      go_wp2_with fail
      refine (sep_newReader HS3.out w3.heap.size A3 c3 L HH3.out (Nat.le_refl _) (by omega)).mono ?_
      rintro e w4 ⟨g7, rfl, hs4⟩
      have HS4 := Lib.hid (show Sep w w4 [Rd g7 L false] from (hs4.drop 0).drop 0)
      clear hs4 HS3 HS h1 h2
      obtain ⟨N, rfl⟩ : ∃ N, N = k := ⟨_, rfl⟩
      go_wp2_with fail
      go_loopw [4, 8, 9, 10, 11, 12] (fun s4 iv _ _ _ _ wr => ∃ k : Nat, k ≤ N ∧ s4 = .bool false ∧ iv = .int .i64 k ∧ Hid (Sep w wr [Rd g7 (fromK xs ts k (N - k)) false])) (fun _ iv _ _ _ _ _ => N - (intOf iv).toNat)
      case atStart => exact ⟨0, Nat.zero_le _, rfl, rfl, by rw [Nat.sub_zero, HL.out]; exact HS4⟩
      case round =>
        obtain ⟨k, hk, rfl, rfl, HS⟩ := hrel
        by_cases hkN : k < N
        · obtain ⟨m, hm⟩ : ∃ m, N - k = m + 1 := ⟨N - k - 1, by omega⟩
          have HF := Lib.hid (fromK_succ xs ts k m)
          have hRl := HFL.out k (m + 1) (by omega)
          rw [hm, HF.out] at HS
          rw [HF.out] at hRl
          obtain ⟨rest, HRE⟩ : ∃ rest, Hid (fromK xs ts (k + 1) m = rest) := ⟨_, Lib.hid rfl⟩
          rw [HRE.out] at HS hRl
          have hRl : (partX xs k ++ (partT ts k ++ rest)).length ≤ 30000000 := by omega
          by_cases h1 : k < xs.length
          · by_cases h2 : k < ts.length
            · skip
              obtain ⟨b, o, rfl, hcx⟩ := HCX0.out k h1
              have hxk := HXX.out xs[k] (List.getElem_mem h1)
              have HCX := Lib.hid hcx
              have HXK := Lib.hid hxk
              clear hcx hxk
              obtain ⟨x, Hx⟩ : ∃ x, Hid (xs[k] = x) := ⟨_, Lib.hid rfl⟩
              rw [Hx.out] at HCX HXK
              obtain ⟨s, hs4⟩ : ∃ s, s = k % 4 := ⟨_, rfl⟩
              have hsl : s < 4 := by omega
              have HAND := Lib.hid (show bits .and .i64 (k : Int) 3 = (s : Int) by rw [and_3]; congr 1; omega)
              have h2s : 2 ^ s ≤ 8 := by
                have : 2 ^ s ≤ 2 ^ 3 := Nat.pow_le_pow_right (by omega) (by omega)
                omega
              have HSM := Lib.hid (show ((s : Int)) % 9 = ((s : Nat) : Int) by omega)
              have HPX := Lib.hid (show partX xs k = Code.wide (2 ^ s) x ++ Code.short x by rw [partX_some h1, Hx.out, hs4])
              have hshl := (Code.short_length x).2
              clear hs4
              obtain ⟨R2, HR2⟩ : ∃ R2, Hid (partT ts k ++ rest = R2) := ⟨_, Lib.hid rfl⟩
              obtain ⟨R1, HR1⟩ : ∃ R1, Hid (Code.short x ++ R2 = R1) := ⟨_, Lib.hid rfl⟩
              obtain ⟨M, HM⟩ : ∃ M, Hid (Code.wide (2 ^ s) x = M) := ⟨_, Lib.hid rfl⟩
              have hMl := Code.wide_length (2 ^ s) x
              rw [HM.out] at hMl
              replace hMl : M.length ≤ 8 := by omega
              have HE0 := Lib.hid (show partX xs k ++ (partT ts k ++ rest) = M ++ R1 by rw [HPX.out, HR2.out, ← HR1.out, ← HM.out, List.append_assoc])
              rw [HE0.out] at HS hRl
              have hR1 : R1.length ≤ 30000000 := by rw [List.length_append] at hRl; omega
              have HASK := Lib.hid (askR_put s x hsl R1 0)
              rw [HM.out] at HASK
              obtain ⟨x2, HX2⟩ : ∃ x2, Hid (x % 256 ^ (2 ^ s) = x2) := ⟨_, Lib.hid rfl⟩
              rw [HX2.out] at HASK
              have hx2 : x2 ≤ x := by rw [← HX2.out]; exact Nat.mod_le _ _
              have HX2K := Lib.hid (Nat.lt_of_le_of_lt hx2 HXK.out)
              have HM2 := Lib.hid (show Code.wide (2 ^ s) x2 = M by rw [← HX2.out, wide_mod, HM.out])
              have HU1 := Lib.hid (show rUint R1 false = (x, R2, false) by rw [← HR1.out]; exact rUint_put x HXK.out R2)
              have HLR := Lib.hid (show R2.length ≤ R1.length by rw [← HR1.out, List.length_append]; omega)
              clear hx2
              have hand := HAND.out
              go_wp2_with fail
              refine (sep_asked (i := 0) (s : Int) 0 HS.out rfl (by omega) (by omega) (by omega) s (by omega) HSM.out).mono ?_
              rintro e w3 ⟨rfl, hs3⟩
              rw [HASK.out] at hs3 ⊢
              dsimp only at hs3 ⊢
              have HS3 := Lib.hid (show Sep w w3 [Rd g7 R1 false] from hs3)
              clear hs3 hand HS
              go_wp2_with fail
              refine (sep_newWriter HS3.out).mono ?_
              rintro e w4 ⟨g11, rfl, hs4⟩
              have HS4 := Lib.hid (show Sep w w4 [Rd g7 R1 false, Wr g11 []] from hs4)
              clear hs4 HS3
              have hand := HAND.out
              have hc1 := HCX.out w4 HS4.out.bel
              go_wp2_with fail
              refine (sep_writes (i := 1) (l' := [] ++ Code.wide (2 ^ s) x) HS4.out rfl (fun r hr => lawPut_any _ g11 r [] x s hr HXK.out hsl (by simp))).mono ?_
              rintro e w5 ⟨rfl, hs5⟩
              have HS5 := Lib.hid (show Sep w w5 [Rd g7 R1 false, Wr g11 M] by rw [← HM.out]; exact hs5)
              clear hs5 HS4 hc1 hand
              go_wp2_with fail
              refine (sep_newWriter HS5.out).mono ?_
              rintro e w6 ⟨g12, rfl, hs6⟩
              have HS6 := Lib.hid (show Sep w w6 [Rd g7 R1 false, Wr g11 M, Wr g12 []] from hs6)
              clear hs6 HS5
              have hand := HAND.out
              go_wp2_with fail
              refine (sep_writes (i := 2) (l' := [] ++ Code.wide (2 ^ s) x2) HS6.out rfl (fun r hr => lawPut_any _ g12 r [] x2 s hr HX2K.out hsl (by simp))).mono ?_
              rintro e w7 ⟨rfl, hs7⟩
              have HS := Lib.hid (show Sep w w7 [Rd g7 R1 false, Wr g11 M, Wr g12 M] by rw [← HM2.out]; rw [HM2.out]; rw [List.nil_append, HM2.out] at hs7; exact hs7)
              clear hs7 HS6 hand
              go_wp2_with fail
              have hbel : ∀ (dn : Nat → Bool) (xv : Nat → Value) (W : World), (if dn 9 = true then Sep w W [Rd g7 R2 false, Wr g11 M, Wr g12 M, By (xv 1) M, By (xv 4) M] else if dn 4 = true then Sep w W [Rd g7 R1 false, Wr g11 M, Wr g12 M, By (xv 1) M, By (xv 4) M] else if dn 1 = true then Sep w W [Rd g7 R1 false, Wr g11 M, Wr g12 M, By (xv 1) M] else Sep w W [Rd g7 R1 false, Wr g11 M, Wr g12 M]) → Below w.heap.size w W := fun dn xv W h => by
                split at h
                · exact h.bel
                · split at h
                  · exact h.bel
                  · split at h
                    · exact h.bel
                    · exact h.bel
              have hb1 : ∀ (dn : Nat → Bool) (xv : Nat → Value) (W : World), (if dn 9 = true then Sep w W [Rd g7 R2 false, Wr g11 M, Wr g12 M, By (xv 1) M, By (xv 4) M] else if dn 4 = true then Sep w W [Rd g7 R1 false, Wr g11 M, Wr g12 M, By (xv 1) M, By (xv 4) M] else if dn 1 = true then Sep w W [Rd g7 R1 false, Wr g11 M, Wr g12 M, By (xv 1) M] else Sep w W [Rd g7 R1 false, Wr g11 M, Wr g12 M]) → dn 1 = true → IsB M (xv 1) W := fun dn xv W h q1 => by
                by_cases q9 : dn 9 = true
                · rw [if_pos q9] at h
                  exact isB_of (sep_byForm (i := 3) h rfl)
                · rw [if_neg q9] at h
                  by_cases q4 : dn 4 = true
                  · rw [if_pos q4] at h
                    exact isB_of (sep_byForm (i := 3) h rfl)
                  · rw [if_neg q4, if_pos q1] at h
                    exact isB_of (sep_byForm (i := 3) h rfl)
              have hb4 : ∀ (dn : Nat → Bool) (xv : Nat → Value) (W : World), (if dn 9 = true then Sep w W [Rd g7 R2 false, Wr g11 M, Wr g12 M, By (xv 1) M, By (xv 4) M] else if dn 4 = true then Sep w W [Rd g7 R1 false, Wr g11 M, Wr g12 M, By (xv 1) M, By (xv 4) M] else if dn 1 = true then Sep w W [Rd g7 R1 false, Wr g11 M, Wr g12 M, By (xv 1) M] else Sep w W [Rd g7 R1 false, Wr g11 M, Wr g12 M]) → dn 4 = true → IsB M (xv 4) W := fun dn xv W h q4 => by
                by_cases q9 : dn 9 = true
                · rw [if_pos q9] at h
                  exact isB_of (sep_byForm (i := 4) h rfl)
                · rw [if_neg q9, if_pos q4] at h
                  exact isB_of (sep_byForm (i := 4) h rfl)
              refine wp_region_f (fun dn xv W => if dn 9 = true then Sep w W [Rd g7 R2 false, Wr g11 M, Wr g12 M, By (xv 1) M, By (xv 4) M] else if dn 4 = true then Sep w W [Rd g7 R1 false, Wr g11 M, Wr g12 M, By (xv 1) M, By (xv 4) M] else if dn 1 = true then Sep w W [Rd g7 R1 false, Wr g11 M, Wr g12 M, By (xv 1) M] else Sep w W [Rd g7 R1 false, Wr g11 M, Wr g12 M]) (fun _ _ => True) [fun v _ => v = .pointer (some ⟨g12, 0, none⟩), fun v _ => ∃ A1 c1, v = .slice A1 M.length c1, fun v _ => v = .string ⟨M.toArray⟩, fun v _ => v = .pointer (some ⟨g11, 0, none⟩), fun v _ => ∃ A1 c1, v = .slice A1 M.length c1, fun v _ => v = .string ⟨M.toArray⟩, fun v _ => v = .bool false, fun v _ => v = .bool false, fun v _ => v = .pointer (some ⟨g7, 0, none⟩), fun v _ => v = .int .u64 (x : Int), fun v _ => v = .slice (some ⟨b, o, none⟩) xs.length c, fun v _ => v = .int .i64 (k : Int), fun v _ => v = .pointer (some ⟨b, o + k, none⟩), fun v _ => v = .int .u64 (x : Int), fun v _ => v = .bool false, fun v _ => v = .bool false] (by kernel_rfl) (by kernel_rfl) (by kernel_rfl) (by kernel_rfl) (fun xv => by simpa using HS.out.drew)
                (by exact ⟨fun _ _ _ _ h => h, fun _ _ _ _ h => h, fun _ _ _ _ h => h, fun _ _ _ _ h => h, fun _ _ _ _ h => h, fun _ _ _ _ h => h, fun _ _ _ _ h => h, fun _ _ _ _ h => h, fun _ _ _ _ h => h, fun _ _ _ _ h => h, fun _ _ _ _ h => h, fun _ _ _ _ h => h, fun _ _ _ _ h => h, fun _ _ _ _ h => h, fun _ _ _ _ h => h, fun _ _ _ _ h => h, trivial⟩) ?_ ?_
              · refine EachF.cons 1 rfl (fun dn xv W F hF hd hN hX hI H K hK => ?_) ?_
                · have f12 : F.tmps.getD 12 undef = .pointer (some ⟨g12, 0, none⟩) := (hF 12).trans (by kernel_rfl)
                  clear H hN hd hX hF
                  refine on_plain rfl ?_
                  go_simp
                  exact hK.out _ _ rfl trivial (by simpa [upB, upd] using hI)
                refine EachF.cons 2 rfl (fun dn xv W F hF hd hN hX hI H K hK => ?_) ?_
                · have h0 : xv 0 = .pointer (some ⟨g12, 0, none⟩) := (H 0 (.edge (by kernel_rfl))).2
                  have f119 : F.tmps.getD 119 undef = .pointer (some ⟨g12, 0, none⟩) := (hF 119).trans (Eq.trans (by kernel_rfl) h0)
                  have q4 : dn 4 = false := hN 4 (.edge (by kernel_rfl))
                  have q9 : dn 9 = false := hN 9 (.more (j := 7) (by kernel_rfl) (.more (j := 4) (by kernel_rfl) (.edge (by kernel_rfl))))
                  have hS : Sep w W [Rd g7 R1 false, Wr g11 M, Wr g12 M] := by simpa [hd, q4, q9] using hI
                  clear hI hN hd hX hF H
                  refine on_plain rfl ?_
                  go_simp
                  refine (sep_bytes (i := 2) hS rfl (by omega)).mono ?_
                  rintro e W' ⟨v, rfl, hs⟩
                  obtain ⟨A1, c1, e1, _⟩ := sep_byForm (i := 3) hs rfl
                  exact hK.out v W' ⟨A1, c1, e1⟩ trivial (by simpa [upB, upd, q4, q9] using hs)
                refine EachF.cons 3 rfl (fun dn xv W F hF hd hN hX hI H K hK => ?_) ?_
                · have h1 := (H 1 (.edge (by kernel_rfl))).2
                  simp only [Dl] at h1
                  have f120 : F.tmps.getD 120 undef = xv 1 := (hF 120).trans (by kernel_rfl)
                  have hs := hb1 dn xv W hI (H 1 (.edge (by kernel_rfl))).1
                  clear h1
                  clear H hN hd hX hF
                  refine on_plain rfl ?_
                  obtain ⟨A1, c1, e1, hh⟩ := hs
                  have hcv := run_str (c := c1) hh
                  clear hh
                  rw [e1] at f120
                  go_simp
                  exact hK.out _ _ rfl trivial (by simpa [upB, upd] using hI)
                refine EachF.cons 4 rfl (fun dn xv W F hF hd hN hX hI H K hK => ?_) ?_
                · have f11 : F.tmps.getD 11 undef = .pointer (some ⟨g11, 0, none⟩) := (hF 11).trans (by kernel_rfl)
                  clear H hN hd hX hF
                  refine on_plain rfl ?_
                  go_simp
                  exact hK.out _ _ rfl trivial (by simpa [upB, upd] using hI)
                refine EachF.cons 5 rfl (fun dn xv W F hF hd hN hX hI H K hK => ?_) ?_
                · have h3 : xv 3 = .pointer (some ⟨g11, 0, none⟩) := (H 3 (.edge (by kernel_rfl))).2
                  have f122 : F.tmps.getD 122 undef = .pointer (some ⟨g11, 0, none⟩) := (hF 122).trans (Eq.trans (by kernel_rfl) h3)
                  have q1 : dn 1 = true := (H 1 (.edge (by kernel_rfl))).1
                  have q9 : dn 9 = false := hN 9 (.more (j := 7) (by kernel_rfl) (.edge (by kernel_rfl)))
                  have hS : Sep w W [Rd g7 R1 false, Wr g11 M, Wr g12 M, By (xv 1) M] := by simpa [hd, q9, q1] using hI
                  clear hI hN hd hX hF H
                  refine on_plain rfl ?_
                  go_simp
                  refine (sep_bytes (i := 1) hS rfl (by omega)).mono ?_
                  rintro e W' ⟨v, rfl, hs⟩
                  obtain ⟨A1, c1, e1, _⟩ := sep_byForm (i := 4) hs rfl
                  exact hK.out v W' ⟨A1, c1, e1⟩ trivial (by simpa [upB, upd, q9] using hs)
                refine EachF.cons 6 rfl (fun dn xv W F hF hd hN hX hI H K hK => ?_) ?_
                · have h4 := (H 4 (.edge (by kernel_rfl))).2
                  simp only [Dl] at h4
                  have f123 : F.tmps.getD 123 undef = xv 4 := (hF 123).trans (by kernel_rfl)
                  have hs := hb4 dn xv W hI (H 4 (.edge (by kernel_rfl))).1
                  clear h4
                  clear H hN hd hX hF
                  refine on_plain rfl ?_
                  obtain ⟨A1, c1, e1, hh⟩ := hs
                  have hcv := run_str (c := c1) hh
                  clear hh
                  rw [e1] at f123
                  go_simp
                  exact hK.out _ _ rfl trivial (by simpa [upB, upd] using hI)
                refine EachF.cons 7 rfl (fun dn xv W F hF hd hN hX hI H K hK => ?_) ?_
                · have h2 : xv 2 = .string ⟨M.toArray⟩ := (H 2 (.edge (by kernel_rfl))).2
                  have f121 : F.tmps.getD 121 undef = .string ⟨M.toArray⟩ := (hF 121).trans (Eq.trans (by kernel_rfl) h2)
                  have h5 : xv 5 = .string ⟨M.toArray⟩ := (H 5 (.edge (by kernel_rfl))).2
                  have f124 : F.tmps.getD 124 undef = .string ⟨M.toArray⟩ := (hF 124).trans (Eq.trans (by kernel_rfl) h5)
                  clear H hN hd hX hF
                  refine on_plain rfl ?_
                  go_simp
                  exact hK.out _ _ rfl trivial (by simpa [upB, upd] using hI)
                refine EachF.cons 8 rfl (fun dn xv W F hF hd hN hX hI H K hK => ?_) ?_
                · have h6 : xv 6 = .bool false := (H 6 (.edge (by kernel_rfl))).2
                  have f125 : F.tmps.getD 125 undef = .bool false := (hF 125).trans (Eq.trans (by kernel_rfl) h6)
                  clear H hN hd hX hF
                  refine on_plain rfl ?_
                  go_simp
                  exact hK.out _ _ rfl trivial (by simpa [upB, upd] using hI)
                refine EachF.cons 9 rfl (fun dn xv W F hF hd hN hX hI H K hK => ?_) ?_
                · have f7 : F.tmps.getD 7 undef = .pointer (some ⟨g7, 0, none⟩) := (hF 7).trans (by kernel_rfl)
                  have h7 : xv 7 = .bool false := (H 7 (.edge (by kernel_rfl))).2
                  have f126 : F.tmps.getD 126 undef = .bool false := (hF 126).trans (Eq.trans (by kernel_rfl) h7)
                  clear H hN hd hX hF
                  refine on_guard rfl (by kernel_rfl) f126 ?_
                  go_simp
                  exact hK.out _ _ rfl trivial (by simpa [upB, upd] using hI)
                refine EachF.cons 10 rfl (fun dn xv W F hF hd hN hX hI H K hK => ?_) ?_
                · have h8 : xv 8 = .pointer (some ⟨g7, 0, none⟩) := (H 8 (.edge (by kernel_rfl))).2
                  have f127 : F.tmps.getD 127 undef = .pointer (some ⟨g7, 0, none⟩) := (hF 127).trans (Eq.trans (by kernel_rfl) h8)
                  have h7 : xv 7 = .bool false := (H 7 (.edge (by kernel_rfl))).2
                  have f126 : F.tmps.getD 126 undef = .bool false := (hF 126).trans (Eq.trans (by kernel_rfl) h7)
                  have q4 : dn 4 = true := (H 4 (.more (j := 7) (by kernel_rfl) (.edge (by kernel_rfl)))).1
                  have hS : Sep w W [Rd g7 R1 false, Wr g11 M, Wr g12 M, By (xv 1) M, By (xv 4) M] := by simpa [hd, q4] using hI
                  clear hI hN hd hX hF H
                  refine on_guard rfl (by kernel_rfl) f126 ?_
                  go_simp
                  refine (sep_reads (i := 0) (l' := R2) (bad' := false) (v := .int .u64 (x : Int)) hS rfl HLR.out (fun rb hr => by have h3 := uintR_any W g7 rb R1 false hr (by omega); rw [HU1.out] at h3; exact h3)).mono ?_
                  rintro e W' ⟨rfl, hs⟩
                  exact hK.out _ W' rfl trivial (by simpa [upB, upd] using hs)
                refine EachF.cons 11 rfl (fun dn xv W F hF hd hN hX hI H K hK => ?_) ?_
                · have f0 : F.tmps.getD 0 undef = .slice (some ⟨b, o, none⟩) xs.length c := (hF 0).trans (by kernel_rfl)
                  have h7 : xv 7 = .bool false := (H 7 (.edge (by kernel_rfl))).2
                  have f126 : F.tmps.getD 126 undef = .bool false := (hF 126).trans (Eq.trans (by kernel_rfl) h7)
                  clear H hN hd hX hF
                  refine on_guard rfl (by kernel_rfl) f126 ?_
                  go_simp
                  exact hK.out _ _ rfl trivial (by simpa [upB, upd] using hI)
                refine EachF.cons 12 rfl (fun dn xv W F hF hd hN hX hI H K hK => ?_) ?_
                · have f8 : F.tmps.getD 8 undef = .int .i64 (k : Int) := (hF 8).trans (by kernel_rfl)
                  have h7 : xv 7 = .bool false := (H 7 (.edge (by kernel_rfl))).2
                  have f126 : F.tmps.getD 126 undef = .bool false := (hF 126).trans (Eq.trans (by kernel_rfl) h7)
                  clear H hN hd hX hF
                  refine on_guard rfl (by kernel_rfl) f126 ?_
                  go_simp
                  exact hK.out _ _ rfl trivial (by simpa [upB, upd] using hI)
                refine EachF.cons 13 rfl (fun dn xv W F hF hd hN hX hI H K hK => ?_) ?_
                · have h10 : xv 10 = .slice (some ⟨b, o, none⟩) xs.length c := (H 10 (.edge (by kernel_rfl))).2
                  have f129 : F.tmps.getD 129 undef = .slice (some ⟨b, o, none⟩) xs.length c := (hF 129).trans (Eq.trans (by kernel_rfl) h10)
                  have h11 : xv 11 = .int .i64 (k : Int) := (H 11 (.edge (by kernel_rfl))).2
                  have f130 : F.tmps.getD 130 undef = .int .i64 (k : Int) := (hF 130).trans (Eq.trans (by kernel_rfl) h11)
                  have h7 : xv 7 = .bool false := (H 7 (.edge (by kernel_rfl))).2
                  have f126 : F.tmps.getD 126 undef = .bool false := (hF 126).trans (Eq.trans (by kernel_rfl) h7)
                  clear H hN hd hX hF
                  refine on_guard rfl (by kernel_rfl) f126 ?_
                  go_simp
                  exact hK.out _ _ rfl trivial (by simpa [upB, upd] using hI)
                refine EachF.cons 14 rfl (fun dn xv W F hF hd hN hX hI H K hK => ?_) ?_
                · have h12 : xv 12 = .pointer (some ⟨b, o + k, none⟩) := (H 12 (.edge (by kernel_rfl))).2
                  have f131 : F.tmps.getD 131 undef = .pointer (some ⟨b, o + k, none⟩) := (hF 131).trans (Eq.trans (by kernel_rfl) h12)
                  have h7 : xv 7 = .bool false := (H 7 (.edge (by kernel_rfl))).2
                  have f126 : F.tmps.getD 126 undef = .bool false := (hF 126).trans (Eq.trans (by kernel_rfl) h7)
                  clear H hN hd hX hF
                  refine on_guard rfl (by kernel_rfl) f126 ?_
                  have hc1 := HCX.out W (hbel dn xv W hI)
                  go_simp
                  exact hK.out _ _ rfl trivial (by simpa [upB, upd] using hI)
                refine EachF.cons 15 rfl (fun dn xv W F hF hd hN hX hI H K hK => ?_) ?_
                · have h9 : xv 9 = .int .u64 (x : Int) := (H 9 (.edge (by kernel_rfl))).2
                  have f128 : F.tmps.getD 128 undef = .int .u64 (x : Int) := (hF 128).trans (Eq.trans (by kernel_rfl) h9)
                  have h13 : xv 13 = .int .u64 (x : Int) := (H 13 (.edge (by kernel_rfl))).2
                  have f132 : F.tmps.getD 132 undef = .int .u64 (x : Int) := (hF 132).trans (Eq.trans (by kernel_rfl) h13)
                  have h7 : xv 7 = .bool false := (H 7 (.edge (by kernel_rfl))).2
                  have f126 : F.tmps.getD 126 undef = .bool false := (hF 126).trans (Eq.trans (by kernel_rfl) h7)
                  clear H hN hd hX hF
                  refine on_guard rfl (by kernel_rfl) f126 ?_
                  go_simp
                  exact hK.out _ _ rfl trivial (by simpa [upB, upd] using hI)
                refine EachF.cons 16 rfl (fun dn xv W F hF hd hN hX hI H K hK => ?_) ?_
                · have h7 : xv 7 = .bool false := (H 7 (.edge (by kernel_rfl))).2
                  have f126 : F.tmps.getD 126 undef = .bool false := (hF 126).trans (Eq.trans (by kernel_rfl) h7)
                  have h14 : xv 14 = .bool false := (H 14 (.edge (by kernel_rfl))).2
                  have f133 : F.tmps.getD 133 undef = .bool false := (hF 133).trans (Eq.trans (by kernel_rfl) h14)
                  clear H hN hd hX hF
                  refine on_plain rfl ?_
                  go_simp
                  exact hK.out _ _ rfl trivial (by simpa [upB, upd] using hI)
                exact EachF.nil
              · intro dn xv W hI H
                have q15 : xv 15 = .bool false := (H 15 (of_decide_eq_true (by kernel_rfl))).2
                have qe : dn 9 = true := (H 9 (of_decide_eq_true (by kernel_rfl))).1
                have hS : Sep w W [Rd g7 R2 false, Wr g11 M, Wr g12 M, By (xv 1) M, By (xv 4) M] := by simpa [qe] using hI
                clear H hI qe
                simp only [putAll, Act.put, List.setIfInBounds_toArray, List.set_cons_zero, List.set_cons_succ, Nat.reduceAdd, q15]
                clear q15
                have HS := Lib.hid (show Sep w W [Rd g7 R2 false] from (((hS.drop 4).drop 3).drop 2).drop 1)
                clear hS hbel hb1 hb4
                go_wp2_with fail
                obtain ⟨T1, HT1⟩ : ∃ T1, Hid (R2 = T1) := ⟨_, Lib.hid rfl⟩
                rw [HT1.out] at HS HR2 HLR
                obtain ⟨b2, o2, rfl, hct⟩ := HCT0.out k h2
                have HCT := Lib.hid hct
                clear hct
                have htb := HTB.out ts[k] (List.getElem_mem h2)
                obtain ⟨t, Ht⟩ : ∃ t, Hid (ts[k] = t) := ⟨_, Lib.hid rfl⟩
                rw [Ht.out] at HCT htb
                have HPT := Lib.hid (show partT ts k = Code.text t ++ t by rw [partT_some h2, Ht.out])
                have hsz := size_str t
                have htx : (Code.text t).length ≤ t.length + 11 := by
                  have := (Code.short_length t.length).2
                  unfold Code.text
                  rw [List.length_append]
                  omega
                have hT1 : T1.length ≤ 30000000 := by have := HLR.out; omega
                obtain ⟨T2, HT2⟩ : ∃ T2, Hid (t ++ rest = T2) := ⟨_, Lib.hid rfl⟩
                have HE1 := Lib.hid (show T1 = Code.text t ++ T2 by rw [← HR2.out, HPT.out, ← HT2.out, List.append_assoc])
                have HU2 := Lib.hid (show rText T1 false (t.length : Int) = (t, T2, false) by rw [HE1.out]; exact rText_put t T2 (by omega))
                have HL2 := Lib.hid (show T2.length ≤ T1.length by rw [HE1.out, List.length_append]; omega)
                have hT2 : T2.length ≤ 30000000 := by have := HL2.out; omega
                obtain ⟨T3, HT3⟩ : ∃ T3, Hid (rest = T3) := ⟨_, Lib.hid rfl⟩
                have HU3 := Lib.hid (show rRaw T2 false (t.length : Int) = (t, T3, false) by rw [← HT2.out, HT3.out]; exact rRaw_put t T3)
                have hbel2 : ∀ (dn : Nat → Bool) (xv : Nat → Value) (W : World), (if dn 24 = true then Sep w W [Rd g7 T3 false, By (xv 24) t] else if dn 11 = true then Sep w W [Rd g7 T2 false] else Sep w W [Rd g7 T1 false]) → Below w.heap.size w W := fun dn xv W h => by
                  split at h
                  · exact h.bel
                  · split at h
                    · exact h.bel
                    · exact h.bel
                have hb24 : ∀ (dn : Nat → Bool) (xv : Nat → Value) (W : World), (if dn 24 = true then Sep w W [Rd g7 T3 false, By (xv 24) t] else if dn 11 = true then Sep w W [Rd g7 T2 false] else Sep w W [Rd g7 T1 false]) → dn 24 = true → IsB t (xv 24) W := fun dn xv W h h4 => by
                  rw [if_pos h4] at h
                  exact isB_of (sep_byForm (i := 1) h rfl)
                refine wp_region_f (fun dn xv W => if dn 24 = true then Sep w W [Rd g7 T3 false, By (xv 24) t] else if dn 11 = true then Sep w W [Rd g7 T2 false] else Sep w W [Rd g7 T1 false]) (fun _ _ => True) [fun v _ => v = .int .i64 (k : Int), fun v _ => v = .slice (some ⟨b2, o2, none⟩) ts.length d, fun v _ => v = .int .i64 (ts.length : Int), fun v _ => v = .bool true, fun v _ => v = .bool true, fun v _ => v = .pointer (some ⟨g7, 0, none⟩), fun v _ => v = .slice (some ⟨b2, o2, none⟩) ts.length d, fun v _ => v = .int .i64 (k : Int), fun v _ => v = .pointer (some ⟨b2, o2 + k, none⟩), fun v _ => v = .string ⟨t.toArray⟩, fun v _ => v = .int .i64 (t.length : Int), fun v _ => v = .string ⟨t.toArray⟩, fun v _ => v = .slice (some ⟨b2, o2, none⟩) ts.length d, fun v _ => v = .int .i64 (k : Int), fun v _ => v = .pointer (some ⟨b2, o2 + k, none⟩), fun v _ => v = .string ⟨t.toArray⟩, fun v _ => v = .bool false, fun v _ => v = .bool false, fun v _ => v = .pointer (some ⟨g7, 0, none⟩), fun v _ => v = .slice (some ⟨b2, o2, none⟩) ts.length d, fun v _ => v = .int .i64 (k : Int), fun v _ => v = .pointer (some ⟨b2, o2 + k, none⟩), fun v _ => v = .string ⟨t.toArray⟩, fun v _ => v = .int .i64 (t.length : Int), fun v _ => ∃ A1 c1, v = .slice A1 t.length c1, fun v _ => v = .string ⟨t.toArray⟩, fun v _ => v = .slice (some ⟨b2, o2, none⟩) ts.length d, fun v _ => v = .int .i64 (k : Int), fun v _ => v = .pointer (some ⟨b2, o2 + k, none⟩), fun v _ => v = .string ⟨t.toArray⟩, fun v _ => v = .bool false, fun v _ => v = .bool false, fun v _ => v = .bool false] (by kernel_rfl) (by kernel_rfl) (by kernel_rfl) (by kernel_rfl) (fun xv => by simpa using HS.out.drew)
                  (by exact ⟨fun _ _ _ _ h => h, fun _ _ _ _ h => h, fun _ _ _ _ h => h, fun _ _ _ _ h => h, fun _ _ _ _ h => h, fun _ _ _ _ h => h, fun _ _ _ _ h => h, fun _ _ _ _ h => h, fun _ _ _ _ h => h, fun _ _ _ _ h => h, fun _ _ _ _ h => h, fun _ _ _ _ h => h, fun _ _ _ _ h => h, fun _ _ _ _ h => h, fun _ _ _ _ h => h, fun _ _ _ _ h => h, fun _ _ _ _ h => h, fun _ _ _ _ h => h, fun _ _ _ _ h => h, fun _ _ _ _ h => h, fun _ _ _ _ h => h, fun _ _ _ _ h => h, fun _ _ _ _ h => h, fun _ _ _ _ h => h, fun _ _ _ _ h => h, fun _ _ _ _ h => h, fun _ _ _ _ h => h, fun _ _ _ _ h => h, fun _ _ _ _ h => h, fun _ _ _ _ h => h, fun _ _ _ _ h => h, fun _ _ _ _ h => h, fun _ _ _ _ h => h, trivial⟩) ?_ ?_
                · refine EachF.cons 1 rfl (fun dn xv W F hF hd hN hX hI H K hK => ?_) ?_
                  · have f8 : F.tmps.getD 8 undef = .int .i64 (k : Int) := (hF 8).trans (by kernel_rfl)
                    clear H hN hd hX hF
                    refine on_plain rfl ?_
                    go_simp
                    exact hK.out _ _ rfl trivial (by simpa [upB, upd] using hI)
                  refine EachF.cons 2 rfl (fun dn xv W F hF hd hN hX hI H K hK => ?_) ?_
                  · have f1 : F.tmps.getD 1 undef = .slice (some ⟨b2, o2, none⟩) ts.length d := (hF 1).trans (by kernel_rfl)
                    clear H hN hd hX hF
                    refine on_plain rfl ?_
                    go_simp
                    exact hK.out _ _ rfl trivial (by simpa [upB, upd] using hI)
                  refine EachF.cons 3 rfl (fun dn xv W F hF hd hN hX hI H K hK => ?_) ?_
                  · have h1 : xv 1 = .slice (some ⟨b2, o2, none⟩) ts.length d := (H 1 (.edge (by kernel_rfl))).2
                    have f136 : F.tmps.getD 136 undef = .slice (some ⟨b2, o2, none⟩) ts.length d := (hF 136).trans (Eq.trans (by kernel_rfl) h1)
                    clear H hN hd hX hF
                    refine on_plain rfl ?_
                    go_simp
                    exact hK.out _ _ rfl trivial (by simpa [upB, upd] using hI)
                  refine EachF.cons 4 rfl (fun dn xv W F hF hd hN hX hI H K hK => ?_) ?_
                  · have h0 : xv 0 = .int .i64 (k : Int) := (H 0 (.edge (by kernel_rfl))).2
                    have f135 : F.tmps.getD 135 undef = .int .i64 (k : Int) := (hF 135).trans (Eq.trans (by kernel_rfl) h0)
                    have h2 : xv 2 = .int .i64 (ts.length : Int) := (H 2 (.edge (by kernel_rfl))).2
                    have f137 : F.tmps.getD 137 undef = .int .i64 (ts.length : Int) := (hF 137).trans (Eq.trans (by kernel_rfl) h2)
                    clear H hN hd hX hF
                    refine on_plain rfl ?_
                    have d0 : decide ((k : Int) < (ts.length : Int)) = true := decide_eq_true (by omega)
                    have d1 : decide (k < ts.length) = true := decide_eq_true (by omega)
                    go_simp
                    exact hK.out _ _ rfl trivial (by simpa [upB, upd] using hI)
                  refine EachF.cons 5 rfl (fun dn xv W F hF hd hN hX hI H K hK => ?_) ?_
                  · have h3 : xv 3 = .bool true := (H 3 (.edge (by kernel_rfl))).2
                    have f138 : F.tmps.getD 138 undef = .bool true := (hF 138).trans (Eq.trans (by kernel_rfl) h3)
                    clear H hN hd hX hF
                    refine on_plain rfl ?_
                    go_simp
                    exact hK.out _ _ rfl trivial (by simpa [upB, upd] using hI)
                  refine EachF.cons 6 rfl (fun dn xv W F hF hd hN hX hI H K hK => ?_) ?_
                  · have f7 : F.tmps.getD 7 undef = .pointer (some ⟨g7, 0, none⟩) := (hF 7).trans (by kernel_rfl)
                    have h4 : xv 4 = .bool true := (H 4 (.edge (by kernel_rfl))).2
                    have f139 : F.tmps.getD 139 undef = .bool true := (hF 139).trans (Eq.trans (by kernel_rfl) h4)
                    clear H hN hd hX hF
                    refine on_guard rfl (by kernel_rfl) f139 ?_
                    go_simp
                    exact hK.out _ _ rfl trivial (by simpa [upB, upd] using hI)
                  refine EachF.cons 7 rfl (fun dn xv W F hF hd hN hX hI H K hK => ?_) ?_
                  · have f1 : F.tmps.getD 1 undef = .slice (some ⟨b2, o2, none⟩) ts.length d := (hF 1).trans (by kernel_rfl)
                    have h4 : xv 4 = .bool true := (H 4 (.edge (by kernel_rfl))).2
                    have f139 : F.tmps.getD 139 undef = .bool true := (hF 139).trans (Eq.trans (by kernel_rfl) h4)
                    clear H hN hd hX hF
                    refine on_guard rfl (by kernel_rfl) f139 ?_
                    go_simp
                    exact hK.out _ _ rfl trivial (by simpa [upB, upd] using hI)
                  refine EachF.cons 8 rfl (fun dn xv W F hF hd hN hX hI H K hK => ?_) ?_
                  · have f8 : F.tmps.getD 8 undef = .int .i64 (k : Int) := (hF 8).trans (by kernel_rfl)
                    have h4 : xv 4 = .bool true := (H 4 (.edge (by kernel_rfl))).2
                    have f139 : F.tmps.getD 139 undef = .bool true := (hF 139).trans (Eq.trans (by kernel_rfl) h4)
                    clear H hN hd hX hF
                    refine on_guard rfl (by kernel_rfl) f139 ?_
                    go_simp
                    exact hK.out _ _ rfl trivial (by simpa [upB, upd] using hI)
                  refine EachF.cons 9 rfl (fun dn xv W F hF hd hN hX hI H K hK => ?_) ?_
                  · have h6 : xv 6 = .slice (some ⟨b2, o2, none⟩) ts.length d := (H 6 (.edge (by kernel_rfl))).2
                    have f141 : F.tmps.getD 141 undef = .slice (some ⟨b2, o2, none⟩) ts.length d := (hF 141).trans (Eq.trans (by kernel_rfl) h6)
                    have h7 : xv 7 = .int .i64 (k : Int) := (H 7 (.edge (by kernel_rfl))).2
                    have f142 : F.tmps.getD 142 undef = .int .i64 (k : Int) := (hF 142).trans (Eq.trans (by kernel_rfl) h7)
                    have h4 : xv 4 = .bool true := (H 4 (.edge (by kernel_rfl))).2
                    have f139 : F.tmps.getD 139 undef = .bool true := (hF 139).trans (Eq.trans (by kernel_rfl) h4)
                    clear H hN hd hX hF
                    refine on_guard rfl (by kernel_rfl) f139 ?_
                    go_simp
                    exact hK.out _ _ rfl trivial (by simpa [upB, upd] using hI)
                  refine EachF.cons 10 rfl (fun dn xv W F hF hd hN hX hI H K hK => ?_) ?_
                  · have h8 : xv 8 = .pointer (some ⟨b2, o2 + k, none⟩) := (H 8 (.edge (by kernel_rfl))).2
                    have f143 : F.tmps.getD 143 undef = .pointer (some ⟨b2, o2 + k, none⟩) := (hF 143).trans (Eq.trans (by kernel_rfl) h8)
                    have h4 : xv 4 = .bool true := (H 4 (.edge (by kernel_rfl))).2
                    have f139 : F.tmps.getD 139 undef = .bool true := (hF 139).trans (Eq.trans (by kernel_rfl) h4)
                    clear H hN hd hX hF
                    refine on_guard rfl (by kernel_rfl) f139 ?_
                    have hc1 := HCT.out W (hbel2 dn xv W hI)
                    go_simp
                    exact hK.out _ _ rfl trivial (by simpa [upB, upd] using hI)
                  refine EachF.cons 11 rfl (fun dn xv W F hF hd hN hX hI H K hK => ?_) ?_
                  · have h9 : xv 9 = .string ⟨t.toArray⟩ := (H 9 (.edge (by kernel_rfl))).2
                    have f144 : F.tmps.getD 144 undef = .string ⟨t.toArray⟩ := (hF 144).trans (Eq.trans (by kernel_rfl) h9)
                    have h4 : xv 4 = .bool true := (H 4 (.edge (by kernel_rfl))).2
                    have f139 : F.tmps.getD 139 undef = .bool true := (hF 139).trans (Eq.trans (by kernel_rfl) h4)
                    clear H hN hd hX hF
                    refine on_guard rfl (by kernel_rfl) f139 ?_
                    have hsz := size_str t
                    go_simp
                    exact hK.out _ _ rfl trivial (by simpa [upB, upd] using hI)
                  refine EachF.cons 12 rfl (fun dn xv W F hF hd hN hX hI H K hK => ?_) ?_
                  · have h5 : xv 5 = .pointer (some ⟨g7, 0, none⟩) := (H 5 (.edge (by kernel_rfl))).2
                    have f140 : F.tmps.getD 140 undef = .pointer (some ⟨g7, 0, none⟩) := (hF 140).trans (Eq.trans (by kernel_rfl) h5)
                    have h10 : xv 10 = .int .i64 (t.length : Int) := (H 10 (.edge (by kernel_rfl))).2
                    have f145 : F.tmps.getD 145 undef = .int .i64 (t.length : Int) := (hF 145).trans (Eq.trans (by kernel_rfl) h10)
                    have h4 : xv 4 = .bool true := (H 4 (.edge (by kernel_rfl))).2
                    have f139 : F.tmps.getD 139 undef = .bool true := (hF 139).trans (Eq.trans (by kernel_rfl) h4)
                    have q24 : dn 24 = false := hN 24 (.more (j := 17) (by kernel_rfl) (.edge (by kernel_rfl)))
                    have hS : Sep w W [Rd g7 T1 false] := by simpa [hd, q24] using hI
                    clear hI hN hd hX hF H
                    refine on_guard rfl (by kernel_rfl) f139 ?_
                    go_simp
                    refine (sep_reads (i := 0) (l' := T2) (bad' := false) (v := .string ⟨t.toArray⟩) hS rfl HL2.out (fun rb hr => by have h3 := textR_any W g7 rb T1 false (t.length : Int) hr (by omega) (by omega) (by omega); rw [HU2.out] at h3; exact h3)).mono ?_
                    rintro e W' ⟨rfl, hs⟩
                    exact hK.out _ W' rfl trivial (by simpa [upB, upd, q24] using hs)
                  refine EachF.cons 13 rfl (fun dn xv W F hF hd hN hX hI H K hK => ?_) ?_
                  · have f1 : F.tmps.getD 1 undef = .slice (some ⟨b2, o2, none⟩) ts.length d := (hF 1).trans (by kernel_rfl)
                    have h4 : xv 4 = .bool true := (H 4 (.edge (by kernel_rfl))).2
                    have f139 : F.tmps.getD 139 undef = .bool true := (hF 139).trans (Eq.trans (by kernel_rfl) h4)
                    clear H hN hd hX hF
                    refine on_guard rfl (by kernel_rfl) f139 ?_
                    go_simp
                    exact hK.out _ _ rfl trivial (by simpa [upB, upd] using hI)
                  refine EachF.cons 14 rfl (fun dn xv W F hF hd hN hX hI H K hK => ?_) ?_
                  · have f8 : F.tmps.getD 8 undef = .int .i64 (k : Int) := (hF 8).trans (by kernel_rfl)
                    have h4 : xv 4 = .bool true := (H 4 (.edge (by kernel_rfl))).2
                    have f139 : F.tmps.getD 139 undef = .bool true := (hF 139).trans (Eq.trans (by kernel_rfl) h4)
                    clear H hN hd hX hF
                    refine on_guard rfl (by kernel_rfl) f139 ?_
                    go_simp
                    exact hK.out _ _ rfl trivial (by simpa [upB, upd] using hI)
                  refine EachF.cons 15 rfl (fun dn xv W F hF hd hN hX hI H K hK => ?_) ?_
                  · have h12 : xv 12 = .slice (some ⟨b2, o2, none⟩) ts.length d := (H 12 (.edge (by kernel_rfl))).2
                    have f147 : F.tmps.getD 147 undef = .slice (some ⟨b2, o2, none⟩) ts.length d := (hF 147).trans (Eq.trans (by kernel_rfl) h12)
                    have h13 : xv 13 = .int .i64 (k : Int) := (H 13 (.edge (by kernel_rfl))).2
                    have f148 : F.tmps.getD 148 undef = .int .i64 (k : Int) := (hF 148).trans (Eq.trans (by kernel_rfl) h13)
                    have h4 : xv 4 = .bool true := (H 4 (.edge (by kernel_rfl))).2
                    have f139 : F.tmps.getD 139 undef = .bool true := (hF 139).trans (Eq.trans (by kernel_rfl) h4)
                    clear H hN hd hX hF
                    refine on_guard rfl (by kernel_rfl) f139 ?_
                    go_simp
                    exact hK.out _ _ rfl trivial (by simpa [upB, upd] using hI)
                  refine EachF.cons 16 rfl (fun dn xv W F hF hd hN hX hI H K hK => ?_) ?_
                  · have h14 : xv 14 = .pointer (some ⟨b2, o2 + k, none⟩) := (H 14 (.edge (by kernel_rfl))).2
                    have f149 : F.tmps.getD 149 undef = .pointer (some ⟨b2, o2 + k, none⟩) := (hF 149).trans (Eq.trans (by kernel_rfl) h14)
                    have h4 : xv 4 = .bool true := (H 4 (.edge (by kernel_rfl))).2
                    have f139 : F.tmps.getD 139 undef = .bool true := (hF 139).trans (Eq.trans (by kernel_rfl) h4)
                    clear H hN hd hX hF
                    refine on_guard rfl (by kernel_rfl) f139 ?_
                    have hc1 := HCT.out W (hbel2 dn xv W hI)
                    go_simp
                    exact hK.out _ _ rfl trivial (by simpa [upB, upd] using hI)
                  refine EachF.cons 17 rfl (fun dn xv W F hF hd hN hX hI H K hK => ?_) ?_
                  · have h11 : xv 11 = .string ⟨t.toArray⟩ := (H 11 (.edge (by kernel_rfl))).2
                    have f146 : F.tmps.getD 146 undef = .string ⟨t.toArray⟩ := (hF 146).trans (Eq.trans (by kernel_rfl) h11)
                    have h15 : xv 15 = .string ⟨t.toArray⟩ := (H 15 (.edge (by kernel_rfl))).2
                    have f150 : F.tmps.getD 150 undef = .string ⟨t.toArray⟩ := (hF 150).trans (Eq.trans (by kernel_rfl) h15)
                    have h4 : xv 4 = .bool true := (H 4 (.edge (by kernel_rfl))).2
                    have f139 : F.tmps.getD 139 undef = .bool true := (hF 139).trans (Eq.trans (by kernel_rfl) h4)
                    clear H hN hd hX hF
                    refine on_guard rfl (by kernel_rfl) f139 ?_
                    go_simp
                    exact hK.out _ _ rfl trivial (by simpa [upB, upd] using hI)
                  refine EachF.cons 18 rfl (fun dn xv W F hF hd hN hX hI H K hK => ?_) ?_
                  · have h16 : xv 16 = .bool false := (H 16 (.edge (by kernel_rfl))).2
                    have f151 : F.tmps.getD 151 undef = .bool false := (hF 151).trans (Eq.trans (by kernel_rfl) h16)
                    have h4 : xv 4 = .bool true := (H 4 (.edge (by kernel_rfl))).2
                    have f139 : F.tmps.getD 139 undef = .bool true := (hF 139).trans (Eq.trans (by kernel_rfl) h4)
                    clear H hN hd hX hF
                    refine on_guard rfl (by kernel_rfl) f139 ?_
                    go_simp
                    exact hK.out _ _ rfl trivial (by simpa [upB, upd] using hI)
                  refine EachF.cons 19 rfl (fun dn xv W F hF hd hN hX hI H K hK => ?_) ?_
                  · have f7 : F.tmps.getD 7 undef = .pointer (some ⟨g7, 0, none⟩) := (hF 7).trans (by kernel_rfl)
                    have h17 : xv 17 = .bool false := (H 17 (.edge (by kernel_rfl))).2
                    have f152 : F.tmps.getD 152 undef = .bool false := (hF 152).trans (Eq.trans (by kernel_rfl) h17)
                    clear H hN hd hX hF
                    refine on_guard rfl (by kernel_rfl) f152 ?_
                    go_simp
                    exact hK.out _ _ rfl trivial (by simpa [upB, upd] using hI)
                  refine EachF.cons 20 rfl (fun dn xv W F hF hd hN hX hI H K hK => ?_) ?_
                  · have f1 : F.tmps.getD 1 undef = .slice (some ⟨b2, o2, none⟩) ts.length d := (hF 1).trans (by kernel_rfl)
                    have h17 : xv 17 = .bool false := (H 17 (.edge (by kernel_rfl))).2
                    have f152 : F.tmps.getD 152 undef = .bool false := (hF 152).trans (Eq.trans (by kernel_rfl) h17)
                    clear H hN hd hX hF
                    refine on_guard rfl (by kernel_rfl) f152 ?_
                    go_simp
                    exact hK.out _ _ rfl trivial (by simpa [upB, upd] using hI)
                  refine EachF.cons 21 rfl (fun dn xv W F hF hd hN hX hI H K hK => ?_) ?_
                  · have f8 : F.tmps.getD 8 undef = .int .i64 (k : Int) := (hF 8).trans (by kernel_rfl)
                    have h17 : xv 17 = .bool false := (H 17 (.edge (by kernel_rfl))).2
                    have f152 : F.tmps.getD 152 undef = .bool false := (hF 152).trans (Eq.trans (by kernel_rfl) h17)
                    clear H hN hd hX hF
                    refine on_guard rfl (by kernel_rfl) f152 ?_
                    go_simp
                    exact hK.out _ _ rfl trivial (by simpa [upB, upd] using hI)
                  refine EachF.cons 22 rfl (fun dn xv W F hF hd hN hX hI H K hK => ?_) ?_
                  · have h19 : xv 19 = .slice (some ⟨b2, o2, none⟩) ts.length d := (H 19 (.edge (by kernel_rfl))).2
                    have f154 : F.tmps.getD 154 undef = .slice (some ⟨b2, o2, none⟩) ts.length d := (hF 154).trans (Eq.trans (by kernel_rfl) h19)
                    have h20 : xv 20 = .int .i64 (k : Int) := (H 20 (.edge (by kernel_rfl))).2
                    have f155 : F.tmps.getD 155 undef = .int .i64 (k : Int) := (hF 155).trans (Eq.trans (by kernel_rfl) h20)
                    have h17 : xv 17 = .bool false := (H 17 (.edge (by kernel_rfl))).2
                    have f152 : F.tmps.getD 152 undef = .bool false := (hF 152).trans (Eq.trans (by kernel_rfl) h17)
                    clear H hN hd hX hF
                    refine on_guard rfl (by kernel_rfl) f152 ?_
                    go_simp
                    exact hK.out _ _ rfl trivial (by simpa [upB, upd] using hI)
                  refine EachF.cons 23 rfl (fun dn xv W F hF hd hN hX hI H K hK => ?_) ?_
                  · have h21 : xv 21 = .pointer (some ⟨b2, o2 + k, none⟩) := (H 21 (.edge (by kernel_rfl))).2
                    have f156 : F.tmps.getD 156 undef = .pointer (some ⟨b2, o2 + k, none⟩) := (hF 156).trans (Eq.trans (by kernel_rfl) h21)
                    have h17 : xv 17 = .bool false := (H 17 (.edge (by kernel_rfl))).2
                    have f152 : F.tmps.getD 152 undef = .bool false := (hF 152).trans (Eq.trans (by kernel_rfl) h17)
                    clear H hN hd hX hF
                    refine on_guard rfl (by kernel_rfl) f152 ?_
                    have hc1 := HCT.out W (hbel2 dn xv W hI)
                    go_simp
                    exact hK.out _ _ rfl trivial (by simpa [upB, upd] using hI)
                  refine EachF.cons 24 rfl (fun dn xv W F hF hd hN hX hI H K hK => ?_) ?_
                  · have h22 : xv 22 = .string ⟨t.toArray⟩ := (H 22 (.edge (by kernel_rfl))).2
                    have f157 : F.tmps.getD 157 undef = .string ⟨t.toArray⟩ := (hF 157).trans (Eq.trans (by kernel_rfl) h22)
                    have h17 : xv 17 = .bool false := (H 17 (.edge (by kernel_rfl))).2
                    have f152 : F.tmps.getD 152 undef = .bool false := (hF 152).trans (Eq.trans (by kernel_rfl) h17)
                    clear H hN hd hX hF
                    refine on_guard rfl (by kernel_rfl) f152 ?_
                    have hsz := size_str t
                    go_simp
                    exact hK.out _ _ rfl trivial (by simpa [upB, upd] using hI)
                  refine EachF.cons 25 rfl (fun dn xv W F hF hd hN hX hI H K hK => ?_) ?_
                  · have h18 : xv 18 = .pointer (some ⟨g7, 0, none⟩) := (H 18 (.edge (by kernel_rfl))).2
                    have f153 : F.tmps.getD 153 undef = .pointer (some ⟨g7, 0, none⟩) := (hF 153).trans (Eq.trans (by kernel_rfl) h18)
                    have h23 : xv 23 = .int .i64 (t.length : Int) := (H 23 (.edge (by kernel_rfl))).2
                    have f158 : F.tmps.getD 158 undef = .int .i64 (t.length : Int) := (hF 158).trans (Eq.trans (by kernel_rfl) h23)
                    have h17 : xv 17 = .bool false := (H 17 (.edge (by kernel_rfl))).2
                    have f152 : F.tmps.getD 152 undef = .bool false := (hF 152).trans (Eq.trans (by kernel_rfl) h17)
                    have q11 : dn 11 = true := (H 11 (.more (j := 17) (by kernel_rfl) (.edge (by kernel_rfl)))).1
                    have hS : Sep w W [Rd g7 T2 false] := by simpa [hd, q11] using hI
                    clear hI hN hd hX hF H
                    refine on_guard rfl (by kernel_rfl) f152 ?_
                    go_simp
                    refine (sep_rawR (i := 0) (z := (t.length : Int)) hS rfl (by omega)).mono ?_
                    rintro e W' ⟨v, rfl, hs⟩
                    rw [HU3.out] at hs
                    obtain ⟨A1, c1, e1, _⟩ := sep_byForm (i := 1) hs rfl
                    exact hK.out v W' ⟨A1, c1, e1⟩ trivial (by simpa [upB, upd] using hs)
                  refine EachF.cons 26 rfl (fun dn xv W F hF hd hN hX hI H K hK => ?_) ?_
                  · have h24 := (H 24 (.edge (by kernel_rfl))).2
                    simp only [Dl] at h24
                    have f159 : F.tmps.getD 159 undef = xv 24 := (hF 159).trans (by kernel_rfl)
                    have h17 : xv 17 = .bool false := (H 17 (.edge (by kernel_rfl))).2
                    have f152 : F.tmps.getD 152 undef = .bool false := (hF 152).trans (Eq.trans (by kernel_rfl) h17)
                    have hs := hb24 dn xv W hI (H 24 (.edge (by kernel_rfl))).1
                    clear h24
                    clear H hN hd hX hF
                    refine on_guard rfl (by kernel_rfl) f152 ?_
                    obtain ⟨A1, c1, e1, hh⟩ := hs
                    have hcv := run_str (c := c1) hh
                    clear hh
                    rw [e1] at f159
                    go_simp
                    exact hK.out _ _ rfl trivial (by simpa [upB, upd] using hI)
                  refine EachF.cons 27 rfl (fun dn xv W F hF hd hN hX hI H K hK => ?_) ?_
                  · have f1 : F.tmps.getD 1 undef = .slice (some ⟨b2, o2, none⟩) ts.length d := (hF 1).trans (by kernel_rfl)
                    have h17 : xv 17 = .bool false := (H 17 (.edge (by kernel_rfl))).2
                    have f152 : F.tmps.getD 152 undef = .bool false := (hF 152).trans (Eq.trans (by kernel_rfl) h17)
                    clear H hN hd hX hF
                    refine on_guard rfl (by kernel_rfl) f152 ?_
                    go_simp
                    exact hK.out _ _ rfl trivial (by simpa [upB, upd] using hI)
                  refine EachF.cons 28 rfl (fun dn xv W F hF hd hN hX hI H K hK => ?_) ?_
                  · have f8 : F.tmps.getD 8 undef = .int .i64 (k : Int) := (hF 8).trans (by kernel_rfl)
                    have h17 : xv 17 = .bool false := (H 17 (.edge (by kernel_rfl))).2
                    have f152 : F.tmps.getD 152 undef = .bool false := (hF 152).trans (Eq.trans (by kernel_rfl) h17)
                    clear H hN hd hX hF
                    refine on_guard rfl (by kernel_rfl) f152 ?_
                    go_simp
                    exact hK.out _ _ rfl trivial (by simpa [upB, upd] using hI)
                  refine EachF.cons 29 rfl (fun dn xv W F hF hd hN hX hI H K hK => ?_) ?_
                  · have h26 : xv 26 = .slice (some ⟨b2, o2, none⟩) ts.length d := (H 26 (.edge (by kernel_rfl))).2
                    have f161 : F.tmps.getD 161 undef = .slice (some ⟨b2, o2, none⟩) ts.length d := (hF 161).trans (Eq.trans (by kernel_rfl) h26)
                    have h27 : xv 27 = .int .i64 (k : Int) := (H 27 (.edge (by kernel_rfl))).2
                    have f162 : F.tmps.getD 162 undef = .int .i64 (k : Int) := (hF 162).trans (Eq.trans (by kernel_rfl) h27)
                    have h17 : xv 17 = .bool false := (H 17 (.edge (by kernel_rfl))).2
                    have f152 : F.tmps.getD 152 undef = .bool false := (hF 152).trans (Eq.trans (by kernel_rfl) h17)
                    clear H hN hd hX hF
                    refine on_guard rfl (by kernel_rfl) f152 ?_
                    go_simp
                    exact hK.out _ _ rfl trivial (by simpa [upB, upd] using hI)
                  refine EachF.cons 30 rfl (fun dn xv W F hF hd hN hX hI H K hK => ?_) ?_
                  · have h28 : xv 28 = .pointer (some ⟨b2, o2 + k, none⟩) := (H 28 (.edge (by kernel_rfl))).2
                    have f163 : F.tmps.getD 163 undef = .pointer (some ⟨b2, o2 + k, none⟩) := (hF 163).trans (Eq.trans (by kernel_rfl) h28)
                    have h17 : xv 17 = .bool false := (H 17 (.edge (by kernel_rfl))).2
                    have f152 : F.tmps.getD 152 undef = .bool false := (hF 152).trans (Eq.trans (by kernel_rfl) h17)
                    clear H hN hd hX hF
                    refine on_guard rfl (by kernel_rfl) f152 ?_
                    have hc1 := HCT.out W (hbel2 dn xv W hI)
                    go_simp
                    exact hK.out _ _ rfl trivial (by simpa [upB, upd] using hI)
                  refine EachF.cons 31 rfl (fun dn xv W F hF hd hN hX hI H K hK => ?_) ?_
                  · have h25 : xv 25 = .string ⟨t.toArray⟩ := (H 25 (.edge (by kernel_rfl))).2
                    have f160 : F.tmps.getD 160 undef = .string ⟨t.toArray⟩ := (hF 160).trans (Eq.trans (by kernel_rfl) h25)
                    have h29 : xv 29 = .string ⟨t.toArray⟩ := (H 29 (.edge (by kernel_rfl))).2
                    have f164 : F.tmps.getD 164 undef = .string ⟨t.toArray⟩ := (hF 164).trans (Eq.trans (by kernel_rfl) h29)
                    have h17 : xv 17 = .bool false := (H 17 (.edge (by kernel_rfl))).2
                    have f152 : F.tmps.getD 152 undef = .bool false := (hF 152).trans (Eq.trans (by kernel_rfl) h17)
                    clear H hN hd hX hF
                    refine on_guard rfl (by kernel_rfl) f152 ?_
                    go_simp
                    exact hK.out _ _ rfl trivial (by simpa [upB, upd] using hI)
                  refine EachF.cons 32 rfl (fun dn xv W F hF hd hN hX hI H K hK => ?_) ?_
                  · have h17 : xv 17 = .bool false := (H 17 (.edge (by kernel_rfl))).2
                    have f152 : F.tmps.getD 152 undef = .bool false := (hF 152).trans (Eq.trans (by kernel_rfl) h17)
                    have h30 : xv 30 = .bool false := (H 30 (.edge (by kernel_rfl))).2
                    have f165 : F.tmps.getD 165 undef = .bool false := (hF 165).trans (Eq.trans (by kernel_rfl) h30)
                    have h4 : xv 4 = .bool true := (H 4 (.edge (by kernel_rfl))).2
                    have f139 : F.tmps.getD 139 undef = .bool true := (hF 139).trans (Eq.trans (by kernel_rfl) h4)
                    clear H hN hd hX hF
                    refine on_guard rfl (by kernel_rfl) f139 ?_
                    go_simp
                    exact hK.out _ _ rfl trivial (by simpa [upB, upd] using hI)
                  refine EachF.cons 33 rfl (fun dn xv W F hF hd hN hX hI H K hK => ?_) ?_
                  · have h4 : xv 4 = .bool true := (H 4 (.edge (by kernel_rfl))).2
                    have f139 : F.tmps.getD 139 undef = .bool true := (hF 139).trans (Eq.trans (by kernel_rfl) h4)
                    have h31 : xv 31 = .bool false := (H 31 (.edge (by kernel_rfl))).2
                    have f166 : F.tmps.getD 166 undef = .bool false := (hF 166).trans (Eq.trans (by kernel_rfl) h31)
                    clear H hN hd hX hF
                    refine on_plain rfl ?_
                    go_simp
                    exact hK.out _ _ rfl trivial (by simpa [upB, upd] using hI)
                  exact EachF.nil
                · intro dn xv W hI H
                  have q32 : xv 32 = .bool false := (H 32 (of_decide_eq_true (by kernel_rfl))).2
                  have qe : dn 24 = true := (H 24 (of_decide_eq_true (by kernel_rfl))).1
                  have hS : Sep w W [Rd g7 T3 false, By (xv 24) t] := by simpa [qe] using hI
                  clear H hI qe
                  simp only [putAll, Act.put, List.setIfInBounds_toArray, List.set_cons_zero, List.set_cons_succ, Nat.reduceAdd, q32]
                  clear q32
                  have HS9 := Lib.hid (show Sep w W [Rd g7 T3 false] from hS.drop 1)
                  clear hS hbel2 hb24
                  go_wp2
                  go_roundw
                  case rel => exact ⟨k + 1, by omega, rfl, by go_num, by rw [show N - (k + 1) = m by omega, HRE.out, HT3.out]; exact HS9⟩
                  case measure => simp [intOf]; omega
            · skip
              obtain ⟨b, o, rfl, hcx⟩ := HCX0.out k h1
              have hxk := HXX.out xs[k] (List.getElem_mem h1)
              have HCX := Lib.hid hcx
              have HXK := Lib.hid hxk
              clear hcx hxk
              obtain ⟨x, Hx⟩ : ∃ x, Hid (xs[k] = x) := ⟨_, Lib.hid rfl⟩
              rw [Hx.out] at HCX HXK
              obtain ⟨s, hs4⟩ : ∃ s, s = k % 4 := ⟨_, rfl⟩
              have hsl : s < 4 := by omega
              have HAND := Lib.hid (show bits .and .i64 (k : Int) 3 = (s : Int) by rw [and_3]; congr 1; omega)
              have h2s : 2 ^ s ≤ 8 := by
                have : 2 ^ s ≤ 2 ^ 3 := Nat.pow_le_pow_right (by omega) (by omega)
                omega
              have HSM := Lib.hid (show ((s : Int)) % 9 = ((s : Nat) : Int) by omega)
              have HPX := Lib.hid (show partX xs k = Code.wide (2 ^ s) x ++ Code.short x by rw [partX_some h1, Hx.out, hs4])
              have hshl := (Code.short_length x).2
              clear hs4
              obtain ⟨R2, HR2⟩ : ∃ R2, Hid (partT ts k ++ rest = R2) := ⟨_, Lib.hid rfl⟩
              obtain ⟨R1, HR1⟩ : ∃ R1, Hid (Code.short x ++ R2 = R1) := ⟨_, Lib.hid rfl⟩
              obtain ⟨M, HM⟩ : ∃ M, Hid (Code.wide (2 ^ s) x = M) := ⟨_, Lib.hid rfl⟩
              have hMl := Code.wide_length (2 ^ s) x
              rw [HM.out] at hMl
              replace hMl : M.length ≤ 8 := by omega
              have HE0 := Lib.hid (show partX xs k ++ (partT ts k ++ rest) = M ++ R1 by rw [HPX.out, HR2.out, ← HR1.out, ← HM.out, List.append_assoc])
              rw [HE0.out] at HS hRl
              have hR1 : R1.length ≤ 30000000 := by rw [List.length_append] at hRl; omega
              have HASK := Lib.hid (askR_put s x hsl R1 0)
              rw [HM.out] at HASK
              obtain ⟨x2, HX2⟩ : ∃ x2, Hid (x % 256 ^ (2 ^ s) = x2) := ⟨_, Lib.hid rfl⟩
              rw [HX2.out] at HASK
              have hx2 : x2 ≤ x := by rw [← HX2.out]; exact Nat.mod_le _ _
              have HX2K := Lib.hid (Nat.lt_of_le_of_lt hx2 HXK.out)
              have HM2 := Lib.hid (show Code.wide (2 ^ s) x2 = M by rw [← HX2.out, wide_mod, HM.out])
              have HU1 := Lib.hid (show rUint R1 false = (x, R2, false) by rw [← HR1.out]; exact rUint_put x HXK.out R2)
              have HLR := Lib.hid (show R2.length ≤ R1.length by rw [← HR1.out, List.length_append]; omega)
              clear hx2
              have hand := HAND.out
              go_wp2_with fail
              refine (sep_asked (i := 0) (s : Int) 0 HS.out rfl (by omega) (by omega) (by omega) s (by omega) HSM.out).mono ?_
              rintro e w3 ⟨rfl, hs3⟩
              rw [HASK.out] at hs3 ⊢
              dsimp only at hs3 ⊢
              have HS3 := Lib.hid (show Sep w w3 [Rd g7 R1 false] from hs3)
              clear hs3 hand HS
              go_wp2_with fail
              refine (sep_newWriter HS3.out).mono ?_
              rintro e w4 ⟨g11, rfl, hs4⟩
              have HS4 := Lib.hid (show Sep w w4 [Rd g7 R1 false, Wr g11 []] from hs4)
              clear hs4 HS3
              have hand := HAND.out
              have hc1 := HCX.out w4 HS4.out.bel
              go_wp2_with fail
              refine (sep_writes (i := 1) (l' := [] ++ Code.wide (2 ^ s) x) HS4.out rfl (fun r hr => lawPut_any _ g11 r [] x s hr HXK.out hsl (by simp))).mono ?_
              rintro e w5 ⟨rfl, hs5⟩
              have HS5 := Lib.hid (show Sep w w5 [Rd g7 R1 false, Wr g11 M] by rw [← HM.out]; exact hs5)
              clear hs5 HS4 hc1 hand
              go_wp2_with fail
              refine (sep_newWriter HS5.out).mono ?_
              rintro e w6 ⟨g12, rfl, hs6⟩
              have HS6 := Lib.hid (show Sep w w6 [Rd g7 R1 false, Wr g11 M, Wr g12 []] from hs6)
              clear hs6 HS5
              have hand := HAND.out
              go_wp2_with fail
              refine (sep_writes (i := 2) (l' := [] ++ Code.wide (2 ^ s) x2) HS6.out rfl (fun r hr => lawPut_any _ g12 r [] x2 s hr HX2K.out hsl (by simp))).mono ?_
              rintro e w7 ⟨rfl, hs7⟩
              have HS := Lib.hid (show Sep w w7 [Rd g7 R1 false, Wr g11 M, Wr g12 M] by rw [← HM2.out]; rw [HM2.out]; rw [List.nil_append, HM2.out] at hs7; exact hs7)
              clear hs7 HS6 hand
              go_wp2_with fail
              have hbel : ∀ (dn : Nat → Bool) (xv : Nat → Value) (W : World), (if dn 9 = true then Sep w W [Rd g7 R2 false, Wr g11 M, Wr g12 M, By (xv 1) M, By (xv 4) M] else if dn 4 = true then Sep w W [Rd g7 R1 false, Wr g11 M, Wr g12 M, By (xv 1) M, By (xv 4) M] else if dn 1 = true then Sep w W [Rd g7 R1 false, Wr g11 M, Wr g12 M, By (xv 1) M] else Sep w W [Rd g7 R1 false, Wr g11 M, Wr g12 M]) → Below w.heap.size w W := fun dn xv W h => by
                split at h
                · exact h.bel
                · split at h
                  · exact h.bel
                  · split at h
                    · exact h.bel
                    · exact h.bel
              have hb1 : ∀ (dn : Nat → Bool) (xv : Nat → Value) (W : World), (if dn 9 = true then Sep w W [Rd g7 R2 false, Wr g11 M, Wr g12 M, By (xv 1) M, By (xv 4) M] else if dn 4 = true then Sep w W [Rd g7 R1 false, Wr g11 M, Wr g12 M, By (xv 1) M, By (xv 4) M] else if dn 1 = true then Sep w W [Rd g7 R1 false, Wr g11 M, Wr g12 M, By (xv 1) M] else Sep w W [Rd g7 R1 false, Wr g11 M, Wr g12 M]) → dn 1 = true → IsB M (xv 1) W := fun dn xv W h q1 => by
                by_cases q9 : dn 9 = true
                · rw [if_pos q9] at h
                  exact isB_of (sep_byForm (i := 3) h rfl)
                · rw [if_neg q9] at h
                  by_cases q4 : dn 4 = true
                  · rw [if_pos q4] at h
                    exact isB_of (sep_byForm (i := 3) h rfl)
                  · rw [if_neg q4, if_pos q1] at h
                    exact isB_of (sep_byForm (i := 3) h rfl)
              have hb4 : ∀ (dn : Nat → Bool) (xv : Nat → Value) (W : World), (if dn 9 = true then Sep w W [Rd g7 R2 false, Wr g11 M, Wr g12 M, By (xv 1) M, By (xv 4) M] else if dn 4 = true then Sep w W [Rd g7 R1 false, Wr g11 M, Wr g12 M, By (xv 1) M, By (xv 4) M] else if dn 1 = true then Sep w W [Rd g7 R1 false, Wr g11 M, Wr g12 M, By (xv 1) M] else Sep w W [Rd g7 R1 false, Wr g11 M, Wr g12 M]) → dn 4 = true → IsB M (xv 4) W := fun dn xv W h q4 => by
                by_cases q9 : dn 9 = true
                · rw [if_pos q9] at h
                  exact isB_of (sep_byForm (i := 4) h rfl)
                · rw [if_neg q9, if_pos q4] at h
                  exact isB_of (sep_byForm (i := 4) h rfl)
              refine wp_region_f (fun dn xv W => if dn 9 = true then Sep w W [Rd g7 R2 false, Wr g11 M, Wr g12 M, By (xv 1) M, By (xv 4) M] else if dn 4 = true then Sep w W [Rd g7 R1 false, Wr g11 M, Wr g12 M, By (xv 1) M, By (xv 4) M] else if dn 1 = true then Sep w W [Rd g7 R1 false, Wr g11 M, Wr g12 M, By (xv 1) M] else Sep w W [Rd g7 R1 false, Wr g11 M, Wr g12 M]) (fun _ _ => True) [fun v _ => v = .pointer (some ⟨g12, 0, none⟩), fun v _ => ∃ A1 c1, v = .slice A1 M.length c1, fun v _ => v = .string ⟨M.toArray⟩, fun v _ => v = .pointer (some ⟨g11, 0, none⟩), fun v _ => ∃ A1 c1, v = .slice A1 M.length c1, fun v _ => v = .string ⟨M.toArray⟩, fun v _ => v = .bool false, fun v _ => v = .bool false, fun v _ => v = .pointer (some ⟨g7, 0, none⟩), fun v _ => v = .int .u64 (x : Int), fun v _ => v = .slice (some ⟨b, o, none⟩) xs.length c, fun v _ => v = .int .i64 (k : Int), fun v _ => v = .pointer (some ⟨b, o + k, none⟩), fun v _ => v = .int .u64 (x : Int), fun v _ => v = .bool false, fun v _ => v = .bool false] (by kernel_rfl) (by kernel_rfl) (by kernel_rfl) (by kernel_rfl) (fun xv => by simpa using HS.out.drew)
                (by exact ⟨fun _ _ _ _ h => h, fun _ _ _ _ h => h, fun _ _ _ _ h => h, fun _ _ _ _ h => h, fun _ _ _ _ h => h, fun _ _ _ _ h => h, fun _ _ _ _ h => h, fun _ _ _ _ h => h, fun _ _ _ _ h => h, fun _ _ _ _ h => h, fun _ _ _ _ h => h, fun _ _ _ _ h => h, fun _ _ _ _ h => h, fun _ _ _ _ h => h, fun _ _ _ _ h => h, fun _ _ _ _ h => h, trivial⟩) ?_ ?_
              · refine EachF.cons 1 rfl (fun dn xv W F hF hd hN hX hI H K hK => ?_) ?_
                · have f12 : F.tmps.getD 12 undef = .pointer (some ⟨g12, 0, none⟩) := (hF 12).trans (by kernel_rfl)
                  clear H hN hd hX hF
                  refine on_plain rfl ?_
                  go_simp
                  exact hK.out _ _ rfl trivial (by simpa [upB, upd] using hI)
                refine EachF.cons 2 rfl (fun dn xv W F hF hd hN hX hI H K hK => ?_) ?_
                · have h0 : xv 0 = .pointer (some ⟨g12, 0, none⟩) := (H 0 (.edge (by kernel_rfl))).2
                  have f119 : F.tmps.getD 119 undef = .pointer (some ⟨g12, 0, none⟩) := (hF 119).trans (Eq.trans (by kernel_rfl) h0)
                  have q4 : dn 4 = false := hN 4 (.edge (by kernel_rfl))
                  have q9 : dn 9 = false := hN 9 (.more (j := 7) (by kernel_rfl) (.more (j := 4) (by kernel_rfl) (.edge (by kernel_rfl))))
                  have hS : Sep w W [Rd g7 R1 false, Wr g11 M, Wr g12 M] := by simpa [hd, q4, q9] using hI
                  clear hI hN hd hX hF H
                  refine on_plain rfl ?_
                  go_simp
                  refine (sep_bytes (i := 2) hS rfl (by omega)).mono ?_
                  rintro e W' ⟨v, rfl, hs⟩
                  obtain ⟨A1, c1, e1, _⟩ := sep_byForm (i := 3) hs rfl
                  exact hK.out v W' ⟨A1, c1, e1⟩ trivial (by simpa [upB, upd, q4, q9] using hs)
                refine EachF.cons 3 rfl (fun dn xv W F hF hd hN hX hI H K hK => ?_) ?_
                · have h1 := (H 1 (.edge (by kernel_rfl))).2
                  simp only [Dl] at h1
                  have f120 : F.tmps.getD 120 undef = xv 1 := (hF 120).trans (by kernel_rfl)
                  have hs := hb1 dn xv W hI (H 1 (.edge (by kernel_rfl))).1
                  clear h1
                  clear H hN hd hX hF
                  refine on_plain rfl ?_
                  obtain ⟨A1, c1, e1, hh⟩ := hs
                  have hcv := run_str (c := c1) hh
                  clear hh
                  rw [e1] at f120
                  go_simp
                  exact hK.out _ _ rfl trivial (by simpa [upB, upd] using hI)
                refine EachF.cons 4 rfl (fun dn xv W F hF hd hN hX hI H K hK => ?_) ?_
                · have f11 : F.tmps.getD 11 undef = .pointer (some ⟨g11, 0, none⟩) := (hF 11).trans (by kernel_rfl)
                  clear H hN hd hX hF
                  refine on_plain rfl ?_
                  go_simp
                  exact hK.out _ _ rfl trivial (by simpa [upB, upd] using hI)
                refine EachF.cons 5 rfl (fun dn xv W F hF hd hN hX hI H K hK => ?_) ?_
                · have h3 : xv 3 = .pointer (some ⟨g11, 0, none⟩) := (H 3 (.edge (by kernel_rfl))).2
                  have f122 : F.tmps.getD 122 undef = .pointer (some ⟨g11, 0, none⟩) := (hF 122).trans (Eq.trans (by kernel_rfl) h3)
                  have q1 : dn 1 = true := (H 1 (.edge (by kernel_rfl))).1
                  have q9 : dn 9 = false := hN 9 (.more (j := 7) (by kernel_rfl) (.edge (by kernel_rfl)))
                  have hS : Sep w W [Rd g7 R1 false, Wr g11 M, Wr g12 M, By (xv 1) M] := by simpa [hd, q9, q1] using hI
                  clear hI hN hd hX hF H
                  refine on_plain rfl ?_
                  go_simp
                  refine (sep_bytes (i := 1) hS rfl (by omega)).mono ?_
                  rintro e W' ⟨v, rfl, hs⟩
                  obtain ⟨A1, c1, e1, _⟩ := sep_byForm (i := 4) hs rfl
                  exact hK.out v W' ⟨A1, c1, e1⟩ trivial (by simpa [upB, upd, q9] using hs)
                refine EachF.cons 6 rfl (fun dn xv W F hF hd hN hX hI H K hK => ?_) ?_
                · have h4 := (H 4 (.edge (by kernel_rfl))).2
                  simp only [Dl] at h4
                  have f123 : F.tmps.getD 123 undef = xv 4 := (hF 123).trans (by kernel_rfl)
                  have hs := hb4 dn xv W hI (H 4 (.edge (by kernel_rfl))).1
                  clear h4
                  clear H hN hd hX hF
                  refine on_plain rfl ?_
                  obtain ⟨A1, c1, e1, hh⟩ := hs
                  have hcv := run_str (c := c1) hh
                  clear hh
                  rw [e1] at f123
                  go_simp
                  exact hK.out _ _ rfl trivial (by simpa [upB, upd] using hI)
                refine EachF.cons 7 rfl (fun dn xv W F hF hd hN hX hI H K hK => ?_) ?_
                · have h2 : xv 2 = .string ⟨M.toArray⟩ := (H 2 (.edge (by kernel_rfl))).2
                  have f121 : F.tmps.getD 121 undef = .string ⟨M.toArray⟩ := (hF 121).trans (Eq.trans (by kernel_rfl) h2)
                  have h5 : xv 5 = .string ⟨M.toArray⟩ := (H 5 (.edge (by kernel_rfl))).2
                  have f124 : F.tmps.getD 124 undef = .string ⟨M.toArray⟩ := (hF 124).trans (Eq.trans (by kernel_rfl) h5)
                  clear H hN hd hX hF
                  refine on_plain rfl ?_
                  go_simp
                  exact hK.out _ _ rfl trivial (by simpa [upB, upd] using hI)
                refine EachF.cons 8 rfl (fun dn xv W F hF hd hN hX hI H K hK => ?_) ?_
                · have h6 : xv 6 = .bool false := (H 6 (.edge (by kernel_rfl))).2
                  have f125 : F.tmps.getD 125 undef = .bool false := (hF 125).trans (Eq.trans (by kernel_rfl) h6)
                  clear H hN hd hX hF
                  refine on_plain rfl ?_
                  go_simp
                  exact hK.out _ _ rfl trivial (by simpa [upB, upd] using hI)
                refine EachF.cons 9 rfl (fun dn xv W F hF hd hN hX hI H K hK => ?_) ?_
                · have f7 : F.tmps.getD 7 undef = .pointer (some ⟨g7, 0, none⟩) := (hF 7).trans (by kernel_rfl)
                  have h7 : xv 7 = .bool false := (H 7 (.edge (by kernel_rfl))).2
                  have f126 : F.tmps.getD 126 undef = .bool false := (hF 126).trans (Eq.trans (by kernel_rfl) h7)
                  clear H hN hd hX hF
                  refine on_guard rfl (by kernel_rfl) f126 ?_
                  go_simp
                  exact hK.out _ _ rfl trivial (by simpa [upB, upd] using hI)
                refine EachF.cons 10 rfl (fun dn xv W F hF hd hN hX hI H K hK => ?_) ?_
                · have h8 : xv 8 = .pointer (some ⟨g7, 0, none⟩) := (H 8 (.edge (by kernel_rfl))).2
                  have f127 : F.tmps.getD 127 undef = .pointer (some ⟨g7, 0, none⟩) := (hF 127).trans (Eq.trans (by kernel_rfl) h8)
                  have h7 : xv 7 = .bool false := (H 7 (.edge (by kernel_rfl))).2
                  have f126 : F.tmps.getD 126 undef = .bool false := (hF 126).trans (Eq.trans (by kernel_rfl) h7)
                  have q4 : dn 4 = true := (H 4 (.more (j := 7) (by kernel_rfl) (.edge (by kernel_rfl)))).1
                  have hS : Sep w W [Rd g7 R1 false, Wr g11 M, Wr g12 M, By (xv 1) M, By (xv 4) M] := by simpa [hd, q4] using hI
                  clear hI hN hd hX hF H
                  refine on_guard rfl (by kernel_rfl) f126 ?_
                  go_simp
                  refine (sep_reads (i := 0) (l' := R2) (bad' := false) (v := .int .u64 (x : Int)) hS rfl HLR.out (fun rb hr => by have h3 := uintR_any W g7 rb R1 false hr (by omega); rw [HU1.out] at h3; exact h3)).mono ?_
                  rintro e W' ⟨rfl, hs⟩
                  exact hK.out _ W' rfl trivial (by simpa [upB, upd] using hs)
                refine EachF.cons 11 rfl (fun dn xv W F hF hd hN hX hI H K hK => ?_) ?_
                · have f0 : F.tmps.getD 0 undef = .slice (some ⟨b, o, none⟩) xs.length c := (hF 0).trans (by kernel_rfl)
                  have h7 : xv 7 = .bool false := (H 7 (.edge (by kernel_rfl))).2
                  have f126 : F.tmps.getD 126 undef = .bool false := (hF 126).trans (Eq.trans (by kernel_rfl) h7)
                  clear H hN hd hX hF
                  refine on_guard rfl (by kernel_rfl) f126 ?_
                  go_simp
                  exact hK.out _ _ rfl trivial (by simpa [upB, upd] using hI)
                refine EachF.cons 12 rfl (fun dn xv W F hF hd hN hX hI H K hK => ?_) ?_
                · have f8 : F.tmps.getD 8 undef = .int .i64 (k : Int) := (hF 8).trans (by kernel_rfl)
                  have h7 : xv 7 = .bool false := (H 7 (.edge (by kernel_rfl))).2
                  have f126 : F.tmps.getD 126 undef = .bool false := (hF 126).trans (Eq.trans (by kernel_rfl) h7)
                  clear H hN hd hX hF
                  refine on_guard rfl (by kernel_rfl) f126 ?_
                  go_simp
                  exact hK.out _ _ rfl trivial (by simpa [upB, upd] using hI)
                refine EachF.cons 13 rfl (fun dn xv W F hF hd hN hX hI H K hK => ?_) ?_
                · have h10 : xv 10 = .slice (some ⟨b, o, none⟩) xs.length c := (H 10 (.edge (by kernel_rfl))).2
                  have f129 : F.tmps.getD 129 undef = .slice (some ⟨b, o, none⟩) xs.length c := (hF 129).trans (Eq.trans (by kernel_rfl) h10)
                  have h11 : xv 11 = .int .i64 (k : Int) := (H 11 (.edge (by kernel_rfl))).2
                  have f130 : F.tmps.getD 130 undef = .int .i64 (k : Int) := (hF 130).trans (Eq.trans (by kernel_rfl) h11)
                  have h7 : xv 7 = .bool false := (H 7 (.edge (by kernel_rfl))).2
                  have f126 : F.tmps.getD 126 undef = .bool false := (hF 126).trans (Eq.trans (by kernel_rfl) h7)
                  clear H hN hd hX hF
                  refine on_guard rfl (by kernel_rfl) f126 ?_
                  go_simp
                  exact hK.out _ _ rfl trivial (by simpa [upB, upd] using hI)
                refine EachF.cons 14 rfl (fun dn xv W F hF hd hN hX hI H K hK => ?_) ?_
                · have h12 : xv 12 = .pointer (some ⟨b, o + k, none⟩) := (H 12 (.edge (by kernel_rfl))).2
                  have f131 : F.tmps.getD 131 undef = .pointer (some ⟨b, o + k, none⟩) := (hF 131).trans (Eq.trans (by kernel_rfl) h12)
                  have h7 : xv 7 = .bool false := (H 7 (.edge (by kernel_rfl))).2
                  have f126 : F.tmps.getD 126 undef = .bool false := (hF 126).trans (Eq.trans (by kernel_rfl) h7)
                  clear H hN hd hX hF
                  refine on_guard rfl (by kernel_rfl) f126 ?_
                  have hc1 := HCX.out W (hbel dn xv W hI)
                  go_simp
                  exact hK.out _ _ rfl trivial (by simpa [upB, upd] using hI)
                refine EachF.cons 15 rfl (fun dn xv W F hF hd hN hX hI H K hK => ?_) ?_
                · have h9 : xv 9 = .int .u64 (x : Int) := (H 9 (.edge (by kernel_rfl))).2
                  have f128 : F.tmps.getD 128 undef = .int .u64 (x : Int) := (hF 128).trans (Eq.trans (by kernel_rfl) h9)
                  have h13 : xv 13 = .int .u64 (x : Int) := (H 13 (.edge (by kernel_rfl))).2
                  have f132 : F.tmps.getD 132 undef = .int .u64 (x : Int) := (hF 132).trans (Eq.trans (by kernel_rfl) h13)
                  have h7 : xv 7 = .bool false := (H 7 (.edge (by kernel_rfl))).2
                  have f126 : F.tmps.getD 126 undef = .bool false := (hF 126).trans (Eq.trans (by kernel_rfl) h7)
                  clear H hN hd hX hF
                  refine on_guard rfl (by kernel_rfl) f126 ?_
                  go_simp
                  exact hK.out _ _ rfl trivial (by simpa [upB, upd] using hI)
                refine EachF.cons 16 rfl (fun dn xv W F hF hd hN hX hI H K hK => ?_) ?_
                · have h7 : xv 7 = .bool false := (H 7 (.edge (by kernel_rfl))).2
                  have f126 : F.tmps.getD 126 undef = .bool false := (hF 126).trans (Eq.trans (by kernel_rfl) h7)
                  have h14 : xv 14 = .bool false := (H 14 (.edge (by kernel_rfl))).2
                  have f133 : F.tmps.getD 133 undef = .bool false := (hF 133).trans (Eq.trans (by kernel_rfl) h14)
                  clear H hN hd hX hF
                  refine on_plain rfl ?_
                  go_simp
                  exact hK.out _ _ rfl trivial (by simpa [upB, upd] using hI)
                exact EachF.nil
              · intro dn xv W hI H
                have q15 : xv 15 = .bool false := (H 15 (of_decide_eq_true (by kernel_rfl))).2
                have qe : dn 9 = true := (H 9 (of_decide_eq_true (by kernel_rfl))).1
                have hS : Sep w W [Rd g7 R2 false, Wr g11 M, Wr g12 M, By (xv 1) M, By (xv 4) M] := by simpa [qe] using hI
                clear H hI qe
                simp only [putAll, Act.put, List.setIfInBounds_toArray, List.set_cons_zero, List.set_cons_succ, Nat.reduceAdd, q15]
                clear q15
                have HS := Lib.hid (show Sep w W [Rd g7 R2 false] from (((hS.drop 4).drop 3).drop 2).drop 1)
                clear hS hbel hb1 hb4
                go_wp2_with fail
                obtain ⟨T1, HT1⟩ : ∃ T1, Hid (R2 = T1) := ⟨_, Lib.hid rfl⟩
                rw [HT1.out] at HS HR2 HLR
                have HE1 := Lib.hid (show T1 = rest by rw [← HR2.out, partT_none h2, List.nil_append])
                refine wp_region_f (fun dn xv W => Sep w W [Rd g7 T1 false]) (fun W W' => Below W.heap.size W W') [fun v _ => v = .int .i64 (k : Int), fun v _ => v = .slice B ts.length d, fun v _ => v = .int .i64 (ts.length : Int), fun v _ => v = .bool false, fun v _ => v = .bool false, fun v _ => v = undef, fun v _ => v = undef, fun v _ => v = undef, fun v _ => v = undef, fun v _ => v = undef, fun v _ => v = undef, fun v _ => v = undef, fun v _ => v = undef, fun v _ => v = undef, fun v _ => v = undef, fun v _ => v = undef, fun v _ => v = undef, fun v _ => v = undef, fun v _ => v = undef, fun v _ => v = undef, fun v _ => v = undef, fun v _ => v = undef, fun v _ => v = undef, fun v _ => v = undef, fun v _ => v = undef, fun v _ => v = undef, fun v _ => v = undef, fun v _ => v = undef, fun v _ => v = undef, fun v _ => v = undef, fun v _ => v = undef, fun v _ => v = undef, fun v _ => v = .bool false] (by kernel_rfl) (by kernel_rfl) (by kernel_rfl) (by kernel_rfl) (fun xv => by simpa using HS.out.drew)
                  (by exact ⟨fun _ _ _ _ h => h, fun _ _ _ _ h => h, fun _ _ _ _ h => h, fun _ _ _ _ h => h, fun _ _ _ _ h => h, fun _ _ _ _ h => h, fun _ _ _ _ h => h, fun _ _ _ _ h => h, fun _ _ _ _ h => h, fun _ _ _ _ h => h, fun _ _ _ _ h => h, fun _ _ _ _ h => h, fun _ _ _ _ h => h, fun _ _ _ _ h => h, fun _ _ _ _ h => h, fun _ _ _ _ h => h, fun _ _ _ _ h => h, fun _ _ _ _ h => h, fun _ _ _ _ h => h, fun _ _ _ _ h => h, fun _ _ _ _ h => h, fun _ _ _ _ h => h, fun _ _ _ _ h => h, fun _ _ _ _ h => h, fun _ _ _ _ h => h, fun _ _ _ _ h => h, fun _ _ _ _ h => h, fun _ _ _ _ h => h, fun _ _ _ _ h => h, fun _ _ _ _ h => h, fun _ _ _ _ h => h, fun _ _ _ _ h => h, fun _ _ _ _ h => h, trivial⟩) ?_ ?_
                · refine EachF.cons 1 rfl (fun dn xv W F hF hd hN hX hI H K hK => ?_) ?_
                  · have f8 : F.tmps.getD 8 undef = .int .i64 (k : Int) := (hF 8).trans (by kernel_rfl)
                    clear H hN hd hX hF
                    refine on_plain rfl ?_
                    go_simp
                    exact hK.out _ _ rfl (Below.refl _ _) (by simpa [upB, upd] using hI)
                  refine EachF.cons 2 rfl (fun dn xv W F hF hd hN hX hI H K hK => ?_) ?_
                  · have f1 : F.tmps.getD 1 undef = .slice B ts.length d := (hF 1).trans (by kernel_rfl)
                    clear H hN hd hX hF
                    refine on_plain rfl ?_
                    go_simp
                    exact hK.out _ _ rfl (Below.refl _ _) (by simpa [upB, upd] using hI)
                  refine EachF.cons 3 rfl (fun dn xv W F hF hd hN hX hI H K hK => ?_) ?_
                  · have h1 : xv 1 = .slice B ts.length d := (H 1 (.edge (by kernel_rfl))).2
                    have f136 : F.tmps.getD 136 undef = .slice B ts.length d := (hF 136).trans (Eq.trans (by kernel_rfl) h1)
                    clear H hN hd hX hF
                    refine on_plain rfl ?_
                    go_simp
                    exact hK.out _ _ rfl (Below.refl _ _) (by simpa [upB, upd] using hI)
                  refine EachF.cons 4 rfl (fun dn xv W F hF hd hN hX hI H K hK => ?_) ?_
                  · have h0 : xv 0 = .int .i64 (k : Int) := (H 0 (.edge (by kernel_rfl))).2
                    have f135 : F.tmps.getD 135 undef = .int .i64 (k : Int) := (hF 135).trans (Eq.trans (by kernel_rfl) h0)
                    have h2 : xv 2 = .int .i64 (ts.length : Int) := (H 2 (.edge (by kernel_rfl))).2
                    have f137 : F.tmps.getD 137 undef = .int .i64 (ts.length : Int) := (hF 137).trans (Eq.trans (by kernel_rfl) h2)
                    clear H hN hd hX hF
                    refine on_plain rfl ?_
                    have d0 : decide ((k : Int) < (ts.length : Int)) = false := decide_eq_false (by omega)
                    have d1 : decide (k < ts.length) = false := decide_eq_false (by omega)
                    go_simp
                    exact hK.out _ _ rfl (Below.refl _ _) (by simpa [upB, upd] using hI)
                  refine EachF.cons 5 rfl (fun dn xv W F hF hd hN hX hI H K hK => ?_) ?_
                  · have h3 : xv 3 = .bool false := (H 3 (.edge (by kernel_rfl))).2
                    have f138 : F.tmps.getD 138 undef = .bool false := (hF 138).trans (Eq.trans (by kernel_rfl) h3)
                    clear H hN hd hX hF
                    refine on_plain rfl ?_
                    go_simp
                    exact hK.out _ _ rfl (Below.refl _ _) (by simpa [upB, upd] using hI)
                  refine EachF.cons 6 rfl (fun dn xv W F hF hd hN hX hI H K hK => ?_) ?_
                  · have h4 : xv 4 = .bool false := (H 4 (.edge (by kernel_rfl))).2
                    have f139 : F.tmps.getD 139 undef = .bool false := (hF 139).trans (Eq.trans (by kernel_rfl) h4)
                    clear H hN hd hX hF
                    refine off_guard rfl (by kernel_rfl) f139 (by decide) ?_
                    exact hK.out _ _ rfl (Below.refl _ _) (by simpa [upB, upd] using hI)
                  refine EachF.cons 7 rfl (fun dn xv W F hF hd hN hX hI H K hK => ?_) ?_
                  · have h4 : xv 4 = .bool false := (H 4 (.edge (by kernel_rfl))).2
                    have f139 : F.tmps.getD 139 undef = .bool false := (hF 139).trans (Eq.trans (by kernel_rfl) h4)
                    clear H hN hd hX hF
                    refine off_guard rfl (by kernel_rfl) f139 (by decide) ?_
                    exact hK.out _ _ rfl (Below.refl _ _) (by simpa [upB, upd] using hI)
                  refine EachF.cons 8 rfl (fun dn xv W F hF hd hN hX hI H K hK => ?_) ?_
                  · have h4 : xv 4 = .bool false := (H 4 (.edge (by kernel_rfl))).2
                    have f139 : F.tmps.getD 139 undef = .bool false := (hF 139).trans (Eq.trans (by kernel_rfl) h4)
                    clear H hN hd hX hF
                    refine off_guard rfl (by kernel_rfl) f139 (by decide) ?_
                    exact hK.out _ _ rfl (Below.refl _ _) (by simpa [upB, upd] using hI)
                  refine EachF.cons 9 rfl (fun dn xv W F hF hd hN hX hI H K hK => ?_) ?_
                  · have h4 : xv 4 = .bool false := (H 4 (.edge (by kernel_rfl))).2
                    have f139 : F.tmps.getD 139 undef = .bool false := (hF 139).trans (Eq.trans (by kernel_rfl) h4)
                    clear H hN hd hX hF
                    refine off_guard rfl (by kernel_rfl) f139 (by decide) ?_
                    exact hK.out _ _ rfl (Below.refl _ _) (by simpa [upB, upd] using hI)
                  refine EachF.cons 10 rfl (fun dn xv W F hF hd hN hX hI H K hK => ?_) ?_
                  · have h4 : xv 4 = .bool false := (H 4 (.edge (by kernel_rfl))).2
                    have f139 : F.tmps.getD 139 undef = .bool false := (hF 139).trans (Eq.trans (by kernel_rfl) h4)
                    clear H hN hd hX hF
                    refine off_guard rfl (by kernel_rfl) f139 (by decide) ?_
                    exact hK.out _ _ rfl (Below.refl _ _) (by simpa [upB, upd] using hI)
                  refine EachF.cons 11 rfl (fun dn xv W F hF hd hN hX hI H K hK => ?_) ?_
                  · have h4 : xv 4 = .bool false := (H 4 (.edge (by kernel_rfl))).2
                    have f139 : F.tmps.getD 139 undef = .bool false := (hF 139).trans (Eq.trans (by kernel_rfl) h4)
                    clear H hN hd hX hF
                    refine off_guard rfl (by kernel_rfl) f139 (by decide) ?_
                    exact hK.out _ _ rfl (Below.refl _ _) (by simpa [upB, upd] using hI)
                  refine EachF.cons 12 rfl (fun dn xv W F hF hd hN hX hI H K hK => ?_) ?_
                  · have h4 : xv 4 = .bool false := (H 4 (.edge (by kernel_rfl))).2
                    have f139 : F.tmps.getD 139 undef = .bool false := (hF 139).trans (Eq.trans (by kernel_rfl) h4)
                    clear H hN hd hX hF
                    refine off_guard rfl (by kernel_rfl) f139 (by decide) ?_
                    exact hK.out _ _ rfl (Below.refl _ _) (by simpa [upB, upd] using hI)
                  refine EachF.cons 13 rfl (fun dn xv W F hF hd hN hX hI H K hK => ?_) ?_
                  · have h4 : xv 4 = .bool false := (H 4 (.edge (by kernel_rfl))).2
                    have f139 : F.tmps.getD 139 undef = .bool false := (hF 139).trans (Eq.trans (by kernel_rfl) h4)
                    clear H hN hd hX hF
                    refine off_guard rfl (by kernel_rfl) f139 (by decide) ?_
                    exact hK.out _ _ rfl (Below.refl _ _) (by simpa [upB, upd] using hI)
                  refine EachF.cons 14 rfl (fun dn xv W F hF hd hN hX hI H K hK => ?_) ?_
                  · have h4 : xv 4 = .bool false := (H 4 (.edge (by kernel_rfl))).2
                    have f139 : F.tmps.getD 139 undef = .bool false := (hF 139).trans (Eq.trans (by kernel_rfl) h4)
                    clear H hN hd hX hF
                    refine off_guard rfl (by kernel_rfl) f139 (by decide) ?_
                    exact hK.out _ _ rfl (Below.refl _ _) (by simpa [upB, upd] using hI)
                  refine EachF.cons 15 rfl (fun dn xv W F hF hd hN hX hI H K hK => ?_) ?_
                  · have h4 : xv 4 = .bool false := (H 4 (.edge (by kernel_rfl))).2
                    have f139 : F.tmps.getD 139 undef = .bool false := (hF 139).trans (Eq.trans (by kernel_rfl) h4)
                    clear H hN hd hX hF
                    refine off_guard rfl (by kernel_rfl) f139 (by decide) ?_
                    exact hK.out _ _ rfl (Below.refl _ _) (by simpa [upB, upd] using hI)
                  refine EachF.cons 16 rfl (fun dn xv W F hF hd hN hX hI H K hK => ?_) ?_
                  · have h4 : xv 4 = .bool false := (H 4 (.edge (by kernel_rfl))).2
                    have f139 : F.tmps.getD 139 undef = .bool false := (hF 139).trans (Eq.trans (by kernel_rfl) h4)
                    clear H hN hd hX hF
                    refine off_guard rfl (by kernel_rfl) f139 (by decide) ?_
                    exact hK.out _ _ rfl (Below.refl _ _) (by simpa [upB, upd] using hI)
                  refine EachF.cons 17 rfl (fun dn xv W F hF hd hN hX hI H K hK => ?_) ?_
                  · have h4 : xv 4 = .bool false := (H 4 (.edge (by kernel_rfl))).2
                    have f139 : F.tmps.getD 139 undef = .bool false := (hF 139).trans (Eq.trans (by kernel_rfl) h4)
                    clear H hN hd hX hF
                    refine off_guard rfl (by kernel_rfl) f139 (by decide) ?_
                    exact hK.out _ _ rfl (Below.refl _ _) (by simpa [upB, upd] using hI)
                  refine EachF.cons 18 rfl (fun dn xv W F hF hd hN hX hI H K hK => ?_) ?_
                  · have h4 : xv 4 = .bool false := (H 4 (.edge (by kernel_rfl))).2
                    have f139 : F.tmps.getD 139 undef = .bool false := (hF 139).trans (Eq.trans (by kernel_rfl) h4)
                    clear H hN hd hX hF
                    refine off_guard rfl (by kernel_rfl) f139 (by decide) ?_
                    exact hK.out _ _ rfl (Below.refl _ _) (by simpa [upB, upd] using hI)
                  refine EachF.cons 19 rfl (fun dn xv W F hF hd hN hX hI H K hK => ?_) ?_
                  · have h17 : xv 17 = undef := (H 17 (.edge (by kernel_rfl))).2
                    have f152 : F.tmps.getD 152 undef = undef := (hF 152).trans (Eq.trans (by kernel_rfl) h17)
                    clear H hN hd hX hF
                    refine off_undef rfl (by kernel_rfl) f152 ?_
                    exact hK.out _ _ rfl (Below.refl _ _) (by simpa [upB, upd] using hI)
                  refine EachF.cons 20 rfl (fun dn xv W F hF hd hN hX hI H K hK => ?_) ?_
                  · have h17 : xv 17 = undef := (H 17 (.edge (by kernel_rfl))).2
                    have f152 : F.tmps.getD 152 undef = undef := (hF 152).trans (Eq.trans (by kernel_rfl) h17)
                    clear H hN hd hX hF
                    refine off_undef rfl (by kernel_rfl) f152 ?_
                    exact hK.out _ _ rfl (Below.refl _ _) (by simpa [upB, upd] using hI)
                  refine EachF.cons 21 rfl (fun dn xv W F hF hd hN hX hI H K hK => ?_) ?_
                  · have h17 : xv 17 = undef := (H 17 (.edge (by kernel_rfl))).2
                    have f152 : F.tmps.getD 152 undef = undef := (hF 152).trans (Eq.trans (by kernel_rfl) h17)
                    clear H hN hd hX hF
                    refine off_undef rfl (by kernel_rfl) f152 ?_
                    exact hK.out _ _ rfl (Below.refl _ _) (by simpa [upB, upd] using hI)
                  refine EachF.cons 22 rfl (fun dn xv W F hF hd hN hX hI H K hK => ?_) ?_
                  · have h17 : xv 17 = undef := (H 17 (.edge (by kernel_rfl))).2
                    have f152 : F.tmps.getD 152 undef = undef := (hF 152).trans (Eq.trans (by kernel_rfl) h17)
                    clear H hN hd hX hF
                    refine off_undef rfl (by kernel_rfl) f152 ?_
                    exact hK.out _ _ rfl (Below.refl _ _) (by simpa [upB, upd] using hI)
                  refine EachF.cons 23 rfl (fun dn xv W F hF hd hN hX hI H K hK => ?_) ?_
                  · have h17 : xv 17 = undef := (H 17 (.edge (by kernel_rfl))).2
                    have f152 : F.tmps.getD 152 undef = undef := (hF 152).trans (Eq.trans (by kernel_rfl) h17)
                    clear H hN hd hX hF
                    refine off_undef rfl (by kernel_rfl) f152 ?_
                    exact hK.out _ _ rfl (Below.refl _ _) (by simpa [upB, upd] using hI)
                  refine EachF.cons 24 rfl (fun dn xv W F hF hd hN hX hI H K hK => ?_) ?_
                  · have h17 : xv 17 = undef := (H 17 (.edge (by kernel_rfl))).2
                    have f152 : F.tmps.getD 152 undef = undef := (hF 152).trans (Eq.trans (by kernel_rfl) h17)
                    clear H hN hd hX hF
                    refine off_undef rfl (by kernel_rfl) f152 ?_
                    exact hK.out _ _ rfl (Below.refl _ _) (by simpa [upB, upd] using hI)
                  refine EachF.cons 25 rfl (fun dn xv W F hF hd hN hX hI H K hK => ?_) ?_
                  · have h17 : xv 17 = undef := (H 17 (.edge (by kernel_rfl))).2
                    have f152 : F.tmps.getD 152 undef = undef := (hF 152).trans (Eq.trans (by kernel_rfl) h17)
                    clear H hN hd hX hF
                    refine off_undef rfl (by kernel_rfl) f152 ?_
                    exact hK.out _ _ rfl (Below.refl _ _) (by simpa [upB, upd] using hI)
                  refine EachF.cons 26 rfl (fun dn xv W F hF hd hN hX hI H K hK => ?_) ?_
                  · have h17 : xv 17 = undef := (H 17 (.edge (by kernel_rfl))).2
                    have f152 : F.tmps.getD 152 undef = undef := (hF 152).trans (Eq.trans (by kernel_rfl) h17)
                    clear H hN hd hX hF
                    refine off_undef rfl (by kernel_rfl) f152 ?_
                    exact hK.out _ _ rfl (Below.refl _ _) (by simpa [upB, upd] using hI)
                  refine EachF.cons 27 rfl (fun dn xv W F hF hd hN hX hI H K hK => ?_) ?_
                  · have h17 : xv 17 = undef := (H 17 (.edge (by kernel_rfl))).2
                    have f152 : F.tmps.getD 152 undef = undef := (hF 152).trans (Eq.trans (by kernel_rfl) h17)
                    clear H hN hd hX hF
                    refine off_undef rfl (by kernel_rfl) f152 ?_
                    exact hK.out _ _ rfl (Below.refl _ _) (by simpa [upB, upd] using hI)
                  refine EachF.cons 28 rfl (fun dn xv W F hF hd hN hX hI H K hK => ?_) ?_
                  · have h17 : xv 17 = undef := (H 17 (.edge (by kernel_rfl))).2
                    have f152 : F.tmps.getD 152 undef = undef := (hF 152).trans (Eq.trans (by kernel_rfl) h17)
                    clear H hN hd hX hF
                    refine off_undef rfl (by kernel_rfl) f152 ?_
                    exact hK.out _ _ rfl (Below.refl _ _) (by simpa [upB, upd] using hI)
                  refine EachF.cons 29 rfl (fun dn xv W F hF hd hN hX hI H K hK => ?_) ?_
                  · have h17 : xv 17 = undef := (H 17 (.edge (by kernel_rfl))).2
                    have f152 : F.tmps.getD 152 undef = undef := (hF 152).trans (Eq.trans (by kernel_rfl) h17)
                    clear H hN hd hX hF
                    refine off_undef rfl (by kernel_rfl) f152 ?_
                    exact hK.out _ _ rfl (Below.refl _ _) (by simpa [upB, upd] using hI)
                  refine EachF.cons 30 rfl (fun dn xv W F hF hd hN hX hI H K hK => ?_) ?_
                  · have h17 : xv 17 = undef := (H 17 (.edge (by kernel_rfl))).2
                    have f152 : F.tmps.getD 152 undef = undef := (hF 152).trans (Eq.trans (by kernel_rfl) h17)
                    clear H hN hd hX hF
                    refine off_undef rfl (by kernel_rfl) f152 ?_
                    exact hK.out _ _ rfl (Below.refl _ _) (by simpa [upB, upd] using hI)
                  refine EachF.cons 31 rfl (fun dn xv W F hF hd hN hX hI H K hK => ?_) ?_
                  · have h17 : xv 17 = undef := (H 17 (.edge (by kernel_rfl))).2
                    have f152 : F.tmps.getD 152 undef = undef := (hF 152).trans (Eq.trans (by kernel_rfl) h17)
                    clear H hN hd hX hF
                    refine off_undef rfl (by kernel_rfl) f152 ?_
                    exact hK.out _ _ rfl (Below.refl _ _) (by simpa [upB, upd] using hI)
                  refine EachF.cons 32 rfl (fun dn xv W F hF hd hN hX hI H K hK => ?_) ?_
                  · have h4 : xv 4 = .bool false := (H 4 (.edge (by kernel_rfl))).2
                    have f139 : F.tmps.getD 139 undef = .bool false := (hF 139).trans (Eq.trans (by kernel_rfl) h4)
                    clear H hN hd hX hF
                    refine off_guard rfl (by kernel_rfl) f139 (by decide) ?_
                    exact hK.out _ _ rfl (Below.refl _ _) (by simpa [upB, upd] using hI)
                  refine EachF.cons 33 rfl (fun dn xv W F hF hd hN hX hI H K hK => ?_) ?_
                  · have h4 : xv 4 = .bool false := (H 4 (.edge (by kernel_rfl))).2
                    have f139 : F.tmps.getD 139 undef = .bool false := (hF 139).trans (Eq.trans (by kernel_rfl) h4)
                    have h31 : xv 31 = undef := (H 31 (.edge (by kernel_rfl))).2
                    have f166 : F.tmps.getD 166 undef = undef := (hF 166).trans (Eq.trans (by kernel_rfl) h31)
                    clear H hN hd hX hF
                    refine on_plain rfl ?_
                    go_simp
                    exact hK.out _ _ rfl (Below.refl _ _) (by simpa [upB, upd] using hI)
                  exact EachF.nil
                · intro dn xv W hI H
                  have q32 : xv 32 = .bool false := (H 32 (of_decide_eq_true (by kernel_rfl))).2
                  have hS : Sep w W [Rd g7 T1 false] := hI
                  clear H hI
                  simp only [putAll, Act.put, List.setIfInBounds_toArray, List.set_cons_zero, List.set_cons_succ, Nat.reduceAdd, q32]
                  clear q32
                  have HS9 := Lib.hid (show Sep w W [Rd g7 rest false] by rw [← HE1.out]; exact hS)
                  clear hS
                  go_wp2
                  go_roundw
                  case rel => exact ⟨k + 1, by omega, rfl, by go_num, by rw [show N - (k + 1) = m by omega, HRE.out]; exact HS9⟩
                  case measure => simp [intOf]; omega
          · have h2 : k < ts.length := by omega
            obtain ⟨T1, HR2⟩ : ∃ T1, Hid (partT ts k ++ rest = T1) := ⟨_, Lib.hid rfl⟩
            rw [partX_none h1, List.nil_append, HR2.out] at HS hRl
            have hR1 : T1.length ≤ 30000000 := hRl
            have HLR := Lib.hid (Nat.le_refl T1.length)
            go_wp2_with fail
            obtain ⟨b2, o2, rfl, hct⟩ := HCT0.out k h2
            have HCT := Lib.hid hct
            clear hct
            have htb := HTB.out ts[k] (List.getElem_mem h2)
            obtain ⟨t, Ht⟩ : ∃ t, Hid (ts[k] = t) := ⟨_, Lib.hid rfl⟩
            rw [Ht.out] at HCT htb
            have HPT := Lib.hid (show partT ts k = Code.text t ++ t by rw [partT_some h2, Ht.out])
            have hsz := size_str t
            have htx : (Code.text t).length ≤ t.length + 11 := by
              have := (Code.short_length t.length).2
              unfold Code.text
              rw [List.length_append]
              omega
            have hT1 : T1.length ≤ 30000000 := by have := HLR.out; omega
            obtain ⟨T2, HT2⟩ : ∃ T2, Hid (t ++ rest = T2) := ⟨_, Lib.hid rfl⟩
            have HE1 := Lib.hid (show T1 = Code.text t ++ T2 by rw [← HR2.out, HPT.out, ← HT2.out, List.append_assoc])
            have HU2 := Lib.hid (show rText T1 false (t.length : Int) = (t, T2, false) by rw [HE1.out]; exact rText_put t T2 (by omega))
            have HL2 := Lib.hid (show T2.length ≤ T1.length by rw [HE1.out, List.length_append]; omega)
            have hT2 : T2.length ≤ 30000000 := by have := HL2.out; omega
            obtain ⟨T3, HT3⟩ : ∃ T3, Hid (rest = T3) := ⟨_, Lib.hid rfl⟩
            have HU3 := Lib.hid (show rRaw T2 false (t.length : Int) = (t, T3, false) by rw [← HT2.out, HT3.out]; exact rRaw_put t T3)
            have hbel2 : ∀ (dn : Nat → Bool) (xv : Nat → Value) (W : World), (if dn 24 = true then Sep w W [Rd g7 T3 false, By (xv 24) t] else if dn 11 = true then Sep w W [Rd g7 T2 false] else Sep w W [Rd g7 T1 false]) → Below w.heap.size w W := fun dn xv W h => by
              split at h
              · exact h.bel
              · split at h
                · exact h.bel
                · exact h.bel
            have hb24 : ∀ (dn : Nat → Bool) (xv : Nat → Value) (W : World), (if dn 24 = true then Sep w W [Rd g7 T3 false, By (xv 24) t] else if dn 11 = true then Sep w W [Rd g7 T2 false] else Sep w W [Rd g7 T1 false]) → dn 24 = true → IsB t (xv 24) W := fun dn xv W h h4 => by
              rw [if_pos h4] at h
              exact isB_of (sep_byForm (i := 1) h rfl)
            refine wp_region_f (fun dn xv W => if dn 24 = true then Sep w W [Rd g7 T3 false, By (xv 24) t] else if dn 11 = true then Sep w W [Rd g7 T2 false] else Sep w W [Rd g7 T1 false]) (fun _ _ => True) [fun v _ => v = .int .i64 (k : Int), fun v _ => v = .slice (some ⟨b2, o2, none⟩) ts.length d, fun v _ => v = .int .i64 (ts.length : Int), fun v _ => v = .bool true, fun v _ => v = .bool true, fun v _ => v = .pointer (some ⟨g7, 0, none⟩), fun v _ => v = .slice (some ⟨b2, o2, none⟩) ts.length d, fun v _ => v = .int .i64 (k : Int), fun v _ => v = .pointer (some ⟨b2, o2 + k, none⟩), fun v _ => v = .string ⟨t.toArray⟩, fun v _ => v = .int .i64 (t.length : Int), fun v _ => v = .string ⟨t.toArray⟩, fun v _ => v = .slice (some ⟨b2, o2, none⟩) ts.length d, fun v _ => v = .int .i64 (k : Int), fun v _ => v = .pointer (some ⟨b2, o2 + k, none⟩), fun v _ => v = .string ⟨t.toArray⟩, fun v _ => v = .bool false, fun v _ => v = .bool false, fun v _ => v = .pointer (some ⟨g7, 0, none⟩), fun v _ => v = .slice (some ⟨b2, o2, none⟩) ts.length d, fun v _ => v = .int .i64 (k : Int), fun v _ => v = .pointer (some ⟨b2, o2 + k, none⟩), fun v _ => v = .string ⟨t.toArray⟩, fun v _ => v = .int .i64 (t.length : Int), fun v _ => ∃ A1 c1, v = .slice A1 t.length c1, fun v _ => v = .string ⟨t.toArray⟩, fun v _ => v = .slice (some ⟨b2, o2, none⟩) ts.length d, fun v _ => v = .int .i64 (k : Int), fun v _ => v = .pointer (some ⟨b2, o2 + k, none⟩), fun v _ => v = .string ⟨t.toArray⟩, fun v _ => v = .bool false, fun v _ => v = .bool false, fun v _ => v = .bool false] (by kernel_rfl) (by kernel_rfl) (by kernel_rfl) (by kernel_rfl) (fun xv => by simpa using HS.out.drew)
              (by exact ⟨fun _ _ _ _ h => h, fun _ _ _ _ h => h, fun _ _ _ _ h => h, fun _ _ _ _ h => h, fun _ _ _ _ h => h, fun _ _ _ _ h => h, fun _ _ _ _ h => h, fun _ _ _ _ h => h, fun _ _ _ _ h => h, fun _ _ _ _ h => h, fun _ _ _ _ h => h, fun _ _ _ _ h => h, fun _ _ _ _ h => h, fun _ _ _ _ h => h, fun _ _ _ _ h => h, fun _ _ _ _ h => h, fun _ _ _ _ h => h, fun _ _ _ _ h => h, fun _ _ _ _ h => h, fun _ _ _ _ h => h, fun _ _ _ _ h => h, fun _ _ _ _ h => h, fun _ _ _ _ h => h, fun _ _ _ _ h => h, fun _ _ _ _ h => h, fun _ _ _ _ h => h, fun _ _ _ _ h => h, fun _ _ _ _ h => h, fun _ _ _ _ h => h, fun _ _ _ _ h => h, fun _ _ _ _ h => h, fun _ _ _ _ h => h, fun _ _ _ _ h => h, trivial⟩) ?_ ?_
            · refine EachF.cons 1 rfl (fun dn xv W F hF hd hN hX hI H K hK => ?_) ?_
              · have f8 : F.tmps.getD 8 undef = .int .i64 (k : Int) := (hF 8).trans (by kernel_rfl)
                clear H hN hd hX hF
                refine on_plain rfl ?_
                go_simp
                exact hK.out _ _ rfl trivial (by simpa [upB, upd] using hI)
              refine EachF.cons 2 rfl (fun dn xv W F hF hd hN hX hI H K hK => ?_) ?_
              · have f1 : F.tmps.getD 1 undef = .slice (some ⟨b2, o2, none⟩) ts.length d := (hF 1).trans (by kernel_rfl)
                clear H hN hd hX hF
                refine on_plain rfl ?_
                go_simp
                exact hK.out _ _ rfl trivial (by simpa [upB, upd] using hI)
              refine EachF.cons 3 rfl (fun dn xv W F hF hd hN hX hI H K hK => ?_) ?_
              · have h1 : xv 1 = .slice (some ⟨b2, o2, none⟩) ts.length d := (H 1 (.edge (by kernel_rfl))).2
                have f136 : F.tmps.getD 136 undef = .slice (some ⟨b2, o2, none⟩) ts.length d := (hF 136).trans (Eq.trans (by kernel_rfl) h1)
                clear H hN hd hX hF
                refine on_plain rfl ?_
                go_simp
                exact hK.out _ _ rfl trivial (by simpa [upB, upd] using hI)
              refine EachF.cons 4 rfl (fun dn xv W F hF hd hN hX hI H K hK => ?_) ?_
              · have h0 : xv 0 = .int .i64 (k : Int) := (H 0 (.edge (by kernel_rfl))).2
                have f135 : F.tmps.getD 135 undef = .int .i64 (k : Int) := (hF 135).trans (Eq.trans (by kernel_rfl) h0)
                have h2 : xv 2 = .int .i64 (ts.length : Int) := (H 2 (.edge (by kernel_rfl))).2
                have f137 : F.tmps.getD 137 undef = .int .i64 (ts.length : Int) := (hF 137).trans (Eq.trans (by kernel_rfl) h2)
                clear H hN hd hX hF
                refine on_plain rfl ?_
                have d0 : decide ((k : Int) < (ts.length : Int)) = true := decide_eq_true (by omega)
                have d1 : decide (k < ts.length) = true := decide_eq_true (by omega)
                go_simp
                exact hK.out _ _ rfl trivial (by simpa [upB, upd] using hI)
              refine EachF.cons 5 rfl (fun dn xv W F hF hd hN hX hI H K hK => ?_) ?_
              · have h3 : xv 3 = .bool true := (H 3 (.edge (by kernel_rfl))).2
                have f138 : F.tmps.getD 138 undef = .bool true := (hF 138).trans (Eq.trans (by kernel_rfl) h3)
                clear H hN hd hX hF
                refine on_plain rfl ?_
                go_simp
                exact hK.out _ _ rfl trivial (by simpa [upB, upd] using hI)
              refine EachF.cons 6 rfl (fun dn xv W F hF hd hN hX hI H K hK => ?_) ?_
              · have f7 : F.tmps.getD 7 undef = .pointer (some ⟨g7, 0, none⟩) := (hF 7).trans (by kernel_rfl)
                have h4 : xv 4 = .bool true := (H 4 (.edge (by kernel_rfl))).2
                have f139 : F.tmps.getD 139 undef = .bool true := (hF 139).trans (Eq.trans (by kernel_rfl) h4)
                clear H hN hd hX hF
                refine on_guard rfl (by kernel_rfl) f139 ?_
                go_simp
                exact hK.out _ _ rfl trivial (by simpa [upB, upd] using hI)
              refine EachF.cons 7 rfl (fun dn xv W F hF hd hN hX hI H K hK => ?_) ?_
              · have f1 : F.tmps.getD 1 undef = .slice (some ⟨b2, o2, none⟩) ts.length d := (hF 1).trans (by kernel_rfl)
                have h4 : xv 4 = .bool true := (H 4 (.edge (by kernel_rfl))).2
                have f139 : F.tmps.getD 139 undef = .bool true := (hF 139).trans (Eq.trans (by kernel_rfl) h4)
                clear H hN hd hX hF
                refine on_guard rfl (by kernel_rfl) f139 ?_
                go_simp
                exact hK.out _ _ rfl trivial (by simpa [upB, upd] using hI)
              refine EachF.cons 8 rfl (fun dn xv W F hF hd hN hX hI H K hK => ?_) ?_
              · have f8 : F.tmps.getD 8 undef = .int .i64 (k : Int) := (hF 8).trans (by kernel_rfl)
                have h4 : xv 4 = .bool true := (H 4 (.edge (by kernel_rfl))).2
                have f139 : F.tmps.getD 139 undef = .bool true := (hF 139).trans (Eq.trans (by kernel_rfl) h4)
                clear H hN hd hX hF
                refine on_guard rfl (by kernel_rfl) f139 ?_
                go_simp
                exact hK.out _ _ rfl trivial (by simpa [upB, upd] using hI)
              refine EachF.cons 9 rfl (fun dn xv W F hF hd hN hX hI H K hK => ?_) ?_
              · have h6 : xv 6 = .slice (some ⟨b2, o2, none⟩) ts.length d := (H 6 (.edge (by kernel_rfl))).2
                have f141 : F.tmps.getD 141 undef = .slice (some ⟨b2, o2, none⟩) ts.length d := (hF 141).trans (Eq.trans (by kernel_rfl) h6)
                have h7 : xv 7 = .int .i64 (k : Int) := (H 7 (.edge (by kernel_rfl))).2
                have f142 : F.tmps.getD 142 undef = .int .i64 (k : Int) := (hF 142).trans (Eq.trans (by kernel_rfl) h7)
                have h4 : xv 4 = .bool true := (H 4 (.edge (by kernel_rfl))).2
                have f139 : F.tmps.getD 139 undef = .bool true := (hF 139).trans (Eq.trans (by kernel_rfl) h4)
                clear H hN hd hX hF
                refine on_guard rfl (by kernel_rfl) f139 ?_
                go_simp
                exact hK.out _ _ rfl trivial (by simpa [upB, upd] using hI)
              refine EachF.cons 10 rfl (fun dn xv W F hF hd hN hX hI H K hK => ?_) ?_
              · have h8 : xv 8 = .pointer (some ⟨b2, o2 + k, none⟩) := (H 8 (.edge (by kernel_rfl))).2
                have f143 : F.tmps.getD 143 undef = .pointer (some ⟨b2, o2 + k, none⟩) := (hF 143).trans (Eq.trans (by kernel_rfl) h8)
                have h4 : xv 4 = .bool true := (H 4 (.edge (by kernel_rfl))).2
                have f139 : F.tmps.getD 139 undef = .bool true := (hF 139).trans (Eq.trans (by kernel_rfl) h4)
                clear H hN hd hX hF
                refine on_guard rfl (by kernel_rfl) f139 ?_
                have hc1 := HCT.out W (hbel2 dn xv W hI)
                go_simp
                exact hK.out _ _ rfl trivial (by simpa [upB, upd] using hI)
              refine EachF.cons 11 rfl (fun dn xv W F hF hd hN hX hI H K hK => ?_) ?_
              · have h9 : xv 9 = .string ⟨t.toArray⟩ := (H 9 (.edge (by kernel_rfl))).2
                have f144 : F.tmps.getD 144 undef = .string ⟨t.toArray⟩ := (hF 144).trans (Eq.trans (by kernel_rfl) h9)
                have h4 : xv 4 = .bool true := (H 4 (.edge (by kernel_rfl))).2
                have f139 : F.tmps.getD 139 undef = .bool true := (hF 139).trans (Eq.trans (by kernel_rfl) h4)
                clear H hN hd hX hF
                refine on_guard rfl (by kernel_rfl) f139 ?_
                have hsz := size_str t
                go_simp
                exact hK.out _ _ rfl trivial (by simpa [upB, upd] using hI)
              refine EachF.cons 12 rfl (fun dn xv W F hF hd hN hX hI H K hK => ?_) ?_
              · have h5 : xv 5 = .pointer (some ⟨g7, 0, none⟩) := (H 5 (.edge (by kernel_rfl))).2
                have f140 : F.tmps.getD 140 undef = .pointer (some ⟨g7, 0, none⟩) := (hF 140).trans (Eq.trans (by kernel_rfl) h5)
                have h10 : xv 10 = .int .i64 (t.length : Int) := (H 10 (.edge (by kernel_rfl))).2
                have f145 : F.tmps.getD 145 undef = .int .i64 (t.length : Int) := (hF 145).trans (Eq.trans (by kernel_rfl) h10)
                have h4 : xv 4 = .bool true := (H 4 (.edge (by kernel_rfl))).2
                have f139 : F.tmps.getD 139 undef = .bool true := (hF 139).trans (Eq.trans (by kernel_rfl) h4)
                have q24 : dn 24 = false := hN 24 (.more (j := 17) (by kernel_rfl) (.edge (by kernel_rfl)))
                have hS : Sep w W [Rd g7 T1 false] := by simpa [hd, q24] using hI
                clear hI hN hd hX hF H
                refine on_guard rfl (by kernel_rfl) f139 ?_
                go_simp
                refine (sep_reads (i := 0) (l' := T2) (bad' := false) (v := .string ⟨t.toArray⟩) hS rfl HL2.out (fun rb hr => by have h3 := textR_any W g7 rb T1 false (t.length : Int) hr (by omega) (by omega) (by omega); rw [HU2.out] at h3; exact h3)).mono ?_
                rintro e W' ⟨rfl, hs⟩
                exact hK.out _ W' rfl trivial (by simpa [upB, upd, q24] using hs)
              refine EachF.cons 13 rfl (fun dn xv W F hF hd hN hX hI H K hK => ?_) ?_
              · have f1 : F.tmps.getD 1 undef = .slice (some ⟨b2, o2, none⟩) ts.length d := (hF 1).trans (by kernel_rfl)
                have h4 : xv 4 = .bool true := (H 4 (.edge (by kernel_rfl))).2
                have f139 : F.tmps.getD 139 undef = .bool true := (hF 139).trans (Eq.trans (by kernel_rfl) h4)
                clear H hN hd hX hF
                refine on_guard rfl (by kernel_rfl) f139 ?_
                go_simp
                exact hK.out _ _ rfl trivial (by simpa [upB, upd] using hI)
              refine EachF.cons 14 rfl (fun dn xv W F hF hd hN hX hI H K hK => ?_) ?_
              · have f8 : F.tmps.getD 8 undef = .int .i64 (k : Int) := (hF 8).trans (by kernel_rfl)
                have h4 : xv 4 = .bool true := (H 4 (.edge (by kernel_rfl))).2
                have f139 : F.tmps.getD 139 undef = .bool true := (hF 139).trans (Eq.trans (by kernel_rfl) h4)
                clear H hN hd hX hF
                refine on_guard rfl (by kernel_rfl) f139 ?_
                go_simp
                exact hK.out _ _ rfl trivial (by simpa [upB, upd] using hI)
              refine EachF.cons 15 rfl (fun dn xv W F hF hd hN hX hI H K hK => ?_) ?_
              · have h12 : xv 12 = .slice (some ⟨b2, o2, none⟩) ts.length d := (H 12 (.edge (by kernel_rfl))).2
                have f147 : F.tmps.getD 147 undef = .slice (some ⟨b2, o2, none⟩) ts.length d := (hF 147).trans (Eq.trans (by kernel_rfl) h12)
                have h13 : xv 13 = .int .i64 (k : Int) := (H 13 (.edge (by kernel_rfl))).2
                have f148 : F.tmps.getD 148 undef = .int .i64 (k : Int) := (hF 148).trans (Eq.trans (by kernel_rfl) h13)
                have h4 : xv 4 = .bool true := (H 4 (.edge (by kernel_rfl))).2
                have f139 : F.tmps.getD 139 undef = .bool true := (hF 139).trans (Eq.trans (by kernel_rfl) h4)
                clear H hN hd hX hF
                refine on_guard rfl (by kernel_rfl) f139 ?_
                go_simp
                exact hK.out _ _ rfl trivial (by simpa [upB, upd] using hI)
              refine EachF.cons 16 rfl (fun dn xv W F hF hd hN hX hI H K hK => ?_) ?_
              · have h14 : xv 14 = .pointer (some ⟨b2, o2 + k, none⟩) := (H 14 (.edge (by kernel_rfl))).2
                have f149 : F.tmps.getD 149 undef = .pointer (some ⟨b2, o2 + k, none⟩) := (hF 149).trans (Eq.trans (by kernel_rfl) h14)
                have h4 : xv 4 = .bool true := (H 4 (.edge (by kernel_rfl))).2
                have f139 : F.tmps.getD 139 undef = .bool true := (hF 139).trans (Eq.trans (by kernel_rfl) h4)
                clear H hN hd hX hF
                refine on_guard rfl (by kernel_rfl) f139 ?_
                have hc1 := HCT.out W (hbel2 dn xv W hI)
                go_simp
                exact hK.out _ _ rfl trivial (by simpa [upB, upd] using hI)
              refine EachF.cons 17 rfl (fun dn xv W F hF hd hN hX hI H K hK => ?_) ?_
              · have h11 : xv 11 = .string ⟨t.toArray⟩ := (H 11 (.edge (by kernel_rfl))).2
                have f146 : F.tmps.getD 146 undef = .string ⟨t.toArray⟩ := (hF 146).trans (Eq.trans (by kernel_rfl) h11)
                have h15 : xv 15 = .string ⟨t.toArray⟩ := (H 15 (.edge (by kernel_rfl))).2
                have f150 : F.tmps.getD 150 undef = .string ⟨t.toArray⟩ := (hF 150).trans (Eq.trans (by kernel_rfl) h15)
                have h4 : xv 4 = .bool true := (H 4 (.edge (by kernel_rfl))).2
                have f139 : F.tmps.getD 139 undef = .bool true := (hF 139).trans (Eq.trans (by kernel_rfl) h4)
                clear H hN hd hX hF
                refine on_guard rfl (by kernel_rfl) f139 ?_
                go_simp
                exact hK.out _ _ rfl trivial (by simpa [upB, upd] using hI)
              refine EachF.cons 18 rfl (fun dn xv W F hF hd hN hX hI H K hK => ?_) ?_
              · have h16 : xv 16 = .bool false := (H 16 (.edge (by kernel_rfl))).2
                have f151 : F.tmps.getD 151 undef = .bool false := (hF 151).trans (Eq.trans (by kernel_rfl) h16)
                have h4 : xv 4 = .bool true := (H 4 (.edge (by kernel_rfl))).2
                have f139 : F.tmps.getD 139 undef = .bool true := (hF 139).trans (Eq.trans (by kernel_rfl) h4)
                clear H hN hd hX hF
                refine on_guard rfl (by kernel_rfl) f139 ?_
                go_simp
                exact hK.out _ _ rfl trivial (by simpa [upB, upd] using hI)
              refine EachF.cons 19 rfl (fun dn xv W F hF hd hN hX hI H K hK => ?_) ?_
              · have f7 : F.tmps.getD 7 undef = .pointer (some ⟨g7, 0, none⟩) := (hF 7).trans (by kernel_rfl)
                have h17 : xv 17 = .bool false := (H 17 (.edge (by kernel_rfl))).2
                have f152 : F.tmps.getD 152 undef = .bool false := (hF 152).trans (Eq.trans (by kernel_rfl) h17)
                clear H hN hd hX hF
                refine on_guard rfl (by kernel_rfl) f152 ?_
                go_simp
                exact hK.out _ _ rfl trivial (by simpa [upB, upd] using hI)
              refine EachF.cons 20 rfl (fun dn xv W F hF hd hN hX hI H K hK => ?_) ?_
              · have f1 : F.tmps.getD 1 undef = .slice (some ⟨b2, o2, none⟩) ts.length d := (hF 1).trans (by kernel_rfl)
                have h17 : xv 17 = .bool false := (H 17 (.edge (by kernel_rfl))).2
                have f152 : F.tmps.getD 152 undef = .bool false := (hF 152).trans (Eq.trans (by kernel_rfl) h17)
                clear H hN hd hX hF
                refine on_guard rfl (by kernel_rfl) f152 ?_
                go_simp
                exact hK.out _ _ rfl trivial (by simpa [upB, upd] using hI)
              refine EachF.cons 21 rfl (fun dn xv W F hF hd hN hX hI H K hK => ?_) ?_
              · have f8 : F.tmps.getD 8 undef = .int .i64 (k : Int) := (hF 8).trans (by kernel_rfl)
                have h17 : xv 17 = .bool false := (H 17 (.edge (by kernel_rfl))).2
                have f152 : F.tmps.getD 152 undef = .bool false := (hF 152).trans (Eq.trans (by kernel_rfl) h17)
                clear H hN hd hX hF
                refine on_guard rfl (by kernel_rfl) f152 ?_
                go_simp
                exact hK.out _ _ rfl trivial (by simpa [upB, upd] using hI)
              refine EachF.cons 22 rfl (fun dn xv W F hF hd hN hX hI H K hK => ?_) ?_
              · have h19 : xv 19 = .slice (some ⟨b2, o2, none⟩) ts.length d := (H 19 (.edge (by kernel_rfl))).2
                have f154 : F.tmps.getD 154 undef = .slice (some ⟨b2, o2, none⟩) ts.length d := (hF 154).trans (Eq.trans (by kernel_rfl) h19)
                have h20 : xv 20 = .int .i64 (k : Int) := (H 20 (.edge (by kernel_rfl))).2
                have f155 : F.tmps.getD 155 undef = .int .i64 (k : Int) := (hF 155).trans (Eq.trans (by kernel_rfl) h20)
                have h17 : xv 17 = .bool false := (H 17 (.edge (by kernel_rfl))).2
                have f152 : F.tmps.getD 152 undef = .bool false := (hF 152).trans (Eq.trans (by kernel_rfl) h17)
                clear H hN hd hX hF
                refine on_guard rfl (by kernel_rfl) f152 ?_
                go_simp
                exact hK.out _ _ rfl trivial (by simpa [upB, upd] using hI)
              refine EachF.cons 23 rfl (fun dn xv W F hF hd hN hX hI H K hK => ?_) ?_
              · have h21 : xv 21 = .pointer (some ⟨b2, o2 + k, none⟩) := (H 21 (.edge (by kernel_rfl))).2
                have f156 : F.tmps.getD 156 undef = .pointer (some ⟨b2, o2 + k, none⟩) := (hF 156).trans (Eq.trans (by kernel_rfl) h21)
                have h17 : xv 17 = .bool false := (H 17 (.edge (by kernel_rfl))).2
                have f152 : F.tmps.getD 152 undef = .bool false := (hF 152).trans (Eq.trans (by kernel_rfl) h17)
                clear H hN hd hX hF
                refine on_guard rfl (by kernel_rfl) f152 ?_
                have hc1 := HCT.out W (hbel2 dn xv W hI)
                go_simp
                exact hK.out _ _ rfl trivial (by simpa [upB, upd] using hI)
              refine EachF.cons 24 rfl (fun dn xv W F hF hd hN hX hI H K hK => ?_) ?_
              · have h22 : xv 22 = .string ⟨t.toArray⟩ := (H 22 (.edge (by kernel_rfl))).2
                have f157 : F.tmps.getD 157 undef = .string ⟨t.toArray⟩ := (hF 157).trans (Eq.trans (by kernel_rfl) h22)
                have h17 : xv 17 = .bool false := (H 17 (.edge (by kernel_rfl))).2
                have f152 : F.tmps.getD 152 undef = .bool false := (hF 152).trans (Eq.trans (by kernel_rfl) h17)
                clear H hN hd hX hF
                refine on_guard rfl (by kernel_rfl) f152 ?_
                have hsz := size_str t
                go_simp
                exact hK.out _ _ rfl trivial (by simpa [upB, upd] using hI)
              refine EachF.cons 25 rfl (fun dn xv W F hF hd hN hX hI H K hK => ?_) ?_
              · have h18 : xv 18 = .pointer (some ⟨g7, 0, none⟩) := (H 18 (.edge (by kernel_rfl))).2
                have f153 : F.tmps.getD 153 undef = .pointer (some ⟨g7, 0, none⟩) := (hF 153).trans (Eq.trans (by kernel_rfl) h18)
                have h23 : xv 23 = .int .i64 (t.length : Int) := (H 23 (.edge (by kernel_rfl))).2
                have f158 : F.tmps.getD 158 undef = .int .i64 (t.length : Int) := (hF 158).trans (Eq.trans (by kernel_rfl) h23)
                have h17 : xv 17 = .bool false := (H 17 (.edge (by kernel_rfl))).2
                have f152 : F.tmps.getD 152 undef = .bool false := (hF 152).trans (Eq.trans (by kernel_rfl) h17)
                have q11 : dn 11 = true := (H 11 (.more (j := 17) (by kernel_rfl) (.edge (by kernel_rfl)))).1
                have hS : Sep w W [Rd g7 T2 false] := by simpa [hd, q11] using hI
                clear hI hN hd hX hF H
                refine on_guard rfl (by kernel_rfl) f152 ?_
                go_simp
                refine (sep_rawR (i := 0) (z := (t.length : Int)) hS rfl (by omega)).mono ?_
                rintro e W' ⟨v, rfl, hs⟩
                rw [HU3.out] at hs
                obtain ⟨A1, c1, e1, _⟩ := sep_byForm (i := 1) hs rfl
                exact hK.out v W' ⟨A1, c1, e1⟩ trivial (by simpa [upB, upd] using hs)
              refine EachF.cons 26 rfl (fun dn xv W F hF hd hN hX hI H K hK => ?_) ?_
              · have h24 := (H 24 (.edge (by kernel_rfl))).2
                simp only [Dl] at h24
                have f159 : F.tmps.getD 159 undef = xv 24 := (hF 159).trans (by kernel_rfl)
                have h17 : xv 17 = .bool false := (H 17 (.edge (by kernel_rfl))).2
                have f152 : F.tmps.getD 152 undef = .bool false := (hF 152).trans (Eq.trans (by kernel_rfl) h17)
                have hs := hb24 dn xv W hI (H 24 (.edge (by kernel_rfl))).1
                clear h24
                clear H hN hd hX hF
                refine on_guard rfl (by kernel_rfl) f152 ?_
                obtain ⟨A1, c1, e1, hh⟩ := hs
                have hcv := run_str (c := c1) hh
                clear hh
                rw [e1] at f159
                go_simp
                exact hK.out _ _ rfl trivial (by simpa [upB, upd] using hI)
              refine EachF.cons 27 rfl (fun dn xv W F hF hd hN hX hI H K hK => ?_) ?_
              · have f1 : F.tmps.getD 1 undef = .slice (some ⟨b2, o2, none⟩) ts.length d := (hF 1).trans (by kernel_rfl)
                have h17 : xv 17 = .bool false := (H 17 (.edge (by kernel_rfl))).2
                have f152 : F.tmps.getD 152 undef = .bool false := (hF 152).trans (Eq.trans (by kernel_rfl) h17)
                clear H hN hd hX hF
                refine on_guard rfl (by kernel_rfl) f152 ?_
                go_simp
                exact hK.out _ _ rfl trivial (by simpa [upB, upd] using hI)
              refine EachF.cons 28 rfl (fun dn xv W F hF hd hN hX hI H K hK => ?_) ?_
              · have f8 : F.tmps.getD 8 undef = .int .i64 (k : Int) := (hF 8).trans (by kernel_rfl)
                have h17 : xv 17 = .bool false := (H 17 (.edge (by kernel_rfl))).2
                have f152 : F.tmps.getD 152 undef = .bool false := (hF 152).trans (Eq.trans (by kernel_rfl) h17)
                clear H hN hd hX hF
                refine on_guard rfl (by kernel_rfl) f152 ?_
                go_simp
                exact hK.out _ _ rfl trivial (by simpa [upB, upd] using hI)
              refine EachF.cons 29 rfl (fun dn xv W F hF hd hN hX hI H K hK => ?_) ?_
              · have h26 : xv 26 = .slice (some ⟨b2, o2, none⟩) ts.length d := (H 26 (.edge (by kernel_rfl))).2
                have f161 : F.tmps.getD 161 undef = .slice (some ⟨b2, o2, none⟩) ts.length d := (hF 161).trans (Eq.trans (by kernel_rfl) h26)
                have h27 : xv 27 = .int .i64 (k : Int) := (H 27 (.edge (by kernel_rfl))).2
                have f162 : F.tmps.getD 162 undef = .int .i64 (k : Int) := (hF 162).trans (Eq.trans (by kernel_rfl) h27)
                have h17 : xv 17 = .bool false := (H 17 (.edge (by kernel_rfl))).2
                have f152 : F.tmps.getD 152 undef = .bool false := (hF 152).trans (Eq.trans (by kernel_rfl) h17)
                clear H hN hd hX hF
                refine on_guard rfl (by kernel_rfl) f152 ?_
                go_simp
                exact hK.out _ _ rfl trivial (by simpa [upB, upd] using hI)
              refine EachF.cons 30 rfl (fun dn xv W F hF hd hN hX hI H K hK => ?_) ?_
              · have h28 : xv 28 = .pointer (some ⟨b2, o2 + k, none⟩) := (H 28 (.edge (by kernel_rfl))).2
                have f163 : F.tmps.getD 163 undef = .pointer (some ⟨b2, o2 + k, none⟩) := (hF 163).trans (Eq.trans (by kernel_rfl) h28)
                have h17 : xv 17 = .bool false := (H 17 (.edge (by kernel_rfl))).2
                have f152 : F.tmps.getD 152 undef = .bool false := (hF 152).trans (Eq.trans (by kernel_rfl) h17)
                clear H hN hd hX hF
                refine on_guard rfl (by kernel_rfl) f152 ?_
                have hc1 := HCT.out W (hbel2 dn xv W hI)
                go_simp
                exact hK.out _ _ rfl trivial (by simpa [upB, upd] using hI)
              refine EachF.cons 31 rfl (fun dn xv W F hF hd hN hX hI H K hK => ?_) ?_
              · have h25 : xv 25 = .string ⟨t.toArray⟩ := (H 25 (.edge (by kernel_rfl))).2
                have f160 : F.tmps.getD 160 undef = .string ⟨t.toArray⟩ := (hF 160).trans (Eq.trans (by kernel_rfl) h25)
                have h29 : xv 29 = .string ⟨t.toArray⟩ := (H 29 (.edge (by kernel_rfl))).2
                have f164 : F.tmps.getD 164 undef = .string ⟨t.toArray⟩ := (hF 164).trans (Eq.trans (by kernel_rfl) h29)
                have h17 : xv 17 = .bool false := (H 17 (.edge (by kernel_rfl))).2
                have f152 : F.tmps.getD 152 undef = .bool false := (hF 152).trans (Eq.trans (by kernel_rfl) h17)
                clear H hN hd hX hF
                refine on_guard rfl (by kernel_rfl) f152 ?_
                go_simp
                exact hK.out _ _ rfl trivial (by simpa [upB, upd] using hI)
              refine EachF.cons 32 rfl (fun dn xv W F hF hd hN hX hI H K hK => ?_) ?_
              · have h17 : xv 17 = .bool false := (H 17 (.edge (by kernel_rfl))).2
                have f152 : F.tmps.getD 152 undef = .bool false := (hF 152).trans (Eq.trans (by kernel_rfl) h17)
                have h30 : xv 30 = .bool false := (H 30 (.edge (by kernel_rfl))).2
                have f165 : F.tmps.getD 165 undef = .bool false := (hF 165).trans (Eq.trans (by kernel_rfl) h30)
                have h4 : xv 4 = .bool true := (H 4 (.edge (by kernel_rfl))).2
                have f139 : F.tmps.getD 139 undef = .bool true := (hF 139).trans (Eq.trans (by kernel_rfl) h4)
                clear H hN hd hX hF
                refine on_guard rfl (by kernel_rfl) f139 ?_
                go_simp
                exact hK.out _ _ rfl trivial (by simpa [upB, upd] using hI)
              refine EachF.cons 33 rfl (fun dn xv W F hF hd hN hX hI H K hK => ?_) ?_
              · have h4 : xv 4 = .bool true := (H 4 (.edge (by kernel_rfl))).2
                have f139 : F.tmps.getD 139 undef = .bool true := (hF 139).trans (Eq.trans (by kernel_rfl) h4)
                have h31 : xv 31 = .bool false := (H 31 (.edge (by kernel_rfl))).2
                have f166 : F.tmps.getD 166 undef = .bool false := (hF 166).trans (Eq.trans (by kernel_rfl) h31)
                clear H hN hd hX hF
                refine on_plain rfl ?_
                go_simp
                exact hK.out _ _ rfl trivial (by simpa [upB, upd] using hI)
              exact EachF.nil
            · intro dn xv W hI H
              have q32 : xv 32 = .bool false := (H 32 (of_decide_eq_true (by kernel_rfl))).2
              have qe : dn 24 = true := (H 24 (of_decide_eq_true (by kernel_rfl))).1
              have hS : Sep w W [Rd g7 T3 false, By (xv 24) t] := by simpa [qe] using hI
              clear H hI qe
              simp only [putAll, Act.put, List.setIfInBounds_toArray, List.set_cons_zero, List.set_cons_succ, Nat.reduceAdd, q32]
              clear q32
              have HS9 := Lib.hid (show Sep w W [Rd g7 T3 false] from hS.drop 1)
              clear hS hbel2 hb24
              go_wp2
              go_roundw
              case rel => exact ⟨k + 1, by omega, rfl, by go_num, by rw [show N - (k + 1) = m by omega, HRE.out, HT3.out]; exact HS9⟩
              case measure => simp [intOf]; omega
        · obtain rfl : k = N := by omega
          rw [Nat.sub_self, fromK_zero] at HS
          go_wp2_with fail
          refine (sep_left (i := 0) HS.out rfl).mono ?_
          rintro e w5 ⟨rfl, rfl⟩
          go_wp2_with fail
          refine (sep_reads (i := 0) (l' := []) (bad' := false) (v := .int .i64 0) HS.out rfl (by simp) (fun rb hr => end_any _ g7 rb [] false hr)).mono ?_
          rintro e w6 ⟨rfl, hs6⟩
          have HS6 := Lib.hid hs6
          clear hs6
          go_wp2_with fail
          refine (codeAwake _).mono ?_
          rintro e w7 ⟨rfl, hb7⟩
          go_wp2
          go_ret
          exact ⟨rfl, (HS6.out.grow hb7).bel⟩
end Go.Proofs.Ytkjficbegjhefaa
