/- The walk of the law CodeTexts. -/
import Derived.Test.YtkjficbegjhefaaCodeAwake
import Derived.Test.YtkjficbegjhefaaSepStr
import Derived.Test.YtkjficbegjhefaaOpenStr
import Derived.Test.YtkjficbegjhefaaRgApp
import Derived.Deep.CutBlock
import Derived.Deep.DeepCutAuto
namespace Go.Proofs.Ytkjficbegjhefaa
open Go Go.RowKit
set_option linter.unusedVariables false
set_option maxRecDepth 100000
set_option linter.unusedSimpArgs false

def textsOf (ts : List (List UInt8)) : List UInt8 := (ts.map fun t => Code.text t ++ t).flatten
def sumLen (ts : List (List UInt8)) : Nat := (ts.map fun t => 100 + t.length).sum
theorem textsOf_snoc (ts : List (List UInt8)) (t : List UInt8) : textsOf (ts ++ [t]) = textsOf ts ++ Code.text t ++ t := by simp [textsOf]
theorem sumLen_snoc (ts : List (List UInt8)) (t : List UInt8) : sumLen (ts ++ [t]) = sumLen ts + (100 + t.length) := by simp [sumLen]
theorem textsOf_length (ts : List (List UInt8)) : (textsOf ts).length ≤ 2 * sumLen ts := by
  induction ts with
  | nil => simp [textsOf]
  | cons t ts ih =>
    have e1 : textsOf (t :: ts) = (Code.text t ++ t) ++ textsOf ts := by simp [textsOf]
    have e2 : sumLen (t :: ts) = (100 + t.length) + sumLen ts := by simp [sumLen]
    have h := (Code.short_length t.length).2
    rw [e1, e2]
    unfold Code.text
    simp only [List.length_append]
    omega
theorem sumLen_take (ts : List (List UInt8)) (k : Nat) : sumLen (ts.take k) ≤ sumLen ts := by
  induction ts generalizing k with
  | nil => simp
  | cons t ts ih =>
    cases k with
    | zero => simp [sumLen]
    | succ k =>
      have := ih k
      have e2 : sumLen (t :: ts) = (100 + t.length) + sumLen ts := by simp [sumLen]
      have e3 : sumLen ((t :: ts).take (k + 1)) = (100 + t.length) + sumLen (ts.take k) := by simp [sumLen]
      omega
theorem sumLen_mem (ts : List (List UInt8)) : ∀ t ∈ ts, t.length ≤ sumLen ts := by
  induction ts with
  | nil => simp
  | cons t ts ih =>
    have e2 : sumLen (t :: ts) = (100 + t.length) + sumLen ts := by simp [sumLen]
    intro x hx
    rcases List.mem_cons.1 hx with rfl | hx
    · omega
    · have := ih x hx; omega
theorem sumLen_count (ts : List (List UInt8)) : 100 * ts.length ≤ sumLen ts := by
  induction ts with
  | nil => simp [sumLen]
  | cons t ts ih =>
    have e2 : sumLen (t :: ts) = (100 + t.length) + sumLen ts := by simp [sumLen]
    rw [List.length_cons]; omega

set_option maxHeartbeats 3200000 in
theorem codeTexts_walk (w : World) (A : Option Addr) (c : Nat) (ts : List (List UInt8)) (hA : Has w w.heap.size A (strsOf ts)) (hx : ∀ x ∈ ts, x.length ≤ 140737488355328) (hlen : ts.length ≤ 140737488355328) :
    Calls Try.prog 7 #[.slice A ts.length c] w fun e w' => e = .returned (.bool true) ∧ Below w.heap.size w w' := by
  have HA := Lib.hid hA
  have HX := Lib.hid hx
  clear hA hx
  have hcr : ∀ (k : Nat) (hk : k < ts.length), ∃ b o : Nat, A = some ⟨b, o, none⟩ ∧ ∀ W, Below w.heap.size w W → W.cell? ⟨b, o + k, none⟩ = some (.string ⟨(ts[k]).toArray⟩) := fun k hk => by
    obtain ⟨b, o, e, hbB, hc⟩ := HA.out.at_ (show k < (strsOf ts).length by rw [strsOf_length]; exact hk)
    exact ⟨b, o, e, fun W hW => by rw [hW.cell (p := ⟨b, o + k, none⟩) hbB, hc]; simp [strsOf]⟩
  have HCR0 := Lib.hid hcr
  clear hcr
  go_enter Try.func7, Try.ntmps7
  go_upto_block 0 with fail
  go_cut [3] (fun s3 wx => wx = w ∧ ∃ k : Nat, k ≤ ts.length ∧ s3 = .int .i64 (sumLen (ts.take k)) ∧ sumLen (ts.take k) ≤ 200000000000000 ∧ (k = ts.length ∨ 100000 < sumLen (ts.take k)))
  case first =>
    go_wp2
    go_loop [3, 4] (fun nv iv => ∃ k : Nat, k ≤ ts.length ∧ iv = .int .i64 k ∧ nv = .int .i64 (sumLen (ts.take k)) ∧ sumLen (ts.take k) ≤ 200000000000000) (fun _ iv => ts.length - (intOf iv).toNat)
    case atStart => exact ⟨0, Nat.zero_le _, rfl, rfl, by simp [sumLen]⟩
    case round =>
      obtain ⟨k, hk, rfl, rfl, hs⟩ := hrel
      by_cases hkt : k < ts.length
      · by_cases hle : sumLen (ts.take k) ≤ 100000
        · obtain ⟨b, o, rfl, hc⟩ := HCR0.out k hkt
          have hcell := hc w (Below.refl _ _)
          have hl := HX.out ts[k] (List.getElem_mem hkt)
          have HS := Lib.hid (show sumLen (ts.take (k + 1)) = sumLen (ts.take k) + (100 + ts[k].length) by rw [List.take_succ_eq_append_getElem hkt, sumLen_snoc])
          clear hc
          obtain ⟨t, Ht⟩ : ∃ t, Hid (ts[k] = t) := ⟨_, Lib.hid rfl⟩
          rw [Ht.out] at hcell hl HS
          have hsz := size_str t
          generalize sumLen (ts.take k) = n at *
          go_wp2
          go_round
          case rel => exact ⟨k + 1, by omega, by go_num, by rw [HS.out]; go_num, by rw [HS.out]; omega⟩
          case measure => simp [intOf]; omega
        · generalize hn : sumLen (ts.take k) = n at *
          have HN := Lib.hid hn
          clear hn
          go_wp2
          go_meet
          exact ⟨rfl, k, hk, by rw [HN.out], by rw [HN.out]; exact hs, .inr (by rw [HN.out]; omega)⟩
      · generalize hn : sumLen (ts.take k) = n at *
        have HN := Lib.hid hn
        clear hn
        go_wp2
        go_meet
        exact ⟨rfl, k, hk, by rw [HN.out], by rw [HN.out]; exact hs, .inl (by omega)⟩
  case rest =>
    obtain ⟨rfl, k, hk, rfl, hs, he⟩ := hcut
    by_cases hgt : 100000 < sumLen (ts.take k)
    · generalize sumLen (ts.take k) = n at *
      go_wp2_with fail
      refine (codeAwake _).mono ?_
      rintro e w' ⟨rfl, hb⟩
      go_wp2
      go_ret
      exact ⟨rfl, hb⟩
    · have HK := Lib.hid (show ts.take k = ts by rw [List.take_of_length_le]; omega)
      rw [HK.out] at hgt hs he ⊢
      have hcnt := sumLen_count ts
      have HM := Lib.hid (sumLen_mem ts)
      have hn : sumLen ts ≤ 100000 := by omega
      have HST := Lib.hid (sumLen_take ts)
      have HTL := Lib.hid (fun k => textsOf_length (ts.take k))
      clear he hgt hs HK
      generalize sumLen ts = n at *
      go_wp2_with fail
      refine (sep_newWriter (Sep.nil wc)).mono ?_
      rintro e w1 ⟨g, rfl, hs1⟩
      have HS0 := Lib.hid (show Sep wc w1 [Wr g []] from hs1)
      clear hs1
      obtain ⟨w, rfl⟩ : ∃ w, w = wc := ⟨_, rfl⟩
      go_wp2_with fail
      go_loopw [6, 7, 8] (fun v6 iv _ wr => ∃ k : Nat, k ≤ ts.length ∧ iv = .int .i64 k ∧ v6 = .string ⟨(textsOf (ts.take k)).toArray⟩ ∧ Hid (Sep w wr [Wr g (textsOf (ts.take k))])) (fun _ iv _ _ => ts.length - (intOf iv).toNat)
      case atStart => exact ⟨0, Nat.zero_le _, rfl, rfl, HS0⟩
      case round =>
        obtain ⟨k, hk, rfl, rfl, HS⟩ := hrel
        have hLl : (textsOf (ts.take k)).length ≤ 200000 := by
          have h1 := HTL.out k
          have h2 := HST.out k
          omega
        by_cases hkt : k < ts.length
        · obtain ⟨b, o, rfl, hc⟩ := HCR0.out k hkt
          have hl := HM.out ts[k] (List.getElem_mem hkt)
          have HZ := Lib.hid (show textsOf (ts.take (k + 1)) = textsOf (ts.take k) ++ Code.text ts[k] ++ ts[k] by rw [List.take_succ_eq_append_getElem hkt, textsOf_snoc])
          have HCR := Lib.hid hc
          clear hc
          obtain ⟨t, Ht⟩ : ∃ t, Hid (ts[k] = t) := ⟨_, Lib.hid rfl⟩
          rw [Ht.out] at HCR hl HZ
          have hT : (Code.text t).length ≤ t.length + 11 := by
            have := (Code.short_length t.length).2
            unfold Code.text
            rw [List.length_append]
            omega
          obtain ⟨T, HT⟩ : ∃ T, Hid (Code.text t = T) := ⟨_, Lib.hid rfl⟩
          rw [HT.out] at HZ hT
          generalize textsOf (ts.take k) = L at *
          obtain ⟨L1, HL1⟩ : ∃ L1, Hid (L ++ T = L1) := ⟨_, Lib.hid rfl⟩
          obtain ⟨L2, HL2⟩ : ∃ L2, Hid (L1 ++ t = L2) := ⟨_, Lib.hid rfl⟩
          have hL1 : L1.length ≤ 400000 := by rw [← HL1.out, List.length_append]; omega
          rw [HL1.out, HL2.out] at HZ
          have hc1 := HCR.out wr HS.out.bel
          go_wp2_with fail
          refine (sep_writes (i := 0) (l' := L ++ T) HS.out rfl (fun r hr => by rw [← HT.out]; exact textW_any wr 0 g r L t hr (Nat.zero_le _) (by omega))).mono ?_
          rintro e w3 ⟨rfl, hs3⟩
          have HS3 := Lib.hid (show Sep w w3 [Wr g L1] by rw [← HL1.out]; exact hs3)
          clear hs3 HS hc1
          obtain ⟨w4, c4, hcv, hs4⟩ := sep_conv HS3.out t
          have HS4 := Lib.hid (show Sep w w4 [Wr g L1, Cv (.slice (some ⟨w3.heap.size, 0, none⟩) t.length c4) t] from hs4)
          have hc1 := HCR.out w3 HS3.out.bel
          clear hs4
          go_wp2_with fail
          clear hcv hc1
          obtain ⟨A4, c5, e4, hh4⟩ := sep_cvHas (i := 1) HS4.out rfl
          injection e4 with e4 _ e5
          subst e4 e5
          have HH4 := Lib.hid hh4
          clear hh4
          refine (sep_writes (i := 0) (l' := L1 ++ t) HS4.out rfl (fun r hr => rawW_any w4 0 g r L1 _ c4 t w4.heap.size hr (Nat.zero_le _) HH4.out (by omega))).mono ?_
          rintro e w5 ⟨rfl, hs5⟩
          have HS5 := Lib.hid (show Sep w w5 [Wr g L2, Cv (.slice (some ⟨w3.heap.size, 0, none⟩) t.length c4) t] by rw [← HL2.out]; exact hs5)
          clear hs5
          obtain ⟨w6, hcl, hs6⟩ := sep_clearCv (i := 1) HS5.out rfl
          have HS := Lib.hid (show Sep w w6 [Wr g L2] from hs6.drop 1)
          clear hs6
          go_wp2_with fail
          clear hcl
          refine wp_region_stage (fun dn xv W => Sep w W [Wr g L2]) (fun W W' => Below W.heap.size W W') [fun v _ => v = .string ⟨L.toArray⟩, fun v _ => v = .slice (some ⟨b, o, none⟩) ts.length c, fun v _ => v = .int .i64 (k : Int), fun v _ => v = .pointer (some ⟨b, o + k, none⟩), fun v _ => v = .string ⟨t.toArray⟩, IsB T, fun v _ => v = .string ⟨T.toArray⟩, fun v _ => v = .string ⟨L1.toArray⟩, fun v _ => v = .slice (some ⟨b, o, none⟩) ts.length c, fun v _ => v = .int .i64 (k : Int), fun v _ => v = .pointer (some ⟨b, o + k, none⟩), fun v _ => v = .string ⟨t.toArray⟩, fun v _ => v = .string ⟨L2.toArray⟩, fun v _ => v = .string ⟨L2.toArray⟩] (by kernel_rfl) (by kernel_rfl) (by kernel_rfl) (fun xv => by simpa using HS.out.drew)
            ⟨fun _ _ _ _ h => h, fun _ _ _ _ h => h, fun _ _ _ _ h => h, fun _ _ _ _ h => h, fun _ _ _ _ h => h, fun _ _ _ hR h => h.keep hR, fun _ _ _ _ h => h, fun _ _ _ _ h => h, fun _ _ _ _ h => h, fun _ _ _ _ h => h, fun _ _ _ _ h => h, fun _ _ _ _ h => h, fun _ _ _ _ h => h, fun _ _ _ _ h => h, trivial⟩ ?_ ?_
          · refine EachOpS.cons 1 rfl (fun dn xv W hd hN hX hI H K hK => ?_) ?_
            · have h13 : xv 13 = .string ⟨L.toArray⟩ := hX 13 (hN 13 (.more (j := 12) (by kernel_rfl) (.more (j := 7) (by kernel_rfl) (.edge (by kernel_rfl)))))
              clear hX
              clear H hN hd
              simp only [putAll, Act.put, List.setIfInBounds_toArray, List.set_cons_zero, List.set_cons_succ, h13]
              go_simp
              exact hK.out _ _ _ (by simp only [putAll, Act.put, List.setIfInBounds_toArray, List.set_cons_zero, List.set_cons_succ, h13]) rfl (Below.refl _ _) (by simpa [upB, upd] using hI)
            refine EachOpS.cons 2 rfl (fun dn xv W hd hN hX hI H K hK => ?_) ?_
            · clear hX
              clear H hN hd
              simp only [putAll, Act.put, List.setIfInBounds_toArray, List.set_cons_zero, List.set_cons_succ]
              go_simp
              exact hK.out _ _ _ (by simp only [putAll, Act.put, List.setIfInBounds_toArray, List.set_cons_zero, List.set_cons_succ]) rfl (Below.refl _ _) (by simpa [upB, upd] using hI)
            refine EachOpS.cons 3 rfl (fun dn xv W hd hN hX hI H K hK => ?_) ?_
            · clear hX
              clear H hN hd
              simp only [putAll, Act.put, List.setIfInBounds_toArray, List.set_cons_zero, List.set_cons_succ]
              go_simp
              exact hK.out _ _ _ (by simp only [putAll, Act.put, List.setIfInBounds_toArray, List.set_cons_zero, List.set_cons_succ]) rfl (Below.refl _ _) (by simpa [upB, upd] using hI)
            refine EachOpS.cons 4 rfl (fun dn xv W hd hN hX hI H K hK => ?_) ?_
            · have h1 : xv 1 = .slice (some ⟨b, o, none⟩) ts.length c := (H 1 (.edge (by kernel_rfl))).2
              have h2 : xv 2 = .int .i64 (k : Int) := (H 2 (.edge (by kernel_rfl))).2
              clear hX
              clear H hN hd
              simp only [putAll, Act.put, List.setIfInBounds_toArray, List.set_cons_zero, List.set_cons_succ, h1, h2]
              go_simp
              exact hK.out _ _ _ (by simp only [putAll, Act.put, List.setIfInBounds_toArray, List.set_cons_zero, List.set_cons_succ, h1, h2]) rfl (Below.refl _ _) (by simpa [upB, upd] using hI)
            refine EachOpS.cons 5 rfl (fun dn xv W hd hN hX hI H K hK => ?_) ?_
            · have h3 : xv 3 = .pointer (some ⟨b, o + k, none⟩) := (H 3 (.edge (by kernel_rfl))).2
              clear hX
              clear H hN hd
              simp only [putAll, Act.put, List.setIfInBounds_toArray, List.set_cons_zero, List.set_cons_succ, h3]
              have hc1 := HCR.out W hI.bel
              go_simp
              exact hK.out _ _ _ (by simp only [putAll, Act.put, List.setIfInBounds_toArray, List.set_cons_zero, List.set_cons_succ, h3]) rfl (Below.refl _ _) (by simpa [upB, upd] using hI)
            refine EachOpS.cons 6 rfl (fun dn xv W hd hN hX hI H K hK => ?_) ?_
            · have h4 : xv 4 = .string ⟨t.toArray⟩ := (H 4 (.edge (by kernel_rfl))).2
              clear hX
              clear H hN hd
              simp only [putAll, Act.put, List.setIfInBounds_toArray, List.set_cons_zero, List.set_cons_succ, h4]
              go_simp
              refine (refText_any W t (by omega)).mono ?_
              rintro e W' ⟨v, rfl, ho, hb⟩
              rw [HT.out] at ho
              exact hK.out _ v W' (by simp only [putAll, Act.put, List.setIfInBounds_toArray, List.set_cons_zero, List.set_cons_succ, h4]) (IsB.of_own ho) hb (hI.grow hb)
            refine EachOpS.cons 7 rfl (fun dn xv W hd hN hX hI H K hK => ?_) ?_
            · have h5 := (H 5 (.edge (by kernel_rfl))).2
              simp only [Dl] at h5
              clear hX
              clear H hN hd
              simp only [putAll, Act.put, List.setIfInBounds_toArray, List.set_cons_zero, List.set_cons_succ]
              go_simp
              obtain ⟨A1, c1, e0, e1⟩ := h5
              have e2 := run_str (c := c1) e1
              clear e1
              rw [e0]
              go_simp
              exact hK.out _ _ _ (by simp only [putAll, Act.put, List.setIfInBounds_toArray, List.set_cons_zero, List.set_cons_succ]; rw [e0]) rfl (Below.refl _ _) (by simpa [upB, upd] using hI)
            refine EachOpS.cons 8 rfl (fun dn xv W hd hN hX hI H K hK => ?_) ?_
            · have h0 : xv 0 = .string ⟨L.toArray⟩ := (H 0 (.edge (by kernel_rfl))).2
              have h6 : xv 6 = .string ⟨T.toArray⟩ := (H 6 (.edge (by kernel_rfl))).2
              clear hX
              clear H hN hd
              simp only [putAll, Act.put, List.setIfInBounds_toArray, List.set_cons_zero, List.set_cons_succ, h0, h6]
              have e1 := run_string_add_lists (P := Try.prog) W L T (by omega) (by omega)
              rw [HL1.out] at e1
              go_simp
              exact hK.out _ _ _ (by simp only [putAll, Act.put, List.setIfInBounds_toArray, List.set_cons_zero, List.set_cons_succ, h0, h6]) rfl (Below.refl _ _) (by simpa [upB, upd] using hI)
            refine EachOpS.cons 9 rfl (fun dn xv W hd hN hX hI H K hK => ?_) ?_
            · clear hX
              clear H hN hd
              simp only [putAll, Act.put, List.setIfInBounds_toArray, List.set_cons_zero, List.set_cons_succ]
              go_simp
              exact hK.out _ _ _ (by simp only [putAll, Act.put, List.setIfInBounds_toArray, List.set_cons_zero, List.set_cons_succ]) rfl (Below.refl _ _) (by simpa [upB, upd] using hI)
            refine EachOpS.cons 10 rfl (fun dn xv W hd hN hX hI H K hK => ?_) ?_
            · clear hX
              clear H hN hd
              simp only [putAll, Act.put, List.setIfInBounds_toArray, List.set_cons_zero, List.set_cons_succ]
              go_simp
              exact hK.out _ _ _ (by simp only [putAll, Act.put, List.setIfInBounds_toArray, List.set_cons_zero, List.set_cons_succ]) rfl (Below.refl _ _) (by simpa [upB, upd] using hI)
            refine EachOpS.cons 11 rfl (fun dn xv W hd hN hX hI H K hK => ?_) ?_
            · have h8 : xv 8 = .slice (some ⟨b, o, none⟩) ts.length c := (H 8 (.edge (by kernel_rfl))).2
              have h9 : xv 9 = .int .i64 (k : Int) := (H 9 (.edge (by kernel_rfl))).2
              clear hX
              clear H hN hd
              simp only [putAll, Act.put, List.setIfInBounds_toArray, List.set_cons_zero, List.set_cons_succ, h8, h9]
              go_simp
              exact hK.out _ _ _ (by simp only [putAll, Act.put, List.setIfInBounds_toArray, List.set_cons_zero, List.set_cons_succ, h8, h9]) rfl (Below.refl _ _) (by simpa [upB, upd] using hI)
            refine EachOpS.cons 12 rfl (fun dn xv W hd hN hX hI H K hK => ?_) ?_
            · have h10 : xv 10 = .pointer (some ⟨b, o + k, none⟩) := (H 10 (.edge (by kernel_rfl))).2
              clear hX
              clear H hN hd
              simp only [putAll, Act.put, List.setIfInBounds_toArray, List.set_cons_zero, List.set_cons_succ, h10]
              have hc1 := HCR.out W hI.bel
              go_simp
              exact hK.out _ _ _ (by simp only [putAll, Act.put, List.setIfInBounds_toArray, List.set_cons_zero, List.set_cons_succ, h10]) rfl (Below.refl _ _) (by simpa [upB, upd] using hI)
            refine EachOpS.cons 13 rfl (fun dn xv W hd hN hX hI H K hK => ?_) ?_
            · have h7 : xv 7 = .string ⟨L1.toArray⟩ := (H 7 (.edge (by kernel_rfl))).2
              have h11 : xv 11 = .string ⟨t.toArray⟩ := (H 11 (.edge (by kernel_rfl))).2
              clear hX
              clear H hN hd
              simp only [putAll, Act.put, List.setIfInBounds_toArray, List.set_cons_zero, List.set_cons_succ, h7, h11]
              have e1 := run_string_add_lists (P := Try.prog) W L1 t (by omega) (by omega)
              rw [HL2.out] at e1
              go_simp
              exact hK.out _ _ _ (by simp only [putAll, Act.put, List.setIfInBounds_toArray, List.set_cons_zero, List.set_cons_succ, h7, h11]) rfl (Below.refl _ _) (by simpa [upB, upd] using hI)
            refine EachOpS.cons 14 rfl (fun dn xv W hd hN hX hI H K hK => ?_) ?_
            · have h12 : xv 12 = .string ⟨L2.toArray⟩ := (H 12 (.edge (by kernel_rfl))).2
              clear hX
              clear H hN hd
              simp only [putAll, Act.put, List.setIfInBounds_toArray, List.set_cons_zero, List.set_cons_succ, h12]
              go_simp
              exact hK.out _ _ _ (by simp only [putAll, Act.put, List.setIfInBounds_toArray, List.set_cons_zero, List.set_cons_succ, h12]) rfl (Below.refl _ _) (by simpa [upB, upd] using hI)
            exact EachOpS.nil
          · intro dn xv W hI H
            have q13 : xv 13 = .string ⟨L2.toArray⟩ := (H 13 (of_decide_eq_true (by kernel_rfl))).2
            have hS : Sep w W [Wr g L2] := hI
            clear H hI
            simp only [putAll, Act.put, List.setIfInBounds_toArray, List.set_cons_zero, List.set_cons_succ, Nat.reduceAdd, q13]
            clear q13
            have HS' := Lib.hid hS
            clear hS
            go_wp2
            go_roundw
            case rel => exact ⟨k + 1, by omega, by go_num, by rw [HZ.out], by rw [HZ.out]; exact HS'⟩
            case measure => simp [intOf]; omega
        · have HE := Lib.hid (show ts.take k = ts by rw [List.take_of_length_le]; omega)
          rw [HE.out] at HS hLl ⊢
          generalize textsOf ts = L at *
          go_wp2_with fail
          refine (sep_bytes (i := 0) HS.out rfl (by omega)).mono ?_
          rintro e w3 ⟨v3, rfl, hs3⟩
          obtain ⟨A3, c3, rfl, _, _, hh3⟩ := sep_byForm (i := 1) hs3 rfl
          have e3 := run_str (c := c3) hh3
          have HS3 := Lib.hid hs3
          have hsz := size_str L
          clear hs3 hh3
          go_wp2_with fail
          refine (sep_len (i := 0) HS3.out rfl).mono ?_
          rintro e w4 ⟨rfl, rfl⟩
          clear e3
          go_wp2_with fail
          refine (codeAwake _).mono ?_
          rintro e w5 ⟨rfl, hb5⟩
          go_wp2
          go_ret
          exact ⟨rfl, (HS3.out.grow hb5).bel⟩
end Go.Proofs.Ytkjficbegjhefaa
