/- The walk of the law CodeWides. -/
import Derived.Test.YtkjficbegjhefaaCodeAwake
import Derived.Test.YtkjficbegjhefaaCodeWide2
import Derived.Test.YtkjficbegjhefaaRgApp
import Derived.StillTailTactics
namespace Go.Proofs.Ytkjficbegjhefaa
open Go Go.RowKit
set_option linter.unusedVariables false
set_option maxRecDepth 100000
set_option linter.unusedSimpArgs false

/-- wide numbers, each of so many bytes -/
def widesOf (l : List (Nat × Nat)) : List UInt8 := (l.map fun p => Code.wide (2 ^ p.2) p.1).flatten
theorem widesOf_snoc (l : List (Nat × Nat)) (p : Nat × Nat) : widesOf (l ++ [p]) = widesOf l ++ Code.wide (2 ^ p.2) p.1 := by simp [widesOf]
theorem widesOf_length (l : List (Nat × Nat)) (h : ∀ p ∈ l, p.2 < 4) : (widesOf l).length ≤ 8 * l.length := by
  induction l with
  | nil => simp [widesOf]
  | cons p l ih =>
    have h1 := ih fun q hq => h q (List.mem_cons_of_mem _ hq)
    have h2 := h p (by simp)
    have h3 : 2 ^ p.2 ≤ 8 := by
      have : 2 ^ p.2 ≤ 2 ^ 3 := Nat.pow_le_pow_right (by omega) (by omega)
      omega
    have e : widesOf (p :: l) = Code.wide (2 ^ p.2) p.1 ++ widesOf l := by simp [widesOf]
    rw [e, List.length_append, Code.wide_length, List.length_cons]
    omega

theorem shl_pow (s : Nat) (hs : s < 4) : IntKind.i64.wrap ((2 : Int) ^ s) = (2 : Int) ^ s := by
  rcases (by omega : s = 0 ∨ s = 1 ∨ s = 2 ∨ s = 3) with rfl | rfl | rfl | rfl <;> decide
set_option maxHeartbeats 3200000 in
theorem codeWides_walk (w : World) (A B : Option Addr) (c d : Nat) (xs : List Nat) (zs : List Int) (hA : Has w w.heap.size A (u64s xs)) (hB : Has w w.heap.size B (zs.map (Value.int .i64))) (hx : ∀ x ∈ xs, x < 18446744073709551616) :
    Calls Try.prog 6 #[.slice A xs.length c, .slice B zs.length d] w fun e w' => e = .returned (.bool true) ∧ Below w.heap.size w w' := by
  have HA := Lib.hid hA
  have HB := Lib.hid hB
  have HX := Lib.hid hx
  clear hA hB hx
  by_cases hlong : 1000 < xs.length
  · go_enter Try.func6, Try.ntmps6
    go_wp2_with fail
    refine (codeAwake w).mono ?_
    rintro e w' ⟨rfl, hb⟩
    go_wp2
    go_ret
    exact ⟨rfl, hb⟩
  by_cases hne : zs.length = xs.length
  case neg =>
    have hne2 : ((zs.length : Int) == (xs.length : Int)) = false := beq_eq_false_iff_ne.2 (by omega)
    have hne3 : ((zs.length : Int) != (xs.length : Int)) = true := bne_iff_ne.2 (by omega)
    go_enter Try.func6, Try.ntmps6
    go_wp2_with fail
    refine (codeAwake w).mono ?_
    rintro e w' ⟨rfl, hb⟩
    go_wp2
    go_ret
    exact ⟨rfl, hb⟩
  · obtain ⟨ss, HSS⟩ : ∃ ss : List Nat, Hid (ss = zs.map fun z => (z % 4).toNat) := ⟨_, Lib.hid rfl⟩
    have hsl : ss.length = xs.length := by rw [HSS.out]; simpa using hne
    have HS4 := Lib.hid (show ∀ p ∈ xs.zip ss, p.2 < 4 from fun p hp => by
      have h1 := List.of_mem_zip hp
      rw [HSS.out] at h1
      obtain ⟨z, _, hz⟩ := List.mem_map.1 h1.2
      omega)
    have HZL := Lib.hid (show (xs.zip ss).length = xs.length by rw [List.length_zip]; omega)
    go_enter Try.func6, Try.ntmps6
    go_wp2_with fail
    refine (sep_newWriter (Sep.nil w)).mono ?_
    rintro e w1 ⟨g, rfl, hs1⟩
    have HS0 := Lib.hid (hs1.add (P := By (.slice none 0 0) []) (F := fun _ => False) (Below.refl _ _) ⟨Own.nil _ _, fun k => by simp [Value.ownBlock]⟩ (By.loc _ _) (fun k h => h.elim))
    clear hs1
    simp only [List.nil_append, List.singleton_append] at HS0
    have HNE := Lib.hid hne
    have HSL := Lib.hid hsl
    clear hsl
    go_wp2_with fail
    go_loopw [4, 6, 7, 8] (fun s4 v6 iv _ wr => ∃ k : Nat, k ≤ xs.length ∧ s4 = .bool false ∧ iv = .int .i64 k ∧ Hid (Sep w wr [Wr g (widesOf ((xs.zip ss).take k)), By v6 (widesOf ((xs.zip ss).take k))])) (fun _ _ iv _ _ => xs.length - (intOf iv).toNat)
    case atStart => exact ⟨0, Nat.zero_le _, rfl, rfl, HS0⟩
    case round =>
      obtain ⟨k, hk, rfl, rfl, HS⟩ := hrel
      have hLl : (widesOf ((xs.zip ss).take k)).length ≤ 8000 := by
        have h1 := widesOf_length ((xs.zip ss).take k) fun p hp => HS4.out p (List.mem_of_mem_take hp)
        rw [List.length_take] at h1
        omega
      by_cases hkt : k < xs.length
      · have hks : k < ss.length := by rw [HSL.out]; exact hkt
        have hkz : k < zs.length := by rw [HNE.out]; exact hkt
        have hkz2 : (k : Int) < (zs.length : Int) := by omega
        obtain ⟨b, o, rfl, hbB, hcell0⟩ := HA.out.at_ (show k < (u64s xs).length by rw [u64s_length]; exact hkt)
        obtain ⟨b2, o2, rfl, hbB2, hcell20⟩ := HB.out.at_ (show k < (zs.map (Value.int .i64)).length by rw [List.length_map]; exact hkz)
        have hcr : ∀ W, Below w.heap.size w W → W.cell? ⟨b, o + k, none⟩ = some (.int .u64 (xs[k] : Int)) ∧ W.cell? ⟨b2, o2 + k, none⟩ = some (.int .i64 zs[k]) := fun W hW => by
          rw [hW.cell (p := ⟨b, o + k, none⟩) hbB, hcell0, hW.cell (p := ⟨b2, o2 + k, none⟩) hbB2, hcell20]
          simp [u64s]
        have HZ := Lib.hid (show (xs.zip ss).take (k + 1) = (xs.zip ss).take k ++ [(xs[k], ss[k])] by
          rw [List.take_succ_eq_append_getElem (by rw [HZL.out]; exact hkt), List.getElem_zip])
        have hsk : ss[k] = (zs[k] % 4).toNat := by simp only [HSS.out, List.getElem_map]
        have hxk := HX.out xs[k] (List.getElem_mem hkt)
        have HXk := Lib.hid hxk
        clear hcell0 hcell20 hxk
        obtain ⟨x, Hx⟩ : ∃ x, Hid (xs[k] = x) := ⟨_, Lib.hid rfl⟩
        obtain ⟨z, Hz⟩ : ∃ z, Hid (zs[k] = z) := ⟨_, Lib.hid rfl⟩
        obtain ⟨s, Hs⟩ : ∃ s, Hid (ss[k] = s) := ⟨_, Lib.hid rfl⟩
        rw [Hx.out] at hcr HXk HZ
        rw [Hz.out] at hcr hsk
        rw [Hs.out] at hsk HZ
        have hs4 : s < 4 := by omega
        have HAND := Lib.hid (show bits .and .i64 z 3 = (s : Int) by rw [and_3, hsk])
        have HCR := Lib.hid hcr
        have HZ2 := Lib.hid (show widesOf ((xs.zip ss).take (k + 1)) = widesOf ((xs.zip ss).take k) ++ Code.wide (2 ^ s) x by rw [HZ.out, widesOf_snoc])
        generalize widesOf ((xs.zip ss).take k) = L at *
        clear hcr hsk HZ
        have h2s : 2 ^ s ≤ 8 := by
          have : 2 ^ s ≤ 2 ^ 3 := Nat.pow_le_pow_right (by omega) (by omega)
          omega
        obtain ⟨hc1, hc2⟩ := HCR.out wr HS.out.bel
        have hand := HAND.out
        go_wp2_with fail
        go_still_tail 10, (by kernel_rfl)
        clear hc1 hc2 hand
        go_wp2_with fail
        refine (sep_writes (i := 0) (l' := L ++ Code.wide (2 ^ s) x) HS.out.drew rfl (fun r hr => lawPut_any _ g r L x s hr HXk.out hs4 (by omega))).mono ?_
        rintro e w3 ⟨rfl, hs3⟩
        have HS3 := Lib.hid hs3
        clear hs3 HS
        simp only [List.set_cons_zero, List.set_cons_succ] at HS3
        obtain ⟨A6, c6, hv6, hc6, hm6, _⟩ := sep_byForm (i := 1) HS3.out rfl
        subst hv6
        have hM := Code.wide_length (2 ^ s) x
        obtain ⟨M, HM⟩ : ∃ M, Hid (Code.wide (2 ^ s) x = M) := ⟨_, Lib.hid rfl⟩
        rw [HM.out] at HS3 HZ2 hM
        have HSH := Lib.hid (shl_pow s hs4)
        have hbel : ∀ (dn : Nat → Bool) (xv : Nat → Value) (W : World), (if dn 13 = true then Sep w W [Wr g (L ++ M), By (xv 13) (L ++ M), By (xv 11) M] else if dn 12 = true then Sep w W [Wr g (L ++ M), By (xv 12) (L ++ M), By (xv 11) M] else if dn 11 = true then Sep w W [Wr g (L ++ M), By (.slice A6 L.length c6) L, By (xv 11) M] else Sep w W [Wr g (L ++ M), By (.slice A6 L.length c6) L]) → Below w.heap.size w W := fun dn xv W h => by
          split at h
          · exact h.bel
          · split at h
            · exact h.bel
            · split at h
              · exact h.bel
              · exact h.bel
        obtain ⟨n, rfl⟩ : ∃ n, n = x := ⟨_, rfl⟩
        go_wp2_with fail
        refine wp_region_stage (fun dn xv W => if dn 13 = true then Sep w W [Wr g (L ++ M), By (xv 13) (L ++ M), By (xv 11) M] else if dn 12 = true then Sep w W [Wr g (L ++ M), By (xv 12) (L ++ M), By (xv 11) M] else if dn 11 = true then Sep w W [Wr g (L ++ M), By (.slice A6 L.length c6) L, By (xv 11) M] else Sep w W [Wr g (L ++ M), By (.slice A6 L.length c6) L]) (fun _ _ => True) [fun v _ => v = .slice A6 L.length c6, fun v _ => v = .slice (some ⟨b, o, none⟩) xs.length c, fun v _ => v = .int .i64 (k : Int), fun v _ => v = .pointer (some ⟨b, o + k, none⟩), fun v _ => v = .int .u64 (n : Int), fun v _ => v = .slice (some ⟨b2, o2, none⟩) xs.length d, fun v _ => v = .int .i64 (k : Int), fun v _ => v = .pointer (some ⟨b2, o2 + k, none⟩), fun v _ => v = .int .i64 z, fun v _ => v = .int .i64 (s : Int), fun v _ => v = .int .i64 ((2 : Int) ^ s), fun v _ => ∃ A1 c1, v = .slice A1 M.length c1, fun v _ => True, fun v _ => True] (by kernel_rfl) (by kernel_rfl) (by kernel_rfl) (fun xv => by simpa using HS3.out.drew)
          ⟨fun _ _ _ _ h => h, fun _ _ _ _ h => h, fun _ _ _ _ h => h, fun _ _ _ _ h => h, fun _ _ _ _ h => h, fun _ _ _ _ h => h, fun _ _ _ _ h => h, fun _ _ _ _ h => h, fun _ _ _ _ h => h, fun _ _ _ _ h => h, fun _ _ _ _ h => h, fun _ _ _ _ h => h, fun _ _ _ _ h => h, fun _ _ _ _ h => h, trivial⟩ ?_ ?_
        · refine EachOpS.cons 1 rfl (fun dn xv W hd hN hX hI H K hK => ?_) ?_
          · have h13 : xv 13 = .slice A6 L.length c6 := hX 13 (hN 13 (.more (j := 12) (by kernel_rfl) (.edge (by kernel_rfl))))
            clear hX
            clear H hN hd
            simp only [putAll, Act.put, List.setIfInBounds_toArray, List.set_cons_zero, List.set_cons_succ, h13]
            go_simp
            exact hK.out _ _ _ (by simp only [putAll, Act.put, List.setIfInBounds_toArray, List.set_cons_zero, List.set_cons_succ, h13]) rfl trivial (by simpa [upB, upd] using hI)
          refine EachOpS.cons 2 rfl (fun dn xv W hd hN hX hI H K hK => ?_) ?_
          · clear hX
            clear H hN hd
            simp only [putAll, Act.put, List.setIfInBounds_toArray, List.set_cons_zero, List.set_cons_succ]
            go_simp
            exact hK.out _ _ _ (by simp only [putAll, Act.put, List.setIfInBounds_toArray, List.set_cons_zero, List.set_cons_succ]) rfl trivial (by simpa [upB, upd] using hI)
          refine EachOpS.cons 3 rfl (fun dn xv W hd hN hX hI H K hK => ?_) ?_
          · clear hX
            clear H hN hd
            simp only [putAll, Act.put, List.setIfInBounds_toArray, List.set_cons_zero, List.set_cons_succ]
            go_simp
            exact hK.out _ _ _ (by simp only [putAll, Act.put, List.setIfInBounds_toArray, List.set_cons_zero, List.set_cons_succ]) rfl trivial (by simpa [upB, upd] using hI)
          refine EachOpS.cons 4 rfl (fun dn xv W hd hN hX hI H K hK => ?_) ?_
          · have h1 : xv 1 = .slice (some ⟨b, o, none⟩) xs.length c := (H 1 (.edge (by kernel_rfl))).2
            have h2 : xv 2 = .int .i64 (k : Int) := (H 2 (.edge (by kernel_rfl))).2
            clear hX
            clear H hN hd
            simp only [putAll, Act.put, List.setIfInBounds_toArray, List.set_cons_zero, List.set_cons_succ, h1, h2]
            go_simp
            exact hK.out _ _ _ (by simp only [putAll, Act.put, List.setIfInBounds_toArray, List.set_cons_zero, List.set_cons_succ, h1, h2]) rfl trivial (by simpa [upB, upd] using hI)
          refine EachOpS.cons 5 rfl (fun dn xv W hd hN hX hI H K hK => ?_) ?_
          · have h3 : xv 3 = .pointer (some ⟨b, o + k, none⟩) := (H 3 (.edge (by kernel_rfl))).2
            clear hX
            clear H hN hd
            simp only [putAll, Act.put, List.setIfInBounds_toArray, List.set_cons_zero, List.set_cons_succ, h3]
            have hc1 := (HCR.out W (hbel dn xv W hI)).1
            go_simp
            exact hK.out _ _ _ (by simp only [putAll, Act.put, List.setIfInBounds_toArray, List.set_cons_zero, List.set_cons_succ, h3]) rfl trivial (by simpa [upB, upd] using hI)
          refine EachOpS.cons 6 rfl (fun dn xv W hd hN hX hI H K hK => ?_) ?_
          · clear hX
            clear H hN hd
            simp only [putAll, Act.put, List.setIfInBounds_toArray, List.set_cons_zero, List.set_cons_succ]
            go_simp
            exact hK.out _ _ _ (by simp only [putAll, Act.put, List.setIfInBounds_toArray, List.set_cons_zero, List.set_cons_succ]) rfl trivial (by simpa [upB, upd] using hI)
          refine EachOpS.cons 7 rfl (fun dn xv W hd hN hX hI H K hK => ?_) ?_
          · clear hX
            clear H hN hd
            simp only [putAll, Act.put, List.setIfInBounds_toArray, List.set_cons_zero, List.set_cons_succ]
            go_simp
            exact hK.out _ _ _ (by simp only [putAll, Act.put, List.setIfInBounds_toArray, List.set_cons_zero, List.set_cons_succ]) rfl trivial (by simpa [upB, upd] using hI)
          refine EachOpS.cons 8 rfl (fun dn xv W hd hN hX hI H K hK => ?_) ?_
          · have h5 : xv 5 = .slice (some ⟨b2, o2, none⟩) xs.length d := (H 5 (.edge (by kernel_rfl))).2
            have h6 : xv 6 = .int .i64 (k : Int) := (H 6 (.edge (by kernel_rfl))).2
            clear hX
            clear H hN hd
            simp only [putAll, Act.put, List.setIfInBounds_toArray, List.set_cons_zero, List.set_cons_succ, h5, h6]
            go_simp
            exact hK.out _ _ _ (by simp only [putAll, Act.put, List.setIfInBounds_toArray, List.set_cons_zero, List.set_cons_succ, h5, h6]) rfl trivial (by simpa [upB, upd] using hI)
          refine EachOpS.cons 9 rfl (fun dn xv W hd hN hX hI H K hK => ?_) ?_
          · have h7 : xv 7 = .pointer (some ⟨b2, o2 + k, none⟩) := (H 7 (.edge (by kernel_rfl))).2
            clear hX
            clear H hN hd
            simp only [putAll, Act.put, List.setIfInBounds_toArray, List.set_cons_zero, List.set_cons_succ, h7]
            have hc2 := (HCR.out W (hbel dn xv W hI)).2
            go_simp
            exact hK.out _ _ _ (by simp only [putAll, Act.put, List.setIfInBounds_toArray, List.set_cons_zero, List.set_cons_succ, h7]) rfl trivial (by simpa [upB, upd] using hI)
          refine EachOpS.cons 10 rfl (fun dn xv W hd hN hX hI H K hK => ?_) ?_
          · have h8 : xv 8 = .int .i64 z := (H 8 (.edge (by kernel_rfl))).2
            clear hX
            clear H hN hd
            simp only [putAll, Act.put, List.setIfInBounds_toArray, List.set_cons_zero, List.set_cons_succ, h8]
            have hand := HAND.out
            go_simp
            exact hK.out _ _ _ (by simp only [putAll, Act.put, List.setIfInBounds_toArray, List.set_cons_zero, List.set_cons_succ, h8]) rfl trivial (by simpa [upB, upd] using hI)
          refine EachOpS.cons 11 rfl (fun dn xv W hd hN hX hI H K hK => ?_) ?_
          · have h9 : xv 9 = .int .i64 (s : Int) := (H 9 (.edge (by kernel_rfl))).2
            clear hX
            clear H hN hd
            simp only [putAll, Act.put, List.setIfInBounds_toArray, List.set_cons_zero, List.set_cons_succ, h9]
            have hsh := HSH.out
            go_simp
            exact hK.out _ _ _ (by simp only [putAll, Act.put, List.setIfInBounds_toArray, List.set_cons_zero, List.set_cons_succ, h9]) rfl trivial (by simpa [upB, upd] using hI)
          refine EachOpS.cons 12 rfl (fun dn xv W hd hN hX hI H K hK => ?_) ?_
          · have h4 : xv 4 = .int .u64 (n : Int) := (H 4 (.edge (by kernel_rfl))).2
            have h10 : xv 10 = .int .i64 ((2 : Int) ^ s) := (H 10 (.edge (by kernel_rfl))).2
            clear hX
            have q12 : dn 12 = false := hN 12 (.edge (by kernel_rfl))
            have q13 : dn 13 = false := hN 13 (.more (j := 12) (by kernel_rfl) (.edge (by kernel_rfl)))
            have hS : Sep w W [Wr g (L ++ M), By (.slice A6 L.length c6) L] := by simpa [hd, q12, q13] using hI
            clear hI hN hd 
            clear H
            simp only [putAll, Act.put, List.setIfInBounds_toArray, List.set_cons_zero, List.set_cons_succ, h4, h10]
            go_simp
            have hc := refWide_any W n (2 ^ s) HXk.out h2s
            rw [show ((2 ^ s : Nat) : Int) = (2 : Int) ^ s by simp] at hc
            refine hc.mono ?_
            clear hc
            rintro e W' ⟨v, rfl, ho, hb⟩
            rw [HM.out] at ho
            obtain ⟨A1, c1, e1, _⟩ := ho.form
            have hs : Sep w W' [Wr g (L ++ M), By (.slice A6 L.length c6) L, By v M] := hS.add (F := fun k => v.ownBlock = some k) hb ⟨own_mono ho (Nat.zero_le _), fun k => Iff.rfl⟩ (By.loc _ _) fun k hk => (ho.lt k hk).1
            exact hK.out _ v W' (by simp only [putAll, Act.put, List.setIfInBounds_toArray, List.set_cons_zero, List.set_cons_succ, h4, h10]) ⟨A1, c1, e1⟩ trivial (by simpa [upB, upd, q12, q13] using hs)
          refine EachOpS.cons 13 rfl (fun dn xv W hd hN hX hI H K hK => ?_) ?_
          · have h0 : xv 0 = .slice A6 L.length c6 := (H 0 (.edge (by kernel_rfl))).2
            have h11 := (H 11 (.edge (by kernel_rfl))).2
            simp only [Dl] at h11
            clear hX
            have q11 : dn 11 = true := (H 11 (.edge (by kernel_rfl))).1
            have q13 : dn 13 = false := hN 13 (.edge (by kernel_rfl))
            have hS : Sep w W [Wr g (L ++ M), By (.slice A6 L.length c6) L, By (xv 11) M] := by simpa [hd, q13, q11] using hI
            clear hI hN hd 
            clear H
            simp only [putAll, Act.put, List.setIfInBounds_toArray, List.set_cons_zero, List.set_cons_succ, h0]
            obtain ⟨A1, c1, e11⟩ := h11
            have hf := sep_byForm (i := 2) hS rfl
            rw [e11] at hf hS
            obtain ⟨A2, c2, e2, _, _, hh⟩ := hf
            injection e2 with e2 _ e3
            subst e2 e3
            obtain ⟨F0, ho0, _⟩ := hS.get (i := 1) rfl
            rw [e11]
            refine if_wanted rfl ?_
            refine op_app (by rfl) (by rfl) (by rfl) ho0 hh (by omega) (Nat.zero_le _) ?_
            intro v W' ho' hb' hg' hat'
            have hs := sep_grown (i := 1) hS rfl ho' hg' hat'
            rw [← e11] at hs
            exact hK.out _ v W' (by simp only [putAll, Act.put, List.setIfInBounds_toArray, List.set_cons_zero, List.set_cons_succ, h0]; rw [e11]) trivial trivial (by simpa [upB, upd, q13] using hs)
          refine EachOpS.cons 14 rfl (fun dn xv W hd hN hX hI H K hK => ?_) ?_
          · have h12 := (H 12 (.edge (by kernel_rfl))).2
            simp only [Dl] at h12
            clear hX
            have q11 : dn 11 = true := (H 11 (.more (j := 12) (by kernel_rfl) (.edge (by kernel_rfl)))).1
            have q12 : dn 12 = true := (H 12 (.edge (by kernel_rfl))).1
            have hS : Sep w W [Wr g (L ++ M), By (xv 12) (L ++ M), By (xv 11) M] := by simpa [hd, q12] using hI
            clear hI hN hd q11
            clear H
            simp only [putAll, Act.put, List.setIfInBounds_toArray, List.set_cons_zero, List.set_cons_succ]
            go_simp
            have hs := hS
            exact hK.out _ (xv 12) _ (by simp only [putAll, Act.put, List.setIfInBounds_toArray, List.set_cons_zero, List.set_cons_succ]) trivial trivial (by simpa [upB, upd] using hs)
          exact EachOpS.nil
        · intro dn xv W hI H
          have qe : dn 13 = true := (H 13 (of_decide_eq_true (by kernel_rfl))).1
          have hS : Sep w W [Wr g (L ++ M), By (xv 13) (L ++ M), By (xv 11) M] := by simpa [qe] using hI
          clear H hI qe
          simp only [putAll, Act.put, List.setIfInBounds_toArray, List.set_cons_zero, List.set_cons_succ, Nat.reduceAdd]
          obtain ⟨A9, c9, hv9, hc9, hm9, _⟩ := sep_byForm (i := 1) hS rfl
          rw [hv9] at hS ⊢
          have HS := Lib.hid (show Sep w W [Wr g (L ++ M), By (.slice A9 (L ++ M).length c9) (L ++ M)] from hS.drop 2)
          have hL' : (L ++ M).length ≤ 8008 := by rw [List.length_append]; omega
          clear hS hv9
          generalize L ++ M = L' at *
          go_wp2_with fail
          refine (sep_bytes (i := 0) HS.out rfl (by omega)).mono ?_
          rintro e w5 ⟨v8, rfl, hs5⟩
          obtain ⟨A8, c8, rfl, _, _, hh8⟩ := sep_byForm (i := 2) hs5 rfl
          obtain ⟨_, _, e9, _, _, hh9⟩ := sep_byForm (i := 1) hs5 rfl
          injection e9 with e9 _ e10
          subst e9 e10
          have e8 := run_str (c := c8) hh8
          have e9 := run_str (c := c9) hh9
          obtain ⟨w6, hcl, hs6⟩ := sep_clear (i := 2) hs5 rfl
          have HS5 := Lib.hid hs5
          have HS6 := Lib.hid (show Sep w w6 [Wr g L', By (.slice A9 L'.length c9) L'] from hs6.drop 2)
          clear hh8 hh9 hs5 hs6 HS
          go_wp2_with fail
          refine (sep_len (i := 0) HS5.out rfl).mono ?_
          rintro e w7 ⟨rfl, rfl⟩
          go_wp2
          go_roundw
          case rel => exact ⟨k + 1, by omega, rfl, by go_num, by rw [HZ2.out]; exact HS6⟩
          case measure => simp [intOf]; omega
      · have HE := Lib.hid (show (xs.zip ss).take k = xs.zip ss by rw [List.take_of_length_le]; rw [HZL.out]; omega)
        rw [HE.out] at HS hLl
        generalize widesOf (xs.zip ss) = L at *
        obtain ⟨A6, c6, hv6, hc6, hm6, _⟩ := sep_byForm (i := 1) HS.out rfl
        subst hv6
        have hcv : ∀ W, Sep w W [Wr g L, By (.slice A6 L.length c6) L] → (convert 26 9 (.slice A6 L.length c6)).run Try.prog W = .ok (.string ⟨L.toArray⟩) W := fun W hW => by
          obtain ⟨_, _, e9, _, _, hh⟩ := sep_byForm (i := 1) hW rfl
          injection e9 with e9 _ e10
          subst e9 e10
          exact run_str hh
        have HCV := Lib.hid hcv
        clear hcv
        go_wp2_with fail
        have hcv := HCV.out
        refine wp_region_list (fun W => Sep w W [Wr g L, By (.slice A6 L.length c6) L]) (fun W W' => Below W.heap.size W W') [fun v _ => v = .pointer (some ⟨g, 0, none⟩), IsB L, fun v _ => v = .string ⟨L.toArray⟩, fun v _ => v = .slice A6 L.length c6, fun v _ => v = .string ⟨L.toArray⟩, fun v _ => v = .bool true, fun v _ => v = .bool true, fun v _ => v = .bool true, fun v _ => v = .bool true, fun v _ => v = .bool true] (by kernel_rfl) (by kernel_rfl) (by kernel_rfl) HS.out.drew
          ⟨fun _ _ _ _ h => h, fun _ _ _ hR h => h.keep hR, fun _ _ _ _ h => h, fun _ _ _ _ h => h, fun _ _ _ _ h => h, fun _ _ _ _ h => h, fun _ _ _ _ h => h, fun _ _ _ _ h => h, fun _ _ _ _ h => h, fun _ _ _ _ h => h, trivial⟩ ?_ ?_
        · refine EachOp.cons 1 rfl (fun x W hI H K hK => ?_) ?_
          · clear H
            simp only [putAll, Act.put, List.setIfInBounds_toArray, List.set_cons_zero, List.set_cons_succ]
            go_simp
            exact hK.out _ _ _ (by simp only [putAll, Act.put, List.setIfInBounds_toArray, List.set_cons_zero, List.set_cons_succ]) rfl (Below.refl _ _) hI
          refine EachOp.cons 2 rfl (fun x W hI H K hK => ?_) ?_
          · have h0 : x 0 = .pointer (some ⟨g, 0, none⟩) := H 0 (.edge (by kernel_rfl))
            clear H
            simp only [putAll, Act.put, List.setIfInBounds_toArray, List.set_cons_zero, List.set_cons_succ, h0]
            go_simp
            obtain ⟨F0, r0, hw0, _⟩ := hI.get (i := 0) rfl
            refine (bytes_any W 0 _ r0 L hw0 (by omega)).mono ?_
            rintro e W' ⟨v, rfl, ho, hb⟩
            exact hK.out _ v W' (by simp only [putAll, Act.put, List.setIfInBounds_toArray, List.set_cons_zero, List.set_cons_succ, h0]) (IsB.of_own ho) hb (hI.grow hb)
          refine EachOp.cons 3 rfl (fun x W hI H K hK => ?_) ?_
          · have h1 := H 1 (.edge (by kernel_rfl))
            simp only [Dl] at h1
            clear H
            simp only [putAll, Act.put, List.setIfInBounds_toArray, List.set_cons_zero, List.set_cons_succ]
            go_simp
            obtain ⟨A1, c1, e0, e1⟩ := h1
            have e2 := run_str (c := c1) e1
            clear e1
            rw [e0]
            go_simp
            exact hK.out _ _ _ (by simp only [putAll, Act.put, List.setIfInBounds_toArray, List.set_cons_zero, List.set_cons_succ]; rw [e0]) rfl (Below.refl _ _) hI
          refine EachOp.cons 4 rfl (fun x W hI H K hK => ?_) ?_
          · clear H
            simp only [putAll, Act.put, List.setIfInBounds_toArray, List.set_cons_zero, List.set_cons_succ]
            go_simp
            exact hK.out _ _ _ (by simp only [putAll, Act.put, List.setIfInBounds_toArray, List.set_cons_zero, List.set_cons_succ]) rfl (Below.refl _ _) hI
          refine EachOp.cons 5 rfl (fun x W hI H K hK => ?_) ?_
          · have h3 : x 3 = .slice A6 L.length c6 := H 3 (.edge (by kernel_rfl))
            clear H
            simp only [putAll, Act.put, List.setIfInBounds_toArray, List.set_cons_zero, List.set_cons_succ, h3]
            have e1 := hcv W hI
            clear hcv
            go_simp
            exact hK.out _ _ _ (by simp only [putAll, Act.put, List.setIfInBounds_toArray, List.set_cons_zero, List.set_cons_succ, h3]) rfl (Below.refl _ _) hI
          refine EachOp.cons 6 rfl (fun x W hI H K hK => ?_) ?_
          · have h2 : x 2 = .string ⟨L.toArray⟩ := H 2 (.edge (by kernel_rfl))
            have h4 : x 4 = .string ⟨L.toArray⟩ := H 4 (.edge (by kernel_rfl))
            clear H
            simp only [putAll, Act.put, List.setIfInBounds_toArray, List.set_cons_zero, List.set_cons_succ, h2, h4]
            go_simp
            exact hK.out _ _ _ (by simp only [putAll, Act.put, List.setIfInBounds_toArray, List.set_cons_zero, List.set_cons_succ, h2, h4]) rfl (Below.refl _ _) hI
          refine EachOp.cons 7 rfl (fun x W hI H K hK => ?_) ?_
          · have h5 : x 5 = .bool true := H 5 (.edge (by kernel_rfl))
            clear H
            simp only [putAll, Act.put, List.setIfInBounds_toArray, List.set_cons_zero, List.set_cons_succ, h5]
            go_simp
            exact hK.out _ _ _ (by simp only [putAll, Act.put, List.setIfInBounds_toArray, List.set_cons_zero, List.set_cons_succ, h5]) rfl (Below.refl _ _) hI
          refine EachOp.cons 8 rfl (fun x W hI H K hK => ?_) ?_
          · have h6 : x 6 = .bool true := H 6 (.edge (by kernel_rfl))
            clear H
            simp only [putAll, Act.put, List.setIfInBounds_toArray, List.set_cons_zero, List.set_cons_succ, h6]
            go_simp
            refine (codeAwake _).mono ?_
            rintro e W' ⟨rfl, hb⟩
            exact hK.out _ _ W' (by simp only [putAll, Act.put, List.setIfInBounds_toArray, List.set_cons_zero, List.set_cons_succ, h6]) rfl hb (hI.grow hb)
          refine EachOp.cons 9 rfl (fun x W hI H K hK => ?_) ?_
          · have h6 : x 6 = .bool true := H 6 (.edge (by kernel_rfl))
            have h7 : x 7 = .bool true := H 7 (.edge (by kernel_rfl))
            clear H
            simp only [putAll, Act.put, List.setIfInBounds_toArray, List.set_cons_zero, List.set_cons_succ, h6, h7]
            go_simp
            exact hK.out _ _ _ (by simp only [putAll, Act.put, List.setIfInBounds_toArray, List.set_cons_zero, List.set_cons_succ, h6, h7]) rfl (Below.refl _ _) hI
          refine EachOp.cons 10 rfl (fun x W hI H K hK => ?_) ?_
          · have h8 : x 8 = .bool true := H 8 (.edge (by kernel_rfl))
            clear H
            simp only [putAll, Act.put, List.setIfInBounds_toArray, List.set_cons_zero, List.set_cons_succ, h8]
            go_simp
            exact hK.out _ _ _ (by simp only [putAll, Act.put, List.setIfInBounds_toArray, List.set_cons_zero, List.set_cons_succ, h8]) rfl (Below.refl _ _) hI
          exact EachOp.nil
        · intro x W hI H
          have q9 : x 9 = .bool true := H 9 (of_decide_eq_true (by kernel_rfl))
          clear H
          simp only [putAll, Act.put, List.setIfInBounds_toArray, List.set_cons_zero, List.set_cons_succ, q9]
          clear q9
          go_wp2
          go_ret
          exact ⟨rfl, hI.bel⟩
end Go.Proofs.Ytkjficbegjhefaa
