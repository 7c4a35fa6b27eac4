/- The walk of the law CodeUnlike. -/
import Derived.Test.YtkjficbegjhefaaCodeShorts
import Derived.Test.YtkjficbegjhefaaRgB
import Derived.Test.YtkjficbegjhefaaCodeUnl
import Derived.Deep.QuietTactic
import Derived.Deep.CutBlock
import Derived.Deep.DeepCutAuto
namespace Go.Proofs.Ytkjficbegjhefaa
open Go Go.RowKit
set_option linter.unusedVariables false
set_option maxRecDepth 100000

theorem has_sep {w : World} {B : Nat} {A : Option Addr} {xs : List Nat} (h : Has w B A (u64s xs)) (g : Nat) (r : Option Nat) (hg : B ≤ g) (hr : ∀ k, r = some k → B ≤ k) : 0 < xs.length → ∀ b o : Nat, A = some ⟨b, o, none⟩ → b ≠ g ∧ some b ≠ r := by
  intro h0 b o e
  obtain ⟨b', o', e', hb', _⟩ := h.at_ (show 0 < (u64s xs).length by rw [u64s_length]; exact h0)
  rw [e] at e'
  injection e' with e'
  injection e' with e1 _
  subst e1
  exact ⟨by omega, fun e2 => by have := hr b e2.symm; omega⟩
theorem Moved.new {w : World} {r : Option Nat} (h : Moved w none r) : ∀ k, r = some k → w.heap.size ≤ k := fun k e => by
  rcases h with e2 | ⟨j, e2, hj⟩
  · rw [e2] at e; cases e
  · rw [e2] at e; injection e with e; omega

set_option maxHeartbeats 3200000 in
theorem codeUnlike_walk (w : World) (A B : Option Addr) (c d : Nat) (xs ys : List Nat) (hA : Has w w.heap.size A (u64s xs)) (hB : Has w w.heap.size B (u64s ys)) (hx : ∀ x ∈ xs, x < 18446744073709551616) (hy : ∀ x ∈ ys, x < 18446744073709551616) (hcA : xs.length ≤ c) (hcB : ys.length ≤ d) :
    Calls Try.prog 5 #[.slice A xs.length c, .slice B ys.length d] w fun e w' => e = .returned (.bool true) ∧ Below w.heap.size w w' := by
  have HA := Lib.hid hA
  have HX := Lib.hid hx
  have HB := Lib.hid hB
  have HY := Lib.hid hy
  clear hA hx hB hy
  by_cases hl1 : 1000 < xs.length
  · go_enter Try.func5, Try.ntmps5
    go_wp2_with fail
    refine (codeAwake w).mono ?_
    rintro e w' ⟨rfl, hb⟩
    go_wp2
    go_ret
    exact ⟨rfl, hb⟩
  by_cases hl2 : 1000 < ys.length
  · go_enter Try.func5, Try.ntmps5
    go_wp2_with fail
    refine (codeAwake w).mono ?_
    rintro e w' ⟨rfl, hb⟩
    go_wp2
    go_ret
    exact ⟨rfl, hb⟩
  · go_enter Try.func5, Try.ntmps5
    go_upto_block 0 with fail
    go_cut [5] (fun s5 wx => ∃ k : Nat, s5 = .int .i64 k ∧ k ≤ xs.length ∧ k ≤ ys.length ∧ Hid (xs.take k = ys.take k) ∧ Hid (k = xs.length ∨ k = ys.length ∨ xs[k]? ≠ ys[k]?) ∧ Hid (Below w.heap.size w wx) ∧ Hid (wx.heap.size = w.heap.size))
    case first =>
      go_wp2_with fail
      go_loopw [5] (fun iv wr => ∃ k : Nat, iv = .int .i64 k ∧ k ≤ xs.length ∧ k ≤ ys.length ∧ Hid (xs.take k = ys.take k) ∧ Hid (Below w.heap.size w wr) ∧ Hid (wr.heap.size = w.heap.size)) (fun iv _ => xs.length - (intOf iv).toNat)
      case atStart => exact ⟨0, rfl, Nat.zero_le _, Nat.zero_le _, Lib.hid rfl, Lib.hid (Below.refl _ _), Lib.hid rfl⟩
      case round =>
        obtain ⟨k, rfl, hk1, hk2, HT, HBW, HS⟩ := hrel
        by_cases h1 : k < xs.length
        · by_cases h2 : k < ys.length
          · obtain ⟨b, o, rfl, hbB, hcell0⟩ := HA.out.at_ (show k < (u64s xs).length by rw [u64s_length]; exact h1)
            obtain ⟨b2, o2, rfl, hbB2, hcell20⟩ := HB.out.at_ (show k < (u64s ys).length by rw [u64s_length]; exact h2)
            have hcell : wr.cell? ⟨b, o + k, none⟩ = some (.int .u64 (xs[k] : Int)) := by rw [HBW.out.cell (p := ⟨b, o + k, none⟩) hbB, hcell0]; simp [u64s]
            have hcell2 : wr.cell? ⟨b2, o2 + k, none⟩ = some (.int .u64 (ys[k] : Int)) := by rw [HBW.out.cell (p := ⟨b2, o2 + k, none⟩) hbB2, hcell20]; simp [u64s]
            clear hcell0 hcell20
            obtain ⟨x, Hx⟩ : ∃ x, Hid (xs[k] = x) := ⟨_, Lib.hid rfl⟩
            obtain ⟨y, Hy⟩ : ∃ y, Hid (ys[k] = y) := ⟨_, Lib.hid rfl⟩
            rw [Hx.out] at hcell
            rw [Hy.out] at hcell2
            by_cases he : x = y
            · subst he
              go_wp2_with fail
              go_quiet (fail)
              go_wp2
              go_roundw
              case rel => exact ⟨k + 1, by go_num, by omega, by omega, Lib.hid (by rw [List.take_succ_eq_append_getElem h1, List.take_succ_eq_append_getElem h2, HT.out, Hx.out, Hy.out]), Lib.hid (below_drewN HBW.out nq), Lib.hid HS.out⟩
              case measure => simp [intOf]; omega
            · have he2 : ((x : Int) == (y : Int)) = false := beq_eq_false_iff_ne.2 (by omega)
              go_wp2_with fail
              go_quiet (fail)
              go_wp2
              go_meet
              exact ⟨k, rfl, by omega, by omega, HT, Lib.hid (.inr (.inr (by rw [List.getElem?_eq_getElem h1, List.getElem?_eq_getElem h2, Hx.out, Hy.out]; simpa using he))), Lib.hid (below_drewN HBW.out nq), Lib.hid HS.out⟩
          · go_wp2_with fail
            go_region
            go_wp2
            go_meet
            exact ⟨k, rfl, by omega, by omega, HT, Lib.hid (.inr (.inl (by omega))), Lib.hid HBW.out.drew, Lib.hid HS.out⟩
        · go_wp2_with fail
          go_region
          go_wp2
          go_meet
          exact ⟨k, rfl, by omega, by omega, HT, Lib.hid (.inl (by omega)), Lib.hid HBW.out.drew, Lib.hid HS.out⟩
    case rest =>
      obtain ⟨k, rfl, hk1, hk2, HT, HE, HBW, HS⟩ := hcut
      have HAc := Lib.hid (HA.out.below HBW.out)
      have HBc := Lib.hid (HB.out.below HBW.out)
      have HK := Lib.hid (show Has wc w.heap.size A (u64s (xs.take k)) from fun j u hu => HAc.out j u (by
        unfold u64s at hu ⊢
        rw [List.map_take, List.getElem?_take] at hu
        split at hu
        · exact hu
        · cases hu))
      have hlk : (xs.take k).length = k := by simp; omega
      obtain ⟨zs, HZS⟩ : ∃ zs, Hid (xs.take k = zs) := ⟨_, Lib.hid rfl⟩
      rw [HZS.out] at HK hlk
      have HXZ := Lib.hid (show ∀ x ∈ zs, x < 18446744073709551616 from fun x hx => HX.out x (List.mem_of_mem_take (by rw [HZS.out]; exact hx)))
      have hsz := HS.out
      have hkc : (k : Int) ≤ (c : Int) := by omega
      have hk0 : (0 : Int) ≤ (k : Int) := by omega
      go_wp2_with fail
      refine (newWriter_any wc).mono ?_
      rintro e w1 ⟨rfl, hw1, hb1, hs1⟩
      go_wp2_with fail
      refine (newWriter_any w1).mono ?_
      rintro e w2 ⟨rfl, hw2, hb2, hs2⟩
      go_wp2_with fail
      refine (newWriter_any w2).mono ?_
      rintro e w3 ⟨rfl, hw3, hb3, hs3⟩
      have e1 : w1.heap.size = w.heap.size + 1 := by omega
      have e2 : w2.heap.size = w.heap.size + 2 := by omega
      have e3 : w3.heap.size = w.heap.size + 3 := by omega
      rw [hsz] at hw1 hb1
      rw [e1] at hw2 hb2
      rw [e2] at hw3 hb3
      rw [e2]
      have HU3 := Lib.hid ((hw1.grow (by rw [e1]; exact hb2)).grow (by rw [e2]; exact hb3))
      have HV3 := Lib.hid (hw2.grow (by rw [e2]; exact hb3))
      have HW3 := Lib.hid hw3
      have HB03 := Lib.hid (HBW.out.trans (hb1.trans ((hb2.mono (by omega)).trans (hb3.mono (by omega)))))
      have HA3 := Lib.hid (HA.out.below HB03.out)
      have HB3 := Lib.hid (HB.out.below HB03.out)
      have HK3 := Lib.hid (HK.out.below (hb1.trans ((hb2.mono (by omega)).trans (hb3.mono (by omega)))))
      have HE3 := Lib.hid e3
      clear hw1 hw2 hw3 hb1 hb2 hb3 hs1 hs2 hs3 e1 e2 e3 HAc HBc HK
      go_wp2_with fail
      refine (put_any w3 w.heap.size w.heap.size none [] A c xs HU3.out (by rw [HE3.out]; omega) (HA3.out.more (by rw [HE3.out]; omega)) (has_sep HA3.out _ _ (by omega) (by simp)) HX.out (by simp; omega)).mono ?_
      rintro e w4 ⟨rfl, r1, hu4, hc4, hm4⟩
      rw [List.nil_append] at hu4
      have hr1 := hm4.new
      have hb4 := HU3.out.below_ hc4 (by rw [HE3.out]; omega)
      have HU4 := Lib.hid hu4
      have HV4 := Lib.hid (HV3.out.keep hc4 (by omega) (by simp) (by simp) (.inl rfl))
      have HW4 := Lib.hid (HW3.out.keep hc4 (by omega) (by simp) (by simp) (.inl rfl))
      have HB04 := Lib.hid (HB03.out.trans hb4)
      have HB4 := Lib.hid (HB3.out.below hb4)
      have HK4 := Lib.hid (HK3.out.below hb4)
      have hs4 : w3.heap.size ≤ w4.heap.size := hc4.size
      rw [HE3.out] at hs4
      have HR1 := Lib.hid (show ∀ k, r1 = some k → w.heap.size + 3 ≤ k from fun k e => by have := hr1 k e; rw [HE3.out] at this; exact this)
      clear hu4 hc4 hm4 hr1 hb4
      go_wp2_with fail
      refine (put_any w4 (w.heap.size + 1) (w.heap.size + 1) none [] B d ys HV4.out (by omega) (HB4.out.more (by omega)) (has_sep HB4.out _ _ (by omega) (by simp)) HY.out (by simp; omega)).mono ?_
      rintro e w5 ⟨rfl, r2, hv5, hc5, hm5⟩
      rw [List.nil_append] at hv5
      have hr2 := hm5.new
      have hb5 : Below w.heap.size w4 w5 := (HV4.out.below_ hc5 (by omega)).mono (by omega)
      have HV5 := Lib.hid hv5
      have HU5 := Lib.hid (HU4.out.keep hc5 (by omega) (by simp) (fun e => by have := HR1.out _ e; omega) (Classical.em _))
      have HW5 := Lib.hid (HW4.out.keep hc5 (by omega) (by simp) (by simp) (.inl rfl))
      have HB05 := Lib.hid (HB04.out.trans hb5)
      have HK5 := Lib.hid (HK4.out.below hb5)
      have hs5 : w4.heap.size ≤ w5.heap.size := hc5.size
      have HR2 := Lib.hid (show ∀ k, r2 = some k → w.heap.size + 3 ≤ k from fun k e => by have := hr2 k e; omega)
      clear hv5 hc5 hm5 hr2 hb5
      subst hlk
      go_wp2_with fail
      refine (put_any w5 (w.heap.size + 2) (w.heap.size + 2) none [] A c zs HW5.out (by omega) (HK5.out.more (by omega)) (has_sep HK5.out _ _ (by omega) (by simp)) HXZ.out (by simp; omega)).mono ?_
      rintro e w6 ⟨rfl, r3, hw6, hc6, hm6⟩
      rw [List.nil_append] at hw6
      have hb6 : Below w.heap.size w5 w6 := (HW5.out.below_ hc6 (by omega)).mono (by omega)
      have HW6 := Lib.hid hw6
      have HU6 := Lib.hid (HU5.out.keep hc6 (by omega) (by simp) (fun e => by have := HR1.out _ e; omega) (Classical.em _))
      have HV6 := Lib.hid (HV5.out.keep hc6 (by omega) (by simp) (fun e => by have := HR2.out _ e; omega) (Classical.em _))
      have HB06 := Lib.hid (HB05.out.trans hb6)
      have hs6 : w5.heap.size ≤ w6.heap.size := hc6.size
      clear hw6 hc6 hm6 hb6 HU3 HV3 HW3 HU4 HV4 HW4 HU5 HV5 HW5 HB03 HB04 HB05 HA3 HB3 HK3 HB4 HK4 HK5
      go_wp2_with fail
      have hLx := shorts_length xs
      have hLy := shorts_length ys
      have hLz := shorts_length zs
      have HLZ := Lib.hid (codeUnlike_law xs ys zs HX.out HY.out HZS.out HT.out hk1 hk2 HE.out)
      generalize Code.shorts xs = Lx at *
      generalize Code.shorts ys = Ly at *
      generalize Code.shorts zs = Lz at *
      refine wp_region_list (fun W => Below w6.heap.size w6 W) (fun W W' => Below W.heap.size W W') [fun v _ => v = .pointer (some ⟨w.heap.size, 0, none⟩), IsB Lx, fun v _ => v = .string ⟨Lx.toArray⟩, fun v _ => v = .pointer (some ⟨w.heap.size + 1, 0, none⟩), IsB Ly, fun v _ => v = .string ⟨Ly.toArray⟩, fun v _ => v = .pointer (some ⟨w.heap.size + 2, 0, none⟩), IsB Lz, fun v _ => v = .string ⟨Lz.toArray⟩, fun v _ => v = .string ⟨Lx.toArray⟩, fun v _ => v = .string ⟨Ly.toArray⟩, fun v _ => v = .string ⟨Lz.toArray⟩] (by kernel_rfl) (by kernel_rfl) (by kernel_rfl) (Below.refl _ _).drew
        ⟨fun _ _ _ _ h => h, fun _ _ _ hR h => h.keep hR, fun _ _ _ _ h => h, fun _ _ _ _ h => h, fun _ _ _ hR h => h.keep hR, fun _ _ _ _ h => h, fun _ _ _ _ h => h, fun _ _ _ hR h => h.keep hR, fun _ _ _ _ h => h, fun _ _ _ _ h => h, fun _ _ _ _ h => h, fun _ _ _ _ h => h, trivial⟩ ?_ ?_
      · refine EachOp.cons 1 rfl (fun x W hI H K hK => ?_) ?_
        · clear H
          simp only [putAll, Act.put, List.setIfInBounds_toArray, List.set_cons_zero, List.set_cons_succ]
          go_simp
          exact hK.out _ _ _ (by simp only [putAll, Act.put, List.setIfInBounds_toArray, List.set_cons_zero, List.set_cons_succ]) rfl (Below.refl _ _) hI
        refine EachOp.cons 2 rfl (fun x W hI H K hK => ?_) ?_
        · have h0 : x 0 = .pointer (some ⟨w.heap.size, 0, none⟩) := H 0 (.edge (by kernel_rfl))
          clear H
          simp only [putAll, Act.put, List.setIfInBounds_toArray, List.set_cons_zero, List.set_cons_succ]
          rw [h0]
          go_simp
          refine (bytes_any W w.heap.size w.heap.size r1 Lx (HU6.out.grow hI) (by omega)).mono ?_
          rintro e W' ⟨v, rfl, ho, hb⟩
          exact hK.out _ v W' (by simp only [putAll, Act.put, List.setIfInBounds_toArray, List.set_cons_zero, List.set_cons_succ]; rw [h0]) (IsB.of_own ho) hb (hI.trans (hb.mono hI.size))
        refine EachOp.cons 3 rfl (fun x W hI H K hK => ?_) ?_
        · have h1 := H 1 (.edge (by kernel_rfl))
          simp only [Dl] at h1
          clear H
          simp only [putAll, Act.put, List.setIfInBounds_toArray, List.set_cons_zero, List.set_cons_succ]
          go_simp
          obtain ⟨A1, c1, h0, h1⟩ := h1
          have e1 := run_str (c := c1) h1
          clear h1
          rw [h0]
          go_simp
          exact hK.out _ _ _ (by simp only [putAll, Act.put, List.setIfInBounds_toArray, List.set_cons_zero, List.set_cons_succ]; rw [h0]) rfl (Below.refl _ _) hI
        refine EachOp.cons 4 rfl (fun x W hI H K hK => ?_) ?_
        · clear H
          simp only [putAll, Act.put, List.setIfInBounds_toArray, List.set_cons_zero, List.set_cons_succ]
          go_simp
          exact hK.out _ _ _ (by simp only [putAll, Act.put, List.setIfInBounds_toArray, List.set_cons_zero, List.set_cons_succ]) rfl (Below.refl _ _) hI
        refine EachOp.cons 5 rfl (fun x W hI H K hK => ?_) ?_
        · have h0 : x 3 = .pointer (some ⟨w.heap.size + 1, 0, none⟩) := H 3 (.edge (by kernel_rfl))
          clear H
          simp only [putAll, Act.put, List.setIfInBounds_toArray, List.set_cons_zero, List.set_cons_succ]
          rw [h0]
          go_simp
          refine (bytes_any W (w.heap.size + 1) (w.heap.size + 1) r2 Ly (HV6.out.grow hI) (by omega)).mono ?_
          rintro e W' ⟨v, rfl, ho, hb⟩
          exact hK.out _ v W' (by simp only [putAll, Act.put, List.setIfInBounds_toArray, List.set_cons_zero, List.set_cons_succ]; rw [h0]) (IsB.of_own ho) hb (hI.trans (hb.mono hI.size))
        refine EachOp.cons 6 rfl (fun x W hI H K hK => ?_) ?_
        · have h1 := H 4 (.edge (by kernel_rfl))
          simp only [Dl] at h1
          clear H
          simp only [putAll, Act.put, List.setIfInBounds_toArray, List.set_cons_zero, List.set_cons_succ]
          go_simp
          obtain ⟨A1, c1, h0, h1⟩ := h1
          have e1 := run_str (c := c1) h1
          clear h1
          rw [h0]
          go_simp
          exact hK.out _ _ _ (by simp only [putAll, Act.put, List.setIfInBounds_toArray, List.set_cons_zero, List.set_cons_succ]; rw [h0]) rfl (Below.refl _ _) hI
        refine EachOp.cons 7 rfl (fun x W hI H K hK => ?_) ?_
        · clear H
          simp only [putAll, Act.put, List.setIfInBounds_toArray, List.set_cons_zero, List.set_cons_succ]
          go_simp
          exact hK.out _ _ _ (by simp only [putAll, Act.put, List.setIfInBounds_toArray, List.set_cons_zero, List.set_cons_succ]) rfl (Below.refl _ _) hI
        refine EachOp.cons 8 rfl (fun x W hI H K hK => ?_) ?_
        · have h0 : x 6 = .pointer (some ⟨w.heap.size + 2, 0, none⟩) := H 6 (.edge (by kernel_rfl))
          clear H
          simp only [putAll, Act.put, List.setIfInBounds_toArray, List.set_cons_zero, List.set_cons_succ]
          rw [h0]
          go_simp
          refine (bytes_any W (w.heap.size + 2) (w.heap.size + 2) r3 Lz (HW6.out.grow hI) (by omega)).mono ?_
          rintro e W' ⟨v, rfl, ho, hb⟩
          exact hK.out _ v W' (by simp only [putAll, Act.put, List.setIfInBounds_toArray, List.set_cons_zero, List.set_cons_succ]; rw [h0]) (IsB.of_own ho) hb (hI.trans (hb.mono hI.size))
        refine EachOp.cons 9 rfl (fun x W hI H K hK => ?_) ?_
        · have h1 := H 7 (.edge (by kernel_rfl))
          simp only [Dl] at h1
          clear H
          simp only [putAll, Act.put, List.setIfInBounds_toArray, List.set_cons_zero, List.set_cons_succ]
          go_simp
          obtain ⟨A1, c1, h0, h1⟩ := h1
          have e1 := run_str (c := c1) h1
          clear h1
          rw [h0]
          go_simp
          exact hK.out _ _ _ (by simp only [putAll, Act.put, List.setIfInBounds_toArray, List.set_cons_zero, List.set_cons_succ]; rw [h0]) rfl (Below.refl _ _) hI
        refine EachOp.cons 10 rfl (fun x W hI H K hK => ?_) ?_
        · have h0 : x 2 = .string ⟨Lx.toArray⟩ := H 2 (.edge (by kernel_rfl))
          clear H
          simp only [putAll, Act.put, List.setIfInBounds_toArray, List.set_cons_zero, List.set_cons_succ]
          rw [h0]
          go_simp
          exact hK.out _ _ _ (by simp only [putAll, Act.put, List.setIfInBounds_toArray, List.set_cons_zero, List.set_cons_succ]; rw [h0]) rfl (Below.refl _ _) hI
        refine EachOp.cons 11 rfl (fun x W hI H K hK => ?_) ?_
        · have h0 : x 5 = .string ⟨Ly.toArray⟩ := H 5 (.edge (by kernel_rfl))
          clear H
          simp only [putAll, Act.put, List.setIfInBounds_toArray, List.set_cons_zero, List.set_cons_succ]
          rw [h0]
          go_simp
          exact hK.out _ _ _ (by simp only [putAll, Act.put, List.setIfInBounds_toArray, List.set_cons_zero, List.set_cons_succ]; rw [h0]) rfl (Below.refl _ _) hI
        refine EachOp.cons 12 rfl (fun x W hI H K hK => ?_) ?_
        · have h0 : x 8 = .string ⟨Lz.toArray⟩ := H 8 (.edge (by kernel_rfl))
          clear H
          simp only [putAll, Act.put, List.setIfInBounds_toArray, List.set_cons_zero, List.set_cons_succ]
          rw [h0]
          go_simp
          exact hK.out _ _ _ (by simp only [putAll, Act.put, List.setIfInBounds_toArray, List.set_cons_zero, List.set_cons_succ]; rw [h0]) rfl (Below.refl _ _) hI
        exact EachOp.nil
      · intro x W hI H
        have h9 : x 9 = .string ⟨Lx.toArray⟩ := H 9 (of_decide_eq_true (by kernel_rfl))
        have h10 : x 10 = .string ⟨Ly.toArray⟩ := H 10 (of_decide_eq_true (by kernel_rfl))
        have h11 : x 11 = .string ⟨Lz.toArray⟩ := H 11 (of_decide_eq_true (by kernel_rfl))
        clear H
        simp only [putAll, Act.put, List.setIfInBounds_toArray, List.set_cons_zero, List.set_cons_succ]
        rw [h9, h10, h11]
        have HI := Lib.hid (HB06.out.trans (hI.mono (by omega)))
        clear hI h9 h10 h11 HU6 HV6 HW6 HB06
        obtain ⟨a, b, ea, eb, hno, hiff⟩ := HLZ.out
        have hle1 : Lz.length ≤ Lx.length := by rw [ea]; simp
        have hle2 : Lz.length ≤ Ly.length := by rw [eb]; simp
        have he1 : ((⟨Lx.toArray⟩ : ByteArray).extract 0 Lz.length).toList = Lz := by rw [str_upto, ea]; simp
        have he2 : ((⟨Ly.toArray⟩ : ByteArray).extract 0 Lz.length).toList = Lz := by rw [str_upto, eb]; simp
        have HNO := Lib.hid hno
        clear ea eb hno HLZ
        by_cases h1 : zs.length < xs.length
        · by_cases h2 : zs.length < ys.length
          · have hxy : (Lx == Ly) = false := beq_eq_false_iff_ne.2 fun e => by have := hiff.2 e; omega
            clear hiff
            have hyz : ((ys.length : Int) == (zs.length : Int)) = false := beq_eq_false_iff_ne.2 (by omega)
            by_cases hm : Ly.length < Lx.length
            · have hu1 := run_upto Lx Ly.length (by omega)
              have hu2 := run_upto Ly Ly.length (by omega)
              have hne : (Lx.take Ly.length == Ly.take Ly.length) = false := beq_eq_false_iff_ne.2 (HNO.out h1 h2 _ (by omega))
              rw [List.take_length] at hne hu2
              go_wp2_with fail
              go_quiet (fail)
              go_wp2_with fail
              refine (codeAwake _).mono ?_
              rintro e w' ⟨rfl, hb⟩
              go_wp2
              go_ret
              exact ⟨rfl, (below_drewN HI.out nq).trans (hb.mono HI.out.size)⟩
            · have hu1 := run_upto Ly Lx.length (by omega)
              have hu2 := run_upto Lx Lx.length (by omega)
              have hne : (Lx.take Lx.length == Ly.take Lx.length) = false := beq_eq_false_iff_ne.2 (HNO.out h1 h2 _ (by omega))
              rw [List.take_length] at hne hu2
              go_wp2_with fail
              go_quiet (fail)
              go_wp2_with fail
              refine (codeAwake _).mono ?_
              rintro e w' ⟨rfl, hb⟩
              go_wp2
              go_ret
              exact ⟨rfl, (below_drewN HI.out nq).trans (hb.mono HI.out.size)⟩
          · have hxy : (Lx == Ly) = false := beq_eq_false_iff_ne.2 fun e => by have := hiff.2 e; omega
            clear hiff
            go_wp2_with fail
            all_goals
              go_region
              go_wp2_with fail
              refine (codeAwake _).mono ?_
              rintro e w' ⟨rfl, hb⟩
              go_wp2
              go_ret
              exact ⟨rfl, HI.out.drew.trans (hb.mono HI.out.size)⟩
        · by_cases h2 : zs.length < ys.length
          · have hxy : (Lx == Ly) = false := beq_eq_false_iff_ne.2 fun e => by have := hiff.2 e; omega
            clear hiff
            have hyz : ((ys.length : Int) == (zs.length : Int)) = false := beq_eq_false_iff_ne.2 (by omega)
            go_wp2_with fail
            all_goals
              go_region
              go_wp2_with fail
              refine (codeAwake _).mono ?_
              rintro e w' ⟨rfl, hb⟩
              go_wp2
              go_ret
              exact ⟨rfl, HI.out.drew.trans (hb.mono HI.out.size)⟩
          · obtain rfl : Lx = Ly := hiff.1 ⟨by omega, by omega⟩
            clear hiff
            go_wp2_with fail
            all_goals
              go_region
              go_wp2_with fail
              refine (codeAwake _).mono ?_
              rintro e w' ⟨rfl, hb⟩
              go_wp2
              go_ret
              exact ⟨rfl, HI.out.drew.trans (hb.mono HI.out.size)⟩
end Go.Proofs.Ytkjficbegjhefaa
