/- The walk of the laws' own helper 'turn': bits are turned, if the places are places and no two are one. -/
import Derived.Test.YtmjhdjiglnkoiaaDoorSumLaw2
import Derived.Test.YtmjhdjiglnkoiaaDoorCrcBits
import Derived.BigRegion
import Derived.OpenShut
import Derived.Deep.RegionHeld3
namespace Go.Proofs.YtmjhdjiglnkoiaaDoor
open Go Go.RowKit
set_option linter.unusedVariables false

/-- may these bits be turned? -/
def Turnable (n : Nat) (zs : List Int) : Prop := (∀ z ∈ zs, 0 ≤ z ∧ z < 8 * n) ∧ zs.Nodup

theorem xor_bit (z : UInt8) (p : Nat) : bits .xor .u8 (z.toNat : Int) ((2 : Int) ^ (p % 8) % 256) = ((z ^^^ UInt8.ofNat (2 ^ (p % 8))).toNat : Int) := by
  have hz := z.toNat_lt
  have h1 : (2 : Nat) ^ (p % 8) < 256 := Nat.lt_of_lt_of_le (Nat.pow_lt_pow_right (by omega) (show p % 8 < 8 by omega)) (by decide)
  rw [show ((2 : Int) ^ (p % 8) % 256) = ((2 ^ (p % 8) : Nat) : Int) by rw [show ((2 : Int) ^ (p % 8)) = ((2 ^ (p % 8) : Nat) : Int) by simp]; generalize 2 ^ (p % 8) = q at *; omega, u8_xor_nat _ _ (by omega) h1, UInt8.toNat_xor, UInt8.toNat_ofNat', Nat.mod_eq_of_lt h1]

theorem grown_setCell {a w : World} {g : Nat} (h : a.grownBy w (some g)) (o : Nat) (u : Value) : a.grownBy (w.setCell ⟨g, o, none⟩ u) (some g) :=
  ⟨h.os, h.tape, h.output, by simpa [World.setCell] using h.size, fun i hi hne => (Below.heap_setCell w ⟨g, o, none⟩ u i (fun e => hne (by rw [e]))).trans (h.block i hi hne)⟩
theorem grown_drew {a w : World} {row : Option Nat} (h : a.grownBy w row) : a.grownBy w.drew row := ⟨h.os, h.tape, h.output, h.size, h.block⟩
theorem grown_of_below {a w : World} (h : Below a.heap.size a w) (row : Option Nat) : a.grownBy w row := ⟨h.os, h.tape, h.output, h.size, fun i hi _ => h.block i hi⟩

set_option maxHeartbeats 800000 in
theorem turn_gen (w : World) (base B : Nat) (A A' : Option Addr) (c c' : Nat) (l : List UInt8) (zs : List Int) (hO : Own w base (.slice A l.length c) l) (hA : Has w B A' (zs.map (Value.int .i64))) (hB : B ≤ w.heap.size) (hsep : 0 < zs.length → ∀ g g' o' : Nat, A = some ⟨g, 0, none⟩ → A' = some ⟨g', o', none⟩ → g' ≠ g) (hl : l.length ≤ 100000000)
    (hz : zs.length ≤ 140737488355328) (hT : Turnable l.length zs) :
    Calls Tryd.prog 21 #[.slice A l.length c, .slice A' zs.length c'] w fun e w' => e = .returned (.bool true) ∧ Own w' base (.slice A l.length c) (Crc.flips l (zs.map Int.toNat)) ∧ w.grownBy w' (Value.slice A l.length c).ownBlock := by
  have HO := Lib.hid hO
  have HA := Lib.hid hA
  have HTr := Lib.hid hT
  have HSep := Lib.hid hsep
  clear hO hA hT hsep
  go_enter Tryd.func21, Tryd.ntmps21
  go_wp2
  go_loopw [5] (fun i wr => ∃ k : Nat, k ≤ zs.length ∧ i = .int .i64 k ∧ Hid (Below w.heap.size w wr)) (fun i _ => zs.length - (intOf i).toNat)
  case atStart => exact ⟨0, Nat.zero_le _, rfl, Lib.hid (Below.refl _ _)⟩
  case round =>
    obtain ⟨k, hk, rfl, HB⟩ := hrel
    by_cases hkt : k < zs.length
    · obtain ⟨g, o, rfl, hg, hc1⟩ := HA.out.at_ (show k < (zs.map (Value.int .i64)).length by simpa using hkt)
      rw [List.getElem_map] at hc1
      have hz1 := HTr.out.1 zs[k] (List.getElem_mem hkt)
      have HN := Lib.hid (show ∀ j (hj : j < k), zs[j]'(by omega) ≠ zs[k] from fun j hj => by
        have := List.pairwise_iff_getElem.1 HTr.out.2 j k (by omega) hkt hj
        exact this)
      have hcz : wr.cell? ⟨g, o + k, none⟩ = some (.int .i64 zs[k]) := by rw [HB.out.cell (p := ⟨g, o + k, none⟩) (show g < w.heap.size from Nat.lt_of_lt_of_le hg hB), hc1]
      obtain ⟨z, HZ⟩ : ∃ z, Hid (zs[k] = z) := ⟨_, Lib.hid rfl⟩
      rw [HZ.out] at hz1 hcz
      obtain ⟨hz2, hz3⟩ := hz1
      clear hc1
      obtain ⟨wo, rfl⟩ : ∃ wo : World, wo = wr := ⟨_, rfl⟩
      go_wp2
      go_loopw [6] (fun i wr => ∃ j : Nat, j ≤ k ∧ i = .int .i64 j ∧ Hid (Below w.heap.size w wr)) (fun i _ => k - (intOf i).toNat)
      case atStart => exact ⟨0, Nat.zero_le _, rfl, HB⟩
      case round =>
        obtain ⟨j, hj, rfl, HB2⟩ := hrel
        by_cases hjt : j < k
        · have hc2 := HA.out j (.int .i64 (zs[j]'(by omega))) (by rw [List.getElem?_map, List.getElem?_eq_getElem (by omega)]; rfl)
          simp only [Option.some.injEq, Addr.mk.injEq, and_true] at hc2
          obtain ⟨_, _, ⟨rfl, rfl⟩, _, hc2⟩ := hc2
          have hlt : g < w.heap.size := Nat.lt_of_lt_of_le hg hB
          have hcj : wr.cell? ⟨g, o + j, none⟩ = some (.int .i64 (zs[j]'(by omega))) := by rw [HB2.out.cell (p := ⟨g, o + j, none⟩) hlt, hc2]
          have hck : wr.cell? ⟨g, o + k, none⟩ = some (.int .i64 z) := by rw [HB2.out.cell (p := ⟨g, o + k, none⟩) hlt, ← HB.out.cell (p := ⟨g, o + k, none⟩) hlt, hcz]
          have hne : ((zs[j]'(by omega)) == z) = false := by
            have := HN.out j hjt
            rw [HZ.out] at this
            simpa using this
          generalize (zs[j]'(by omega)) = zj at *
          clear hc2 hcz
          have i0 : (0 : Int) ≤ (j : Int) := by omega
          have i1 : (j : Int) < (zs.length : Int) := by omega
          have i2 : (0 : Int) ≤ (k : Int) := by omega
          have i3 : (k : Int) < (zs.length : Int) := by omega
          go_wp2
          go_quiet (fail)
          go_wp2
          go_roundw
          case rel => exact ⟨j + 1, by omega, by go_num, Lib.hid (below_drewN HB2.out nq)⟩
          case measure => simp [intOf]; omega
        · clear hcz
          go_wp2
          go_roundw
          case rel => exact ⟨k + 1, by omega, by go_num, HB2⟩
          case measure => simp [intOf]; omega
    · obtain ⟨wo, rfl⟩ : ∃ wo : World, wo = wr := ⟨_, rfl⟩
      go_wp2
      go_loopw [7] (fun i wr => ∃ k : Nat, k ≤ zs.length ∧ i = .int .i64 k ∧ Hid (Own wr base (.slice A l.length c) (Crc.flips l ((zs.take k).map Int.toNat))) ∧ Hid (w.grownBy wr (Value.slice A l.length c).ownBlock)) (fun i _ => zs.length - (intOf i).toNat)
      case atStart => exact ⟨0, Nat.zero_le _, rfl, Lib.hid (own_below HO.out HB.out (Nat.le_refl _)), Lib.hid (grown_of_below HB.out _)⟩
      case round =>
        obtain ⟨k, hk, rfl, HO, HB2⟩ := hrel
        by_cases hkt : k < zs.length
        · obtain ⟨g, o, rfl, hg, hc1⟩ := HA.out.at_ (show k < (zs.map (Value.int .i64)).length by simpa using hkt)
          rw [List.getElem_map] at hc1
          have hz1 := HTr.out.1 zs[k] (List.getElem_mem hkt)
          obtain ⟨p, hp⟩ : ∃ p : Nat, zs[k] = (p : Int) := ⟨zs[k].toNat, by omega⟩
          have HF := Lib.hid (show Crc.flips l ((zs.take (k + 1)).map Int.toNat) = Crc.flip (Crc.flips l ((zs.take k).map Int.toNat)) p by
            rw [List.take_succ_eq_append_getElem hkt, List.map_append, hp]
            simp [Crc.flips])
          rw [hp] at hc1 hz1
          clear hp
          have hp8 : p < 8 * l.length := by omega
          have hlen : (Crc.flips l ((zs.take k).map Int.toNat)).length = l.length := Crc.flips_length _ _
          generalize Crc.flips l ((zs.take k).map Int.toNat) = y at *
          obtain ⟨gx, rfl, hgx, hgx2, hcx, hfx, hst⟩ := HO.out.at_ (k := p / 8) (by omega)
          have hcz : wr.cell? ⟨g, o + k, none⟩ = some (.int .i64 p) := by rw [HB2.out.cell_far ⟨g, o + k, none⟩ (show g < w.heap.size by omega) (by simp only [Value.ownBlock, ne_eq, Option.some.injEq]; exact HSep.out (by omega) gx g o rfl rfl), hc1]
          have HST := Lib.hid (hst (y[p / 8]'(by omega) ^^^ UInt8.ofNat (2 ^ (p % 8))))
          have HY := Lib.hid (show Crc.flip y p = y.set (p / 8) (y[p / 8]'(by omega) ^^^ UInt8.ofNat (2 ^ (p % 8))) by
            unfold Crc.flip
            rw [List.getD_eq_getElem?_getD, List.getElem?_eq_getElem (by omega)]; rfl)
          have hbt := (y[p / 8]'(by omega)).toNat_lt
          generalize (y[p / 8]'(by omega)) = z at *
          have HL := Lib.hid hlen
          clear hlen hst hc1 hz1
          have i0 : (0 : Int) ≤ (p : Int) / 8 := by omega
          have i1 : (p : Int) / 8 < (l.length : Int) := by omega
          have i2 : (0 : Int) ≤ (p : Int) % 8 := by omega
          have i3 : (p : Int) % 8 < 8 := by omega
          have i4 : (0 : Int) ≤ (k : Int) := by omega
          have i5 : (k : Int) < (zs.length : Int) := by omega
          go_wp2
          go_region
          go_wp2
          go_roundw
          case rel => exact ⟨k + 1, by omega, by go_num, by rw [HF.out, HY.out, xor_bit]; exact HST, by rw [xor_bit]; exact Lib.hid (grown_drew (grown_setCell HB2.out _ _))⟩
          case measure => simp [intOf]; omega
        · have hke : k = zs.length := by omega
          have HE := Lib.hid (show zs.take k = zs by rw [hke, List.take_length])
          clear hke
          go_wp2
          go_ret
          exact ⟨rfl, by rw [← HE.out]; exact HO.out, HB2.out⟩

theorem turn_any (w : World) (base B : Nat) (A A' : Option Addr) (c c' : Nat) (l : List UInt8) (zs : List Int) (hO : Own w base (.slice A l.length c) l) (hA : Has w B A' (zs.map (Value.int .i64))) (hB : B ≤ base) (hbase : base ≤ w.heap.size) (hl : l.length ≤ 100000000)
    (hz : zs.length ≤ 140737488355328) (hT : Turnable l.length zs) :
    Calls Tryd.prog 21 #[.slice A l.length c, .slice A' zs.length c'] w fun e w' => e = .returned (.bool true) ∧ Own w' base (.slice A l.length c) (Crc.flips l (zs.map Int.toNat)) ∧ Below base w w' := by
  refine (turn_gen w base B A A' c c' l zs hO hA (Nat.le_trans hB hbase) (fun h0 g g' o' e e' => ?_) hl hz hT).mono fun e w' ⟨he, ho, hg⟩ => ⟨he, ho, (Below.refl _ _).grown hg hbase (fun k hk => (hO.lt k hk).1)⟩
  subst e
  obtain ⟨b, o, e2, hb, _⟩ := hA.at_ (show 0 < (zs.map (Value.int .i64)).length by simpa using h0)
  rw [e'] at e2
  injection e2 with e2
  injection e2 with e2 _
  have := (hO.lt g rfl).1
  omega
theorem turnable_snoc {n : Nat} {zs : List Int} {k : Nat} (hk : k < zs.length) (h : Turnable n (zs.take k)) (h0 : 0 ≤ zs[k]) (h1 : zs[k] < 8 * n) (h2 : ∀ j (hj : j < k), zs[j]'(by omega) ≠ zs[k]) : Turnable n (zs.take (k + 1)) := by
  rw [List.take_succ_eq_append_getElem hk]
  refine ⟨fun z hz => ?_, ?_⟩
  · rcases List.mem_append.1 hz with hz | hz
    · exact h.1 z hz
    · simp at hz; subst hz; exact ⟨h0, h1⟩
  · rw [List.nodup_append]
    refine ⟨h.2, by simp, fun a ha b hb => ?_⟩
    simp at hb
    subst hb
    obtain ⟨j, hj, rfl⟩ := List.mem_iff_getElem.1 ha
    rw [List.getElem_take]
    rw [List.length_take] at hj
    exact h2 j (by omega)

set_option maxHeartbeats 800000 in
theorem turn_no (w : World) (B : Nat) (A A' : Option Addr) (n c c' : Nat) (zs : List Int) (hA : Has w B A' (zs.map (Value.int .i64))) (hB : B ≤ w.heap.size) (hl : n ≤ 100000000)
    (hz : zs.length ≤ 140737488355328) (hwf : ∀ z ∈ zs, (Lit.int .i64 z).wf = true) (hT : ¬ Turnable n zs) :
    Calls Tryd.prog 21 #[.slice A n c, .slice A' zs.length c'] w fun e w' => e = .returned (.bool false) ∧ Below w.heap.size w w' := by
  have HA := Lib.hid hA
  have HTr := Lib.hid hT
  have HW := Lib.hid hwf
  clear hA hT hwf
  go_enter Tryd.func21, Tryd.ntmps21
  go_wp2
  go_loopw [5] (fun i wr => ∃ k : Nat, k ≤ zs.length ∧ i = .int .i64 k ∧ Hid (Turnable n (zs.take k)) ∧ Hid (Below w.heap.size w wr)) (fun i _ => zs.length - (intOf i).toNat)
  case atStart => exact ⟨0, Nat.zero_le _, rfl, Lib.hid ⟨by simp, by simp⟩, Lib.hid (Below.refl _ _)⟩
  case round =>
    obtain ⟨k, hk, rfl, HTk, HB⟩ := hrel
    by_cases hkt : k < zs.length
    · obtain ⟨g, o, rfl, hg, hc1⟩ := HA.out.at_ (show k < (zs.map (Value.int .i64)).length by simpa using hkt)
      rw [List.getElem_map] at hc1
      have hcz : wr.cell? ⟨g, o + k, none⟩ = some (.int .i64 zs[k]) := by rw [HB.out.cell (p := ⟨g, o + k, none⟩) (show g < w.heap.size from Nat.lt_of_lt_of_le hg hB), hc1]
      have HSn := Lib.hid (turnable_snoc hkt HTk.out)
      obtain ⟨z, HZ⟩ : ∃ z, Hid (zs[k] = z) := ⟨_, Lib.hid rfl⟩
      have hb64 := bounds_i64 (HW.out zs[k] (List.getElem_mem hkt))
      rw [HZ.out] at hcz hb64
      clear hc1
      obtain ⟨hb1, hb2⟩ := hb64
      obtain ⟨wo, rfl⟩ : ∃ wo : World, wo = wr := ⟨_, rfl⟩
      by_cases h0 : z < 0
      · go_wp2
        go_ret
        exact ⟨rfl, HB.out⟩
      · by_cases h8 : 8 * (n : Int) ≤ z
        · go_wp2
          go_ret
          exact ⟨rfl, HB.out⟩
        · go_wp2
          go_loopw [6] (fun i wr => ∃ j : Nat, j ≤ k ∧ i = .int .i64 j ∧ Hid (∀ i (hi : i < j) (hl : i < zs.length), zs[i] ≠ z) ∧ Hid (Below w.heap.size w wr)) (fun i _ => k - (intOf i).toNat)
          case atStart => exact ⟨0, Nat.zero_le _, rfl, Lib.hid (fun i hi => by omega), HB⟩
          case round =>
            obtain ⟨j, hj, rfl, HN, HB2⟩ := hrel
            by_cases hjt : j < k
            · have hc2 := HA.out j (.int .i64 (zs[j]'(by omega))) (by rw [List.getElem?_map, List.getElem?_eq_getElem (by omega)]; rfl)
              simp only [Option.some.injEq, Addr.mk.injEq, and_true] at hc2
              obtain ⟨_, _, ⟨rfl, rfl⟩, _, hc2⟩ := hc2
              have hlt : g < w.heap.size := Nat.lt_of_lt_of_le hg hB
              have hcj : wr.cell? ⟨g, o + j, none⟩ = some (.int .i64 (zs[j]'(by omega))) := by rw [HB2.out.cell (p := ⟨g, o + j, none⟩) hlt, hc2]
              have hck : wr.cell? ⟨g, o + k, none⟩ = some (.int .i64 z) := by rw [HB2.out.cell (p := ⟨g, o + k, none⟩) hlt, ← HB.out.cell (p := ⟨g, o + k, none⟩) hlt, hcz]
              obtain ⟨zj, HZj⟩ : ∃ zj, Hid (zs[j]'(by omega) = zj) := ⟨_, Lib.hid rfl⟩
              rw [HZj.out] at hcj
              clear hc2 hcz
              have i0 : (0 : Int) ≤ (j : Int) := by omega
              have i1 : (j : Int) < (zs.length : Int) := by omega
              have i2 : (0 : Int) ≤ (k : Int) := by omega
              have i3 : (k : Int) < (zs.length : Int) := by omega
              by_cases heq : zj = z
              · subst heq
                go_wp2
                go_quiet (fail)
                go_wp2
                go_ret
                exact ⟨rfl, below_drewN HB2.out nq⟩
              · have hne : (zj == z) = false := by simpa using heq
                have HN2 := Lib.hid (show ∀ i (hi : i < j + 1) (hl : i < zs.length), zs[i] ≠ z from fun i hi hl => by
                  by_cases e : i = j
                  · subst e; rw [HZj.out]; exact heq
                  · exact HN.out i (by omega) hl)
                clear heq
                go_wp2
                go_quiet (fail)
                go_wp2
                go_roundw
                case rel => exact ⟨j + 1, by omega, by go_num, HN2, Lib.hid (below_drewN HB2.out nq)⟩
                case measure => simp [intOf]; omega
            · clear hcz
              have HN3 := Lib.hid (show Turnable n (zs.take (k + 1)) from HSn.out (by rw [HZ.out]; omega) (by rw [HZ.out]; omega) (fun i hi => by rw [HZ.out]; exact HN.out i (by omega) (by omega)))
              go_wp2
              go_roundw
              case rel => exact ⟨k + 1, by omega, by go_num, HN3, HB2⟩
              case measure => simp [intOf]; omega
    · exfalso
      have hke : k = zs.length := by omega
      have h1 := HTk.out
      rw [hke, List.take_length] at h1
      exact HTr.out h1
end Go.Proofs.YtmjhdjiglnkoiaaDoor
