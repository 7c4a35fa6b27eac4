/- The walk of the law FrameSpoilt. -/
import Derived.Test.YtcjafbpgjlcdpaaDoorFrmW
import Derived.Test.YtcjafbpgjlcdpaaDoorRgF
import Derived.BigRegion
import Derived.OpenShut
import Derived.Deep.RegionHeld3
namespace Go.Proofs.YtcjafbpgjlcdpaaDoor
open Go Go.RowKit
set_option linter.unusedVariables false
set_option maxRecDepth 100000
set_option linter.unusedSimpArgs false

/-- may these bits be turned? -/
def Turnable (n : Nat) (zs : List Int) : Prop := (∀ z ∈ zs, 0 ≤ z ∧ z < 8 * n) ∧ zs.Nodup
theorem xor_bit (z : UInt8) (p : Nat) : bits .xor .u8 (z.toNat : Int) ((2 : Int) ^ (p % 8) % 256) = ((z ^^^ UInt8.ofNat (2 ^ (p % 8))).toNat : Int) := by
  have hz := z.toNat_lt
  have h1 : (2 : Nat) ^ (p % 8) < 256 := Nat.lt_of_lt_of_le (Nat.pow_lt_pow_right (by omega) (show p % 8 < 8 by omega)) (by decide)
  rw [show ((2 : Int) ^ (p % 8) % 256) = ((2 ^ (p % 8) : Nat) : Int) by rw [show ((2 : Int) ^ (p % 8)) = ((2 ^ (p % 8) : Nat) : Int) by simp]; generalize 2 ^ (p % 8) = q at *; omega, u8_xor_nat _ _ (by omega) h1, UInt8.toNat_xor, UInt8.toNat_ofNat', Nat.mod_eq_of_lt h1]
theorem grown_setCell {a w : World} {g : Nat} (h : a.grownBy w (some g)) (o : Nat) (u : Value) : a.grownBy (w.setCell ⟨g, o, none⟩ u) (some g) :=
  ⟨h.os, h.tape, h.output, by simpa [World.setCell] using h.size, fun i hi hne => (Below.heap_setCell w ⟨g, o, none⟩ u i (fun e => hne (by rw [e]))).trans (h.block i hi hne)⟩
theorem turnable_snoc {n : Nat} {zs : List Int} {k : Nat} (hk : k < zs.length) (h : Turnable n (zs.take k)) (h0 : 0 ≤ zs[k]) (h1 : zs[k] < 8 * n) (h2 : ∀ j (hj : j < k), zs[j]'(by omega) ≠ zs[k]) : Turnable n (zs.take (k + 1)) := by
  rw [List.take_succ_eq_append_getElem hk]
  refine ⟨fun z hz => ?_, ?_⟩
  · rcases List.mem_append.1 hz with hz | hz
    · exact h.1 z hz
    · simp at hz; subst hz; exact ⟨h0, h1⟩
  · rw [List.nodup_append]
    refine ⟨h.2, by simp, fun a ha b hb => ?_⟩
    simp at hb
    subst hb
    obtain ⟨j, hj, rfl⟩ := List.mem_iff_getElem.1 ha
    rw [List.getElem_take]
    rw [List.length_take] at hj
    exact h2 j (by omega)

theorem has_cell {w : World} {B b o j : Nat} {xs : List Value} {u : Value} (h : Has w B (some ⟨b, o, none⟩) xs) (hj : xs[j]? = some u) : w.cell? ⟨b, o + j, none⟩ = some u := by
  obtain ⟨b', o', e, _, hc⟩ := h j u hj
  injection e with e
  injection e with e1 e2
  rw [e1, e2]
  exact hc
theorem nodup_toNat {zs : List Int} (h0 : ∀ z ∈ zs, 0 ≤ z) (h : zs.Nodup) : (zs.map Int.toNat).Nodup := by
  induction zs with
  | nil => simp
  | cons z zs ih =>
    obtain ⟨h1, h2⟩ := List.nodup_cons.1 h
    rw [List.map_cons, List.nodup_cons]
    refine ⟨fun hm => ?_, ih (fun x hx => h0 x (List.mem_cons_of_mem _ hx)) h2⟩
    obtain ⟨y, hy, he⟩ := List.mem_map.1 hm
    have := h0 y (List.mem_cons_of_mem _ hy)
    have := h0 z (by simp)
    have e : y = z := by omega
    subst e
    exact h1 hy
theorem spoilt_ints (b : List UInt8) (zs : List Int) (hb : b.length ≤ 65532) (h : Turnable (Crc.sealed b).length zs) (h1 : 1 ≤ zs.length) (h3 : zs.length ≤ 3) : Crc.opened (Crc.flips (Crc.sealed b) (zs.map Int.toNat)) = none := by
  apply Crc.spoilt b _ hb
  · intro p hp
    obtain ⟨z, hz, rfl⟩ := List.mem_map.1 hp
    have := h.1 z hz
    omega
  · exact nodup_toNat (fun z hz => (h.1 z hz).1) h.2
  · simpa using h1
  · simpa using h3

theorem not_isFr {b : List UInt8} (h : Crc.opened b = none) (f : Fr) : ¬ IsFr b f := fun hf => by
  rw [isFr_opened hf] at h
  cases h
set_option maxHeartbeats 6400000 in
theorem frameSpoilt_walk (w : World) (hT : Table w) (kind fr to : Int) (inc conn pinc pconn ack seq : Nat) (A : Option Addr) (c : Nat) (body : List UInt8) (A1 : Option Addr) (c1 : Nat) (zs : List Int) (hA : Has w w.heap.size A (us body)) (hx : inc < 18446744073709551616 ∧ conn < 18446744073709551616 ∧ pinc < 18446744073709551616 ∧ pconn < 18446744073709551616 ∧ ack < 18446744073709551616 ∧ seq < 18446744073709551616) (hc : body.length ≤ c) (hm : c ≤ maxLen) (hr : body.length ≤ 140737488355328) (hA1 : Has w w.heap.size A1 (zs.map (Value.int .i64))) (hc1 : zs.length ≤ c1) (hm1 : c1 ≤ maxLen) (hr1 : zs.length ≤ 140737488355328) (hwf1 : ∀ n ∈ zs, (Lit.int .i64 n).wf = true) :
    Calls Tryd.prog 8 #[.agg ((Fr.mk kind fr to inc conn pinc pconn ack seq body).cells A c), .slice A1 zs.length c1] w fun e w' => e = .returned (.bool true) ∧ Below w.heap.size w w' := by
  have HT := Lib.hid hT
  have HA := Lib.hid hA
  have HA1 := Lib.hid hA1
  have HW := Lib.hid hwf1
  have HL : Hid (body.length ≤ maxLen) := Lib.hid (Nat.le_trans hc hm)
  clear hT hA hc hm hx hr hA1 hm1 hc1 hwf1
  have HS0 := Lib.hid (show Sep w (w.alloc (.cells #[.int .i64 kind, .int .i64 fr, .int .i64 to, .int .u64 (inc : Int), .int .u64 (conn : Int), .int .u64 (pinc : Int), .int .u64 (pconn : Int), .int .u64 (ack : Int), .int .u64 (seq : Int), .slice A body.length c] 25)) [Ce w.heap.size 25 #[.int .i64 kind, .int .i64 fr, .int .i64 to, .int .u64 (inc : Int), .int .u64 (conn : Int), .int .u64 (pinc : Int), .int .u64 (pconn : Int), .int .u64 (ack : Int), .int .u64 (seq : Int), .slice A body.length c]] from sep_ce (Sep.nil w) #[.int .i64 kind, .int .i64 fr, .int .i64 to, .int .u64 (inc : Int), .int .u64 (conn : Int), .int .u64 (pinc : Int), .int .u64 (pconn : Int), .int .u64 (ack : Int), .int .u64 (seq : Int), .slice A body.length c] 25)
  by_cases hmy : (Fr.mk kind fr to inc conn pinc pconn ack seq body).may = true
  · have HM := Lib.hid hmy
    clear hmy
    have he := encode_yes (w.alloc (.cells #[.int .i64 kind, .int .i64 fr, .int .i64 to, .int .u64 (inc : Int), .int .u64 (conn : Int), .int .u64 (pinc : Int), .int .u64 (pconn : Int), .int .u64 (ack : Int), .int .u64 (seq : Int), .slice A body.length c] 25)) (HT.out.alloc _) w.heap.size (Fr.mk kind fr to inc conn pinc pconn ack seq body) A c (HA.out.alloc (Nat.le_refl _) _) (le_alloc (Nat.le_refl _) _) HM.out
    simp only [Fr.cells] at he ⊢
    go_enter Tryd.func8, Tryd.ntmps8
    go_wp2_with fail
    refine he.mono ?_
    clear he
    rintro e w1 ⟨v1, rfl, ho1, hb1⟩
    have HS1 := Lib.hid (show Sep w w1 [Ce w.heap.size 25 #[.int .i64 kind, .int .i64 fr, .int .i64 to, .int .u64 (inc : Int), .int .u64 (conn : Int), .int .u64 (pinc : Int), .int .u64 (pconn : Int), .int .u64 (ack : Int), .int .u64 (seq : Int), .slice A body.length c], By v1 (Crc.sealed (Fr.mk kind fr to inc conn pinc pconn ack seq body).plain)] from sep_new5 HS0.out ho1 hb1)
    clear HS0 ho1 hb1
    have hpl := Fr.plain_len HM.out
    have hsl := sealed_len (Fr.mk kind fr to inc conn pinc pconn ack seq body).plain
    obtain ⟨PL, HPL⟩ : ∃ L, Hid ((Fr.mk kind fr to inc conn pinc pconn ack seq body).plain = L) := ⟨_, Lib.hid rfl⟩
    rw [HPL.out] at HS1 hpl hsl
    obtain ⟨Lb, HLb⟩ : ∃ L, Hid (Crc.sealed PL = L) := ⟨_, Lib.hid rfl⟩
    rw [HLb.out] at HS1 hsl
    have hLb : Lb.length ≤ 504 := by omega
    have hLb4 : 4 ≤ Lb.length := by omega
    obtain ⟨n, HN⟩ : ∃ n, Hid (Lb.length = n) := ⟨_, Lib.hid rfl⟩
    obtain ⟨Av, cv, rfl, h11, h12, _⟩ := sep_byForm (i := 1) HS1.out rfl
    rw [HN.out] at hLb hLb4 h11 HS1 ⊢
    clear hsl
    by_cases hz1 : zs.length < 1
    · go_wp2_with fail
      refine (awake5 _ (HT.out.below HS1.out.bel HT.out.lt)).mono ?_
      rintro e w6 ⟨rfl, hb6⟩
      go_wp2_with fail
      go_ret
      exact ⟨rfl, HS1.out.bel.trans (hb6.mono HS1.out.size)⟩
    · by_cases hz3 : 3 < zs.length
      · go_wp2_with fail
        refine (awake5 _ (HT.out.below HS1.out.bel HT.out.lt)).mono ?_
        rintro e w6 ⟨rfl, hb6⟩
        go_wp2_with fail
        go_ret
        exact ⟨rfl, HS1.out.bel.trans (hb6.mono HS1.out.size)⟩
      · obtain ⟨g', o', rfl, hg', _⟩ := HA1.out.at_ (show 0 < (zs.map (Value.int .i64)).length by simp; omega)
        obtain ⟨zn, HZN⟩ : ∃ n, Hid (zs.length = n) := ⟨_, Lib.hid rfl⟩
        rw [HZN.out] at hz1 hz3 ⊢
        have en : (((n : Nat) : Int) == 0) = false := by simp; omega
        have en1 : decide (((zn : Nat) : Int) < 1) = false := decide_eq_false (by omega)
        have en3 : decide ((3 : Int) < ((zn : Nat) : Int)) = false := decide_eq_false (by omega)
        go_wp2_with fail
        clear h12 en en1 en3
        go_loopw [7] (fun iv wr => ∃ k : Nat, k ≤ zn ∧ iv = .int .i64 (k : Int) ∧ Hid (Turnable n (zs.take k)) ∧ Hid (Sep w wr [Ce w.heap.size 25 #[.int .i64 kind, .int .i64 fr, .int .i64 to, .int .u64 (inc : Int), .int .u64 (conn : Int), .int .u64 (pinc : Int), .int .u64 (pconn : Int), .int .u64 (ack : Int), .int .u64 (seq : Int), .slice A body.length c], By (.slice Av n cv) (Crc.flips Lb ((zs.take k).map Int.toNat))])) (fun iv _ => zn - (intOf iv).toNat)
        case atStart => exact ⟨0, Nat.zero_le _, rfl, Lib.hid ⟨by simp, by simp⟩, HS1⟩
        case round =>
          obtain ⟨k, hk, rfl, HTk, HS⟩ := hrel
          by_cases hkt : k < zn
          · have hkl : k < zs.length := by rw [HZN.out]; exact hkt
            have HSn := Lib.hid (turnable_snoc hkl HTk.out)
            obtain ⟨z, HZ⟩ : ∃ z, Hid (zs[k] = z) := ⟨_, Lib.hid rfl⟩
            have hcz := has_cell (j := k) (u := .int .i64 z) (HS.out.has HA1.out) (by rw [List.getElem?_map, List.getElem?_eq_getElem hkl, HZ.out]; rfl)
            have hb64 := bounds_i64 (HW.out zs[k] (List.getElem_mem hkl))
            rw [HZ.out] at hb64
            obtain ⟨hb1, hb2⟩ := hb64
            have HKL := Lib.hid hkl
            have hkl2 : True := trivial
            by_cases h0 : z < 0
            · go_wp2_with fail
              refine (awake5 _ (HT.out.below HS.out.bel HT.out.lt)).mono ?_
              rintro e w6 ⟨rfl, hb6⟩
              go_wp2_with fail
              go_ret
              exact ⟨rfl, HS.out.bel.trans (hb6.mono HS.out.size)⟩
            · by_cases h8 : 8 * (n : Int) ≤ z
              · go_wp2_with fail
                refine (awake5 _ (HT.out.below HS.out.bel HT.out.lt)).mono ?_
                rintro e w6 ⟨rfl, hb6⟩
                go_wp2_with fail
                go_ret
                exact ⟨rfl, HS.out.bel.trans (hb6.mono HS.out.size)⟩
              · go_wp2_with fail
                obtain ⟨wo, HWO⟩ : ∃ wo : World, Hid (wo = wr) := ⟨_, Lib.hid rfl⟩
                rw [← HWO.out] at HS hcz ⊢
                clear HWO
                go_loopw [8] (fun iv wr => ∃ j m : Nat, j ≤ k ∧ iv = .int .i64 (j : Int) ∧ Hid (∀ i (hi : i < j) (hl : i < zs.length), zs[i] ≠ z) ∧ wr = wo.drewN m) (fun iv _ => k - (intOf iv).toNat)
                case atStart => exact ⟨0, 0, Nat.zero_le _, rfl, Lib.hid (fun i hi => by omega), rfl⟩
                case round =>
                  obtain ⟨j, m, hj, rfl, HNJ, rfl⟩ := hrel
                  by_cases hjt : j < k
                  · have hjl : j < zs.length := by have := HKL.out; omega
                    obtain ⟨zj, HZj⟩ : ∃ zj, Hid (zs[j] = zj) := ⟨_, Lib.hid rfl⟩
                    have hcj := has_cell (j := j) (u := .int .i64 zj) (HS.out.has HA1.out) (by rw [List.getElem?_map, List.getElem?_eq_getElem hjl, HZj.out]; rfl)
                    have hcj' : (wo.drewN m).cell? ⟨g', o' + j, none⟩ = some (.int .i64 zj) := hcj
                    have hcz' : (wo.drewN m).cell? ⟨g', o' + k, none⟩ = some (.int .i64 z) := hcz
                    have HSq := Lib.hid (HS.out.drewN m)
                    clear hcj hcz
                    obtain ⟨wq, HWQ⟩ : ∃ wq : World, Hid (wo.drewN m = wq) := ⟨_, Lib.hid rfl⟩
                    rw [HWQ.out] at hcj' hcz' HSq ⊢
                    have i0 : (0 : Int) ≤ (j : Int) := by omega
                    have i1 : (j : Int) < (zn : Int) := by omega
                    have i2 : (0 : Int) ≤ (k : Int) := by omega
                    have i3 : (k : Int) < (zn : Int) := by omega
                    by_cases heq : zj = z
                    · subst heq
                      go_wp2_with fail
                      go_quiet (fail)
                      go_wp2_with fail
                      have HS' := Lib.hid (HSq.out.drewN nq)
                      refine (awake5 _ (HT.out.below HS'.out.bel HT.out.lt)).mono ?_
                      rintro e w6 ⟨rfl, hb6⟩
                      go_wp2_with fail
                      go_ret
                      exact ⟨rfl, HS'.out.bel.trans (hb6.mono HS'.out.size)⟩
                    · have hne : (zj == z) = false := by simpa using heq
                      have HN2 := Lib.hid (show ∀ i (hi : i < j + 1) (hl : i < zs.length), zs[i] ≠ z from fun i hi hl => by
                        by_cases e : i = j
                        · subst e; rw [HZj.out]; exact heq
                        · exact HNJ.out i (by omega) hl)
                      clear heq
                      go_wp2_with fail
                      go_quiet (fail)
                      go_wp2_with fail
                      go_roundw
                      case rel => exact ⟨j + 1, m + nq, by omega, by go_num, HN2, by rw [← HWQ.out]; simp only [World.drewN_drewN]⟩
                      case measure => simp [intOf]; omega
                  · have HN3 := Lib.hid (show Turnable n (zs.take (k + 1)) from HSn.out (by rw [HZ.out]; omega) (by rw [HZ.out]; omega) (fun i hi => by rw [HZ.out]; exact HNJ.out i (by omega) (by have := HKL.out; omega)))
                    have HSm := Lib.hid (HS.out.drewN m)
                    have hcz' : (wo.drewN m).cell? ⟨g', o' + k, none⟩ = some (.int .i64 z) := hcz
                    obtain ⟨wm, HWM⟩ : ∃ wm : World, Hid (wo.drewN m = wm) := ⟨_, Lib.hid rfl⟩
                    rw [HWM.out] at HSm hcz' ⊢
                    clear hcz HS HNJ HSn
                    obtain ⟨p, rfl⟩ : ∃ p : Nat, z = (p : Int) := ⟨z.toNat, by omega⟩
                    have hp8 : p < 8 * n := by omega
                    have HF := Lib.hid (show Crc.flips Lb ((zs.take (k + 1)).map Int.toNat) = Crc.flip (Crc.flips Lb ((zs.take k).map Int.toNat)) p by
                      rw [List.take_succ_eq_append_getElem HKL.out, List.map_append, HZ.out]
                      simp [Crc.flips])
                    have hyl : (Crc.flips Lb ((zs.take k).map Int.toNat)).length = n := by rw [Crc.flips_length]; exact HN.out
                    obtain ⟨y, HY0⟩ : ∃ y, Hid (Crc.flips Lb ((zs.take k).map Int.toNat) = y) := ⟨_, Lib.hid rfl⟩
                    rw [HY0.out] at HF HSm hyl
                    have HYL := Lib.hid hyl
                    clear hyl
                    have hpy : p / 8 < y.length := by rw [HYL.out]; omega
                    obtain ⟨F9, hby⟩ := HSm.out.get (i := 1) rfl
                    obtain ⟨gx, hgx, _, _, hcx, hfx, hst⟩ := hby.1.at_ (k := p / 8) hpy
                    subst hgx
                    have HST := Lib.hid (hst (y[p / 8]'hpy ^^^ UInt8.ofNat (2 ^ (p % 8))))
                    have HY := Lib.hid (show Crc.flip y p = y.set (p / 8) (y[p / 8]'hpy ^^^ UInt8.ofNat (2 ^ (p % 8))) by
                      unfold Crc.flip
                      rw [List.getD_eq_getElem?_getD, List.getElem?_eq_getElem hpy]; rfl)
                    obtain ⟨zb, HZB⟩ : ∃ z, Hid (y[p / 8]'hpy = z) := ⟨_, Lib.hid rfl⟩
                    have hbt := zb.toNat_lt
                    rw [HZB.out] at hcx HST HY
                    clear hst hby
                    have i0 : (0 : Int) ≤ (p : Int) / 8 := by omega
                    have i1 : (p : Int) / 8 < (n : Int) := by omega
                    have i2 : (0 : Int) ≤ (p : Int) % 8 := by omega
                    have i3 : (p : Int) % 8 < 8 := by omega
                    have i4 : (0 : Int) ≤ (k : Int) := by omega
                    have i5 : (k : Int) < (zn : Int) := by omega
                    go_wp2_with fail
                    go_region
                    go_wp2_with fail
                    go_roundw
                    case rel =>
                      refine ⟨k + 1, by omega, by go_num, HN3, Lib.hid ?_⟩
                      rw [HF.out, HY.out, xor_bit]
                      exact (show Sep w _ [Ce w.heap.size 25 #[.int .i64 kind, .int .i64 fr, .int .i64 to, .int .u64 (inc : Int), .int .u64 (conn : Int), .int .u64 (pinc : Int), .int .u64 (pconn : Int), .int .u64 (ack : Int), .int .u64 (seq : Int), .slice A body.length c], By (.slice (some ⟨gx, 0, none⟩) n cv) (y.set (p / 8) (zb ^^^ UInt8.ofNat (2 ^ (p % 8))))] from sep_grown (i := 1) HSm.out rfl HST.out (grown_setCell (World.grownBy.refl _ _) _ _) (.inl rfl)).drew
                    case measure => simp [intOf]; omega
          · have HE := Lib.hid (show zs.take k = zs by rw [List.take_of_length_le]; rw [HZN.out]; omega)
            rw [HE.out] at HTk HS
            have HNO := Lib.hid (not_isFr (by have := spoilt_ints PL zs (by omega) (by rw [HLb.out, HN.out]; exact HTk.out) (by rw [HZN.out]; omega) (by rw [HZN.out]; omega); rw [HLb.out] at this; exact this))
            have hyl : (Crc.flips Lb (zs.map Int.toNat)).length = n := by rw [Crc.flips_length]; exact HN.out
            obtain ⟨y, HY0⟩ : ∃ y, Hid (Crc.flips Lb (zs.map Int.toNat) = y) := ⟨_, Lib.hid rfl⟩
            rw [HY0.out] at HNO HS hyl
            obtain ⟨Ay, cy, ey, hy1, hy2, hy3⟩ := sep_byForm (i := 1) HS.out rfl
            injection ey with e1 e3 e2
            clear e3
            subst e1 e2
            have HY3 := Lib.hid hy3
            have HY2 := Lib.hid hy2
            clear hy3 hy2 HTk
            have HDEC := Lib.hid (decode_any wr (HT.out.below HS.out.bel HT.out.lt) wr.heap.size Av cv y HY3.out (Nat.le_refl _) hy1 HY2.out (by omega))
            rw [hyl] at HDEC
            clear hyl hy1
            go_wp2_with fail
            refine HDEC.out.mono ?_
            clear HDEC
            rintro e w3 (⟨f3, A3, c3, hf, _⟩ | ⟨_, rfl, hb3⟩)
            · exact (HNO.out f3 hf).elim
            · have HS3 := Lib.hid (HS.out.grow hb3)
              clear HS hb3
              rw [show Fr.nil.cells none 0 = #[.int .i64 0, .int .i64 0, .int .i64 0, .int .u64 0, .int .u64 0, .int .u64 0, .int .u64 0, .int .u64 0, .int .u64 0, .slice none 0 0] from rfl]
              go_wp2_with fail
              have HS4 := Lib.hid (HS3.out.alloc (.cells #[.int .i64 0, .int .i64 0, .int .i64 0, .int .u64 0, .int .u64 0, .int .u64 0, .int .u64 0, .int .u64 0, .int .u64 0, .slice none 0 0] 25))
              refine (same5_any _ 0 Fr.nil Fr.nil none none 0 0 Has.nil Has.nil (Nat.zero_le _) (by unfold maxLen; simp [Fr.nil]) (by unfold maxLen; simp [Fr.nil])).mono ?_
              rintro e w5 ⟨rfl, hb5⟩
              have HS' := Lib.hid (HS4.out.grow hb5)
              clear HS4 hb5
              rw [Fr.eqB_self]
              go_wp2_with fail
              refine (awake5 _ (HT.out.below HS'.out.bel HT.out.lt)).mono ?_
              rintro e w6 ⟨rfl, hb6⟩
              go_wp2_with fail
              go_ret
              exact ⟨rfl, HS'.out.bel.trans (hb6.mono HS'.out.size)⟩
  · have HM : Hid ((Fr.mk kind fr to inc conn pinc pconn ack seq body).may = false) := Lib.hid (by simpa using hmy)
    clear hmy
    have he := encode_no (w.alloc (.cells #[.int .i64 kind, .int .i64 fr, .int .i64 to, .int .u64 (inc : Int), .int .u64 (conn : Int), .int .u64 (pinc : Int), .int .u64 (pconn : Int), .int .u64 (ack : Int), .int .u64 (seq : Int), .slice A body.length c] 25)) (Fr.mk kind fr to inc conn pinc pconn ack seq body) A c HL.out HM.out
    simp only [Fr.cells] at he ⊢
    go_enter Tryd.func8, Tryd.ntmps8
    go_wp2_with fail
    refine he.mono ?_
    clear he
    rintro e w1 ⟨rfl, hb1⟩
    have HS1 := Lib.hid (HS0.out.grow hb1)
    clear HS0 hb1
    go_wp2_with fail
    refine (awake5 _ (HT.out.below HS1.out.bel HT.out.lt)).mono ?_
    rintro e w6 ⟨rfl, hb6⟩
    go_wp2_with fail
    go_ret
    exact ⟨rfl, HS1.out.bel.trans (hb6.mono HS1.out.size)⟩
end Go.Proofs.YtcjafbpgjlcdpaaDoor
