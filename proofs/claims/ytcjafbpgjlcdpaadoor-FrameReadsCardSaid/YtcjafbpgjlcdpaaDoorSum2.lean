/- The walks of package sum and of its reference: Seal, Open, and the reference's sum. -/
import Derived.Test.YtcjafbpgjlcdpaaDoorSum
import Derived.BigQuiet
import Derived.WalkSpells
import Derived.Lib.SlBytesConst
import Derived.Deep.QuietTactic
namespace Go.Proofs.YtcjafbpgjlcdpaaDoor
open Go Go.RowKit

theorem T_even (s : Nat) (h : s % 2 = 0) : Crc.T s = s / 2 := by
  unfold Crc.T
  rw [if_neg (by omega), Nat.xor_zero, Nat.shiftRight_eq_div_pow, Nat.pow_one]
theorem T_odd (s : Nat) (h : s % 2 = 1) (hs : s < 4294967296) : bits .xor .u32 ((s : Int) / 2) 2197175160 = (Crc.T s : Int) := by
  rw [show ((s : Int) / 2) = ((s / 2 : Nat) : Int) by omega, show (2197175160 : Int) = ((2197175160 : Nat) : Int) from rfl, u32_xor_nat _ _ (by omega) (by omega)]
  unfold Crc.T
  rw [if_pos h, Nat.shiftRight_eq_div_pow, Nat.pow_one]

set_option maxHeartbeats 400000 in
theorem refOf_any (w : World) (B : Nat) (A : Option Addr) (c : Nat) (l : List UInt8) (h : Has w B A (us l)) (hl : l.length ≤ 9223372036854775807) :
    Calls Tryd.prog 45 #[.slice A l.length c] w fun e w' => e = .returned (.int .u32 (Crc.of l)) ∧ w = w' := by
  have HA := Lib.hid h
  clear h
  go_enter Tryd.func45, Tryd.ntmps45
  go_wp2
  go_loop [3, 4] (fun s i => ∃ j : Nat, j ≤ l.length ∧ i = .int .i64 j ∧ s = .int .u32 (Crc.run 4294967295 (l.take j))) (fun _ i => l.length - (intOf i).toNat)
  case atStart => exact ⟨0, Nat.zero_le _, rfl, rfl⟩
  case round =>
    obtain ⟨j, hj, rfl, rfl⟩ := hrel
    by_cases hjt : j < l.length
    · obtain ⟨b, o, rfl, hb, hcell⟩ := HA.out.at_ (show j < (us l).length by rw [us_length]; exact hjt)
      have hx : (us l)[j]'(by rw [us_length]; exact hjt) = .int .u8 ((l[j]).toNat : Int) := by simp [us]
      rw [hx] at hcell
      clear hx
      have h1 : Crc.run 4294967295 (l.take j) < 4294967296 := Crc.run_lt (by omega) _
      have HR := Lib.hid (show Crc.run 4294967295 (l.take (j + 1)) = Crc.iter 8 (Crc.run 4294967295 (l.take j) ^^^ l[j].toNat) by
            rw [List.take_succ_eq_append_getElem hjt, Crc.run_append]; rfl)
      generalize Crc.run 4294967295 (l.take j) = s at *
      have hbt := l[j].toNat_lt
      generalize l[j] = x at *
      have h2 : s ^^^ x.toNat < 4294967296 := Nat.xor_lt_two_pow (n := 32) h1 (by omega)
      have e1 : bits .xor .u32 (s : Int) (x.toNat : Int) = ((s ^^^ x.toNat : Nat) : Int) := u32_xor_nat _ _ h1 (by omega)
      generalize s ^^^ x.toNat = s1 at *
      go_wp2
      go_loop [3, 5] (fun s i => ∃ k : Nat, k ≤ 8 ∧ i = .int .i64 k ∧ s = .int .u32 (Crc.iter k s1)) (fun _ i => 8 - (intOf i).toNat)
      case atStart => exact ⟨0, Nat.zero_le _, rfl, rfl⟩
      case round =>
        obtain ⟨k, hk, rfl, rfl⟩ := hrel
        have h3 : Crc.iter k s1 < 4294967296 := Crc.iter_lt _ h2
        by_cases hkt : k < 8
        · have HI := Lib.hid (Crc.iter_succ k s1)
          generalize Crc.iter k s1 = t at *
          by_cases hp : t % 2 = 1
          · have e2 := T_odd t hp h3
            have e3 : ((t : Int) % 2 == 1) = true := by simp; omega
            generalize Crc.T t = t' at *
            clear hp
            go_wp2
            go_round
            case rel => exact ⟨k + 1, by omega, by go_num, by rw [HI.out]⟩
            case measure => simp [intOf]; omega
          · have e2 := Lib.hid (T_even t (by omega))
            have e3 : ((t : Int) % 2 == 1) = false := by simp; omega
            clear hp
            go_wp2
            go_round
            case rel => exact ⟨k + 1, by omega, by go_num, by rw [HI.out, e2.out]; go_num⟩
            case measure => simp [intOf]; omega
        · obtain rfl : k = 8 := by omega
          generalize Crc.iter 8 s1 = s9 at *
          go_wp2
          go_round
          case rel => exact ⟨j + 1, by omega, by go_num, by rw [HR.out]⟩
          case measure => simp [intOf]; omega
    · obtain rfl : j = l.length := by omega
      have HF := Lib.hid (show Crc.of l = 4294967295 - Crc.run 4294967295 (l.take l.length) by rw [List.take_length]; rfl)
      have h0 : Crc.run 4294967295 (l.take l.length) < 4294967296 := Crc.run_lt (by omega) _
      generalize Crc.run 4294967295 (l.take l.length) = s0 at *
      go_wp2
      go_ret
      exact ⟨congrArg (fun x : Int => Ending.returned (.int .u32 x)) (by rw [HF.out]; omega), rfl⟩

/-- what old blocks hold, beside one new block -/
theorem Table.below {w w' : World} {B : Nat} (h : Table w) (hb : Below B w w') (hB : 0 < B) : Table w' := fun i hi => (hb.cell (p := ⟨_, i, none⟩) hB).trans (h i hi)
theorem Table.lt {w : World} (h : Table w) : 0 < w.heap.size := World.block_lt_of_cell? w _ (h 0 (by omega))
theorem Table.alloc {w : World} (h : Table w) (o : Obj) : Table (w.alloc o) := h.below ((Below.refl _ _).alloc (Nat.le_refl _) o) h.lt
/-- the sum of one part -/
theorem of_one (w : World) (hT : Table w) (B : Nat) (A : Option Addr) (c : Nat) (l : List UInt8) (h : Has w B A (us l)) (hB : B ≤ w.heap.size) (hc : l.length ≤ c) (hm : c ≤ maxLen) (hr : l.length ≤ 140737488355328) :
    Calls Tryd.prog 42 #[.slice (some ⟨w.heap.size, 0, none⟩) 1 1] (w.alloc (.cells #[.slice A l.length c] 23)) fun e w' => e = .returned (.int .u32 (Crc.of l)) ∧ w.alloc (.cells #[.slice A l.length c] 23) = w' := by
  have := of_any _ (hT.alloc (.cells #[.slice A l.length c] 23)) (w.heap.size + 1) (some ⟨w.heap.size, 0, none⟩) 1 [.slice A l.length c] [l] (has_new w #[.slice A l.length c] _) (Parts.one ((h.alloc hB _).more (by omega)) hc hm hr) (by simp)
  rwa [show [l].flatten = l by simp] at this
theorem le4_nat (s : Nat) (h : s < 4294967296) : us (Crc.le4 s) = [.int .u8 ((s : Int) % 256), .int .u8 ((s : Int) / 256 % 256), .int .u8 ((s : Int) / 65536 % 256), .int .u8 ((s : Int) / 16777216)] := by
  have e : ((s : Int) / 16777216) = ((s : Int) / 16777216 % 256) := by omega
  rw [e]
  simp [us, Crc.le4]
theorem le4_take (s k : Nat) (hk : k < 4) : (Crc.le4 s).take (k + 1) = (Crc.le4 s).take k ++ [UInt8.ofNat (s / 256 ^ k)] := by
  match k, hk with
  | 0, _ => simp [Crc.le4]
  | 1, _ => simp [Crc.le4]
  | 2, _ => simp [Crc.le4]
  | 3, _ => simp [Crc.le4]

set_option maxHeartbeats 400000 in
theorem seal_any (w : World) (hT : Table w) (B : Nat) (A : Option Addr) (c : Nat) (l : List UInt8) (h : Has w B A (us l)) (hB : B ≤ w.heap.size) (hc : l.length ≤ c) (hm : c ≤ maxLen) (hl : l.length ≤ 1000000000) :
    Calls Tryd.prog 26 #[.slice A l.length c] w fun e w' => ∃ v, e = .returned v ∧ Own w' w.heap.size v (Crc.sealed l) ∧ Below w.heap.size w w' := by
  obtain ⟨i0, hi, hz0, hz1, hz2⟩ := info_parts info_u8
  have HT := Lib.hid hT
  clear hT
  go_enter Tryd.func26, Tryd.ntmps26
  go_wp2_with fail
  refine (of_one w HT.out B A c l h hB hc hm (by omega)).mono ?_
  rintro e w' ⟨rfl, rfl⟩
  have HS := Lib.hid (show Crc.sealed l = l ++ Crc.le4 (Crc.of l) from rfl)
  have hs : Crc.of l < 4294967296 := Crc.of_lt _
  generalize Crc.of l = s at *
  have HL := Lib.hid (le4_nat s hs)
  have hA1 := h.alloc hB (.cells #[.slice A l.length c] 23)
  go_wp2_with (first
    | (at_make; refine wpList_make_own _ rfl _ _ _ rfl w.heap.size 5 i0 _ 1 Tryd.underlying23 hi hz0 hz1 _ _ _ (l.length + 4) rfl rfl (by omega) (by rw [hz2]; omega) (by unfold maxLen; omega) (by simp) ?_; intro w1 hown1 hg1
       have hb1 : Below w.heap.size w w1 := ((Below.refl _ _).alloc (Nat.le_refl _) _).grown hg1 (by simp) (by simp)
       have hown1' : Own w1 w.heap.size (.slice (some ⟨w.heap.size + 1, 0, none⟩) 0 (l.length + 4)) [] := by simpa [Own, us] using hown1
       clear hown1 hg1)
    | (at_builtin; refine wp_app (c := c) (s := .tmp 12) rfl rfl (by rfl) (by rfl) hown1' (h.below (hb1.mono hB)) (by simp; omega) hb1.size ?_; intro v2 w2 hown2 hb2 _ _
       have hb3 := hb1.trans hb2
       clear hb2 hown1')
    | (at_builtin; refine wp_app (c := 4) (s := .tmp 15) (A := some ⟨w2.heap.size, 0, none⟩) (m := Crc.le4 s) rfl rfl (by rfl) (by rfl) (l := l) (hown2.alloc _) (has_lit HL.out) (by simp [Crc.le4]; omega) (le_alloc hb3.size _) ?_; intro v4 w4 hown4 hb4 _ _))
  go_ret
  exact ⟨v4, rfl, by rw [HS.out]; exact hown4, (hb3.alloc hb3.size _).trans hb4⟩

set_option maxHeartbeats 400000 in
theorem refSeal_any (w : World) (B : Nat) (A : Option Addr) (c : Nat) (l : List UInt8) (h : Has w B A (us l)) (hB : B ≤ w.heap.size) (hl : l.length ≤ 1000000000) :
    Calls Tryd.prog 30 #[.slice A l.length c] w fun e w' => ∃ v, e = .returned v ∧ Own w' w.heap.size v (Crc.sealed l) ∧ Below w.heap.size w w' := by
  go_enter Tryd.func30, Tryd.ntmps30
  go_wp2_with fail
  refine (refOf_any _ B A c l h (by omega)).mono ?_
  rintro e w' ⟨rfl, rfl⟩
  go_wp2_with fail
  refine (copy_any _ B A c l h hB (by omega)).mono ?_
  rintro e w1 ⟨v, rfl, hown, hb⟩
  have HS := Lib.hid (show Crc.sealed l = l ++ Crc.le4 (Crc.of l) from rfl)
  have hs : Crc.of l < 4294967296 := Crc.of_lt _
  generalize Crc.of l = s at *
  go_wp2
  go_loopw [3, 4, 5] (fun x v i wr => ∃ k : Nat, k ≤ 4 ∧ i = .int .i64 k ∧ x = .int .u32 ((s / 256 ^ k : Nat) : Int) ∧ Own wr w.heap.size v (l ++ (Crc.le4 s).take k) ∧ Below w.heap.size w wr) (fun _ _ i _ => 4 - (intOf i).toNat)
  case atStart => exact ⟨0, Nat.zero_le _, rfl, by simp, by simpa using hown, hb⟩
  case round =>
    obtain ⟨k, hk, rfl, rfl, ho, hbr⟩ := hrel
    by_cases hkt : k < 4
    · have HT := Lib.hid (le4_take s k hkt)
      have HD := Lib.hid (show s / 256 ^ (k + 1) = s / 256 ^ k / 256 by rw [Nat.pow_succ, Nat.div_div_eq_div_mul])
      have ht : s / 256 ^ k < 4294967296 := Nat.lt_of_le_of_lt (Nat.div_le_self _ _) hs
      generalize s / 256 ^ k = t at *
      have hlen : (l ++ (Crc.le4 s).take k).length ≤ 1000000004 := by simp [Crc.le4]; omega
      generalize hm : l ++ (Crc.le4 s).take k = m at *
      have HM := Lib.hid hm
      clear hm
      have HU := Lib.hid (us_ofNat t)
      go_wp2_with (at_builtin; go_must (refine wp_app (c := 1) (A := some ⟨wr.heap.size, 0, none⟩) (m := [UInt8.ofNat t]) rfl rfl (by rfl) (by rfl) (l := m) (ho.alloc _) (has_lit HU.out) (by simp; omega) (le_alloc hbr.size _) ?_); intro v4 w4 hown4 hb4 _ _)
      go_roundw
      case rel => exact ⟨k + 1, by omega, by go_num, by rw [HD.out]; go_num, by rw [HT.out, ← List.append_assoc, HM.out]; exact hown4, (hbr.alloc hbr.size _).trans hb4⟩
      case measure => simp [intOf]; omega
    · obtain rfl : k = 4 := by omega
      go_wp2
      go_ret
      exact ⟨_, rfl, by rw [HS.out]; exact ho, hbr⟩
end Go.Proofs.YtcjafbpgjlcdpaaDoor
