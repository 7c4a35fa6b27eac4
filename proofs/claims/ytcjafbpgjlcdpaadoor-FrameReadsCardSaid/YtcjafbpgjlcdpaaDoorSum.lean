/- The walks of package sum and of its reference. -/
import Derived.Test.YtcjafbpgjlcdpaaDoorProg
import Derived.Test.YtcjafbpgjlcdpaaDoorWords
import Derived.Test.YtcjafbpgjlcdpaaDoorBytes
import Derived.Test.YtcjafbpgjlcdpaaDoorCrc
import Derived.Outline
namespace Go.Proofs.YtcjafbpgjlcdpaaDoor
open Go Go.RowKit

/-- the table of half bytes lies in its variable -/
def Table (w : World) : Prop := ∀ i, i < 16 → w.cell? ⟨0, i, none⟩ = some (.int .u32 (Crc.half.getD i 0 : Nat))

/-- a byte's two half steps, in the walk's own spelling -/
theorem of_step (w : World) (hT : Table w) (s : Nat) (b : UInt8) (hs : s < 4294967296) : ∃ s1 r1 t1 s2 r2 t2 s3 : Nat,
    bits .xor .u32 (s : Int) (b.toNat : Int) = (s1 : Int) ∧ bits .and .u32 (s1 : Int) 15 = (r1 : Int) ∧ bits .xor .u32 ((s1 : Int) / 16) (t1 : Int) = (s2 : Int) ∧
    bits .and .u32 (s2 : Int) 15 = (r2 : Int) ∧ bits .xor .u32 ((s2 : Int) / 16) (t2 : Int) = (s3 : Int) ∧ True ∧
    w.cell? ⟨0, r1, none⟩ = some (.int .u32 t1) ∧ w.cell? ⟨0, r2, none⟩ = some (.int .u32 t2) ∧ r1 < 16 ∧ r2 < 16 ∧ s1 < 4294967296 ∧ s2 < 4294967296 ∧ Crc.byte s b = s3 := by
  have hb := b.toNat_lt
  have k1 : s ^^^ b.toNat < 4294967296 := Nat.xor_lt_two_pow (n := 32) hs (by omega)
  have k2 : Crc.iter 4 (s ^^^ b.toNat) < 4294967296 := Crc.iter_lt 4 k1
  refine ⟨s ^^^ b.toNat, (s ^^^ b.toNat) % 16, Crc.half.getD ((s ^^^ b.toNat) % 16) 0, Crc.iter 4 (s ^^^ b.toNat), Crc.iter 4 (s ^^^ b.toNat) % 16, Crc.half.getD (Crc.iter 4 (s ^^^ b.toNat) % 16) 0, Crc.iter 4 (Crc.iter 4 (s ^^^ b.toNat)), ?_, ?_, ?_, ?_, ?_, trivial, hT _ (by omega), hT _ (by omega), by omega, by omega, k1, k2, Crc.byte_nibbles s b⟩
  · rw [u32_xor_nat _ _ hs (by omega)]
  · rw [show (15 : Int) = ((15 : Nat) : Int) from rfl, u32_and_nat _ _ k1 (by omega), nat_mask4]
  · rw [show (((s ^^^ b.toNat : Nat) : Int) / 16) = (((s ^^^ b.toNat) / 16 : Nat) : Int) by omega, u32_xor_nat _ _ (by omega) (Crc.half_lt _), Crc.nibble (s ^^^ b.toNat)]
  · rw [show (15 : Int) = ((15 : Nat) : Int) from rfl, u32_and_nat _ _ k2 (by omega), nat_mask4]
  · rw [show (((Crc.iter 4 (s ^^^ b.toNat) : Nat) : Int) / 16) = ((Crc.iter 4 (s ^^^ b.toNat) / 16 : Nat) : Int) by omega, u32_xor_nat _ _ (by omega) (Crc.half_lt _), Crc.nibble (Crc.iter 4 (s ^^^ b.toNat))]

theorem not_u32 (s : Nat) (h : s < 4294967296) : bits .xor .u32 IntKind.u32.max (s : Int) = ((4294967295 - s : Nat) : Int) := by
  rw [show IntKind.u32.max = ((4294967295 : Nat) : Int) from rfl, u32_xor_nat _ _ (by omega) h, Crc.max_xor s h]

set_option maxHeartbeats 400000 in
theorem of_any (w : World) (hT : Table w) (B : Nat) (A : Option Addr) (c : Nat) (vs : List Value) (ls : List (List UInt8)) (hA : Has w B A vs) (hP : Parts w B vs ls) (hl : vs.length ≤ 9223372036854775807) :
    Calls Tryd.prog 42 #[.slice A vs.length c] w fun e w' => e = .returned (.int .u32 (Crc.of ls.flatten)) ∧ w = w' := by
  have HT := Lib.hid hT
  clear hT
  have HP := Lib.hid hP
  clear hP
  have HA := Lib.hid hA
  clear hA
  go_enter Tryd.func42, Tryd.ntmps42
  go_wp2
  go_loop [3, 10] (fun s i => ∃ k : Nat, k ≤ vs.length ∧ i = .int .i64 k ∧ s = .int .u32 (Crc.run 4294967295 (ls.take k).flatten)) (fun _ i => vs.length - (intOf i).toNat)
  case atStart => exact ⟨0, Nat.zero_le _, rfl, rfl⟩
  case round =>
    obtain ⟨k, hk, rfl, rfl⟩ := hrel
    by_cases hlt : k < vs.length
    · obtain ⟨b, o, rfl, hb, hcell⟩ := HA.out.at_ hlt
      obtain ⟨A', c', hv, hc1, hc2, hr, hh⟩ := HP.out.at_ hlt
      rw [hv] at hcell
      have hlk : k < ls.length := by have := HP.out.1; omega
      have HS := Lib.hid (show Crc.run 4294967295 (ls.take (k + 1)).flatten = Crc.run (Crc.run 4294967295 (ls.take k).flatten) ls[k] by
        rw [List.take_succ_eq_append_getElem hlk, List.flatten_append, Crc.run_append]; simp)
      have h0 : Crc.run 4294967295 (ls.take k).flatten < 4294967296 := Crc.run_lt (by omega) _
      generalize Crc.run 4294967295 (ls.take k).flatten = s0 at *
      generalize ls[k] = l at *
      have HH := Lib.hid hh
      clear hh hv
      have hl2 : l.length ≤ 9223372036854775807 := by omega
      go_wp2
      go_loop [3, 16] (fun s i => ∃ j : Nat, j ≤ l.length ∧ i = .int .i64 j ∧ s = .int .u32 (Crc.run s0 (l.take j))) (fun _ i => l.length - (intOf i).toNat)
      case atStart => exact ⟨0, Nat.zero_le _, rfl, rfl⟩
      case round =>
        obtain ⟨j, hj, rfl, rfl⟩ := hrel
        by_cases hjt : j < l.length
        · obtain ⟨b', o', rfl, hb', hcell'⟩ := HH.out.at_ (show j < (us l).length by rw [us_length]; exact hjt)
          have hx : (us l)[j]'(by rw [us_length]; exact hjt) = .int .u8 ((l[j]).toNat : Int) := by simp [us]
          rw [hx] at hcell'
          clear hx
          have h1 : Crc.run s0 (l.take j) < 4294967296 := Crc.run_lt h0 _
          generalize hs : Crc.run s0 (l.take j) = s at *
          have HRs := Lib.hid hs
          clear hs
          have hbt := l[j].toNat_lt
          have HR := Lib.hid (show Crc.run s0 (l.take (j + 1)) = Crc.byte s l[j] by
            rw [List.take_succ_eq_append_getElem hjt, Crc.run_append, HRs.out]; rfl)
          obtain ⟨s1, r1, t1, s2, r2, t2, s3, e1, e2, e3, e4, e5, e6, c1, c2, b1, b2, b3, b4, E⟩ := of_step w HT.out s l[j] h1
          generalize l[j] = x at *
          have E' := Lib.hid E
          clear E
          go_wp2
          go_round
          case rel => exact ⟨j + 1, by omega, by go_num, by rw [HR.out, E'.out]⟩
          case measure => simp [intOf]; omega
        · obtain rfl : j = l.length := by omega
          have HS2 := Lib.hid (show Crc.run s0 (l.take l.length) = Crc.run 4294967295 (ls.take (k + 1)).flatten by rw [List.take_length, HS.out])
          generalize Crc.run s0 (l.take l.length) = s9 at *
          go_wp2
          go_round
          case rel => exact ⟨k + 1, by omega, by go_num, by rw [HS2.out]⟩
          case measure => simp [intOf]; omega
    · obtain rfl : k = vs.length := by omega
      have hls : ls.take vs.length = ls := by rw [HP.out.1, List.take_length]
      have HF := Lib.hid (show Crc.of ls.flatten = 4294967295 - Crc.run 4294967295 (ls.take vs.length).flatten by rw [hls]; rfl)
      clear hls
      have h0 : Crc.run 4294967295 (ls.take vs.length).flatten < 4294967296 := Crc.run_lt (by omega) _
      generalize Crc.run 4294967295 (ls.take vs.length).flatten = s0 at *
      go_wp2
      go_ret
      exact ⟨congrArg (fun x : Int => Ending.returned (.int .u32 x)) (by rw [HF.out]; exact not_u32 s0 h0), rfl⟩

set_option maxHeartbeats 400000 in
theorem same_any (w : World) (B : Nat) (A A' : Option Addr) (c c' : Nat) (l m : List UInt8) (h : Has w B A (us l)) (h' : Has w B A' (us m)) :
    Calls Tryd.prog 53 #[.slice A l.length c, .slice A' m.length c'] w fun e w' => e = .returned (.bool (decide (l = m))) ∧ w = w' := by
  have e1 := run_str (c := c) h
  have e2 := run_str (c := c') h'
  go_enter Tryd.func53, Tryd.ntmps53
  go_wp2
  go_ret
  exact ⟨congrArg (fun b => Ending.returned (.bool b)) (str_eq l m), rfl⟩

set_option maxHeartbeats 400000 in
theorem copy_any (w : World) (B : Nat) (A : Option Addr) (c : Nat) (l : List UInt8) (h : Has w B A (us l)) (hB : B ≤ w.heap.size) (hl : l.length ≤ 1000000000) :
    Calls Tryd.prog 46 #[.slice A l.length c] w fun e w' => ∃ v, e = .returned v ∧ Own w' w.heap.size v l ∧ Below w.heap.size w w' := by
  go_enter Tryd.func46, Tryd.ntmps46
  go_wp2_with (at_builtin; refine wp_app (c := c) rfl rfl (by rfl) (by rfl) (own_empty w) (h.alloc hB _) (by simp; omega) (by simp) ?_; intro v' w1 hown1 hb1 _ _)
  go_ret
  exact ⟨v', rfl, hown1, ((Below.refl _ _).alloc (Nat.le_refl _) _).trans hb1⟩
end Go.Proofs.YtcjafbpgjlcdpaaDoor
