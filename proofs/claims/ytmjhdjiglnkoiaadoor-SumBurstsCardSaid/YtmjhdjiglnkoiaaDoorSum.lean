/- The walks of package sum and of its reference. -/
import Derived.Test.YtmjhdjiglnkoiaaDoorProg
import Derived.Test.YtmjhdjiglnkoiaaDoorWords
import Derived.Test.YtmjhdjiglnkoiaaDoorCrc
import Derived.Outline
namespace Go.Proofs.YtmjhdjiglnkoiaaDoor
open Go Go.RowKit

/-- the table of half bytes lies in its variable -/
def Table (w : World) : Prop := ∀ i, i < 16 → w.cell? ⟨0, i, none⟩ = some (.int .u32 (Crc.half.getD i 0 : Nat))

/-- a byte's two half steps, in the walk's own spelling -/
theorem of_step (w : World) (hT : Table w) (s : Nat) (b : UInt8) (hs : s < 4294967296) : ∃ s1 r1 t1 s2 r2 t2 s3 : Nat,
    bits .xor .u32 (s : Int) (b.toNat : Int) = (s1 : Int) ∧ bits .and .u32 (s1 : Int) 15 = (r1 : Int) ∧ bits .xor .u32 ((s1 : Int) / 16) (t1 : Int) = (s2 : Int) ∧
    bits .and .u32 (s2 : Int) 15 = (r2 : Int) ∧ bits .xor .u32 ((s2 : Int) / 16) (t2 : Int) = (s3 : Int) ∧ True ∧
    w.cell? ⟨0, r1, none⟩ = some (.int .u32 t1) ∧ w.cell? ⟨0, r2, none⟩ = some (.int .u32 t2) ∧ r1 < 16 ∧ r2 < 16 ∧ s1 < 4294967296 ∧ s2 < 4294967296 ∧ Crc.byte s b = s3 := by
  have hb := b.toNat_lt
  have k1 : s ^^^ b.toNat < 4294967296 := Nat.xor_lt_two_pow (n := 32) hs (by omega)
  have k2 : Crc.iter 4 (s ^^^ b.toNat) < 4294967296 := Crc.iter_lt 4 k1
  refine ⟨s ^^^ b.toNat, (s ^^^ b.toNat) % 16, Crc.half.getD ((s ^^^ b.toNat) % 16) 0, Crc.iter 4 (s ^^^ b.toNat), Crc.iter 4 (s ^^^ b.toNat) % 16, Crc.half.getD (Crc.iter 4 (s ^^^ b.toNat) % 16) 0, Crc.iter 4 (Crc.iter 4 (s ^^^ b.toNat)), ?_, ?_, ?_, ?_, ?_, trivial, hT _ (by omega), hT _ (by omega), by omega, by omega, k1, k2, Crc.byte_nibbles s b⟩
  · rw [u32_xor_nat _ _ hs (by omega)]
  · rw [show (15 : Int) = ((15 : Nat) : Int) from rfl, u32_and_nat _ _ k1 (by omega), nat_mask4]
  · rw [show (((s ^^^ b.toNat : Nat) : Int) / 16) = (((s ^^^ b.toNat) / 16 : Nat) : Int) by omega, u32_xor_nat _ _ (by omega) (Crc.half_lt _), Crc.nibble (s ^^^ b.toNat)]
  · rw [show (15 : Int) = ((15 : Nat) : Int) from rfl, u32_and_nat _ _ k2 (by omega), nat_mask4]
  · rw [show (((Crc.iter 4 (s ^^^ b.toNat) : Nat) : Int) / 16) = ((Crc.iter 4 (s ^^^ b.toNat) / 16 : Nat) : Int) by omega, u32_xor_nat _ _ (by omega) (Crc.half_lt _), Crc.nibble (Crc.iter 4 (s ^^^ b.toNat))]

theorem not_u32 (s : Nat) (h : s < 4294967296) : bits .xor .u32 IntKind.u32.max (s : Int) = ((4294967295 - s : Nat) : Int) := by
  rw [show IntKind.u32.max = ((4294967295 : Nat) : Int) from rfl, u32_xor_nat _ _ (by omega) h, Crc.max_xor s h]

set_option maxHeartbeats 400000 in
theorem of_any (w : World) (hT : Table w) (B : Nat) (A : Option Addr) (c : Nat) (vs : List Value) (ls : List (List UInt8)) (hA : Has w B A vs) (hP : Parts w B vs ls) (hl : vs.length ≤ 9223372036854775807) :
    Calls Tryd.prog 14 #[.slice A vs.length c] w fun e w' => e = .returned (.int .u32 (Crc.of ls.flatten)) ∧ w = w' := by
  have HT := Lib.hid hT
  clear hT
  have HP := Lib.hid hP
  clear hP
  have HA := Lib.hid hA
  clear hA
  go_enter Tryd.func14, Tryd.ntmps14
  go_wp2
  go_loop [3, 10] (fun s i => ∃ k : Nat, k ≤ vs.length ∧ i = .int .i64 k ∧ s = .int .u32 (Crc.run 4294967295 (ls.take k).flatten)) (fun _ i => vs.length - (intOf i).toNat)
  case atStart => exact ⟨0, Nat.zero_le _, rfl, rfl⟩
  case round =>
    obtain ⟨k, hk, rfl, rfl⟩ := hrel
    by_cases hlt : k < vs.length
    · obtain ⟨b, o, rfl, hb, hcell⟩ := HA.out.at_ hlt
      obtain ⟨A', c', hv, hc1, hc2, hr, hh⟩ := HP.out.at_ hlt
      rw [hv] at hcell
      have hlk : k < ls.length := by have := HP.out.1; omega
      have HS := Lib.hid (show Crc.run 4294967295 (ls.take (k + 1)).flatten = Crc.run (Crc.run 4294967295 (ls.take k).flatten) ls[k] by
        rw [List.take_succ_eq_append_getElem hlk, List.flatten_append, Crc.run_append]; simp)
      have h0 : Crc.run 4294967295 (ls.take k).flatten < 4294967296 := Crc.run_lt (by omega) _
      generalize Crc.run 4294967295 (ls.take k).flatten = s0 at *
      generalize ls[k] = l at *
      have HH := Lib.hid hh
      clear hh hv
      have hl2 : l.length ≤ 9223372036854775807 := by omega
      go_wp2
      go_loop [3, 16] (fun s i => ∃ j : Nat, j ≤ l.length ∧ i = .int .i64 j ∧ s = .int .u32 (Crc.run s0 (l.take j))) (fun _ i => l.length - (intOf i).toNat)
      case atStart => exact ⟨0, Nat.zero_le _, rfl, rfl⟩
      case round =>
        obtain ⟨j, hj, rfl, rfl⟩ := hrel
        by_cases hjt : j < l.length
        · obtain ⟨b', o', rfl, hb', hcell'⟩ := HH.out.at_ (show j < (us l).length by rw [us_length]; exact hjt)
          have hx : (us l)[j]'(by rw [us_length]; exact hjt) = .int .u8 ((l[j]).toNat : Int) := by simp [us]
          rw [hx] at hcell'
          clear hx
          have h1 : Crc.run s0 (l.take j) < 4294967296 := Crc.run_lt h0 _
          generalize hs : Crc.run s0 (l.take j) = s at *
          have HRs := Lib.hid hs
          clear hs
          have hbt := l[j].toNat_lt
          have HR := Lib.hid (show Crc.run s0 (l.take (j + 1)) = Crc.byte s l[j] by
            rw [List.take_succ_eq_append_getElem hjt, Crc.run_append, HRs.out]; rfl)
          obtain ⟨s1, r1, t1, s2, r2, t2, s3, e1, e2, e3, e4, e5, e6, c1, c2, b1, b2, b3, b4, E⟩ := of_step w HT.out s l[j] h1
          generalize l[j] = x at *
          have E' := Lib.hid E
          clear E
          go_wp2
          go_round
          case rel => exact ⟨j + 1, by omega, by go_num, by rw [HR.out, E'.out]⟩
          case measure => simp [intOf]; omega
        · obtain rfl : j = l.length := by omega
          have HS2 := Lib.hid (show Crc.run s0 (l.take l.length) = Crc.run 4294967295 (ls.take (k + 1)).flatten by rw [List.take_length, HS.out])
          generalize Crc.run s0 (l.take l.length) = s9 at *
          go_wp2
          go_round
          case rel => exact ⟨k + 1, by omega, by go_num, by rw [HS2.out]⟩
          case measure => simp [intOf]; omega
    · obtain rfl : k = vs.length := by omega
      have hls : ls.take vs.length = ls := by rw [HP.out.1, List.take_length]
      have HF := Lib.hid (show Crc.of ls.flatten = 4294967295 - Crc.run 4294967295 (ls.take vs.length).flatten by rw [hls]; rfl)
      clear hls
      have h0 : Crc.run 4294967295 (ls.take vs.length).flatten < 4294967296 := Crc.run_lt (by omega) _
      generalize Crc.run 4294967295 (ls.take vs.length).flatten = s0 at *
      go_wp2
      go_ret
      exact ⟨congrArg (fun x : Int => Ending.returned (.int .u32 x)) (by rw [HF.out]; exact not_u32 s0 h0), rfl⟩

theorem info_u8 : (Tryd.prog.info? 5).map (fun i => (i.zero, i.size, i.bytes)) = some (some (.int .u8 0), 1, 1) := by kernel_rfl

/-- a row of bytes of the call's own -/
def Own (w : World) (base : Nat) (v : Value) (l : List UInt8) : Prop := w.ownsRow base 5 1 v l.length (us l)
theorem Own.nil (w : World) (base : Nat) : Own w base (.slice none 0 0) [] := World.ownsRow_nil w base _ 1
theorem Own.form {w : World} {base : Nat} {v : Value} {l : List UInt8} (h : Own w base v l) : ∃ A c, v = .slice A l.length c ∧ l.length ≤ c ∧ c ≤ maxLen ∧ Has w w.heap.size A (us l) := by
  have h0 := h
  rcases h.2 with ⟨rfl, hn⟩ | ⟨g, cap, cur, rfl, _, _, hnc, hm, _⟩
  · refine ⟨none, 0, by rw [hn], by omega, by unfold maxLen; omega, ?_⟩
    rw [List.eq_nil_of_length_eq_zero hn]
    exact Has.nil
  · exact ⟨_, cap, rfl, hnc, hm, Has.of_own h0⟩

/-- a slice of bytes as a string -/
theorem run_str {w : World} {B : Nat} {A : Option Addr} {c : Nat} {l : List UInt8} (h : Has w B A (us l)) :
    (convert 25 9 (.slice A l.length c)).run Tryd.prog w = .ok (.string ⟨l.toArray⟩) w := by
  rcases A with _ | a
  · have hl : l = [] := by
      cases l with
      | nil => rfl
      | cons x l =>
        obtain ⟨b, o, h, _⟩ := h.at_ (show 0 < (us (x :: l)).length by simp [us])
        cases h
    subst hl
    exact run_convert_bytes_nil w 25 5 Tryd.underlying25 Tryd.underlying5 _ _ _ Tryd.underlying9
  · rw [run_convert_bytes_string w 25 9 5 _ _ _ Tryd.underlying25 Tryd.underlying5 Tryd.underlying9]
    have hc : (loadCells a l.length).run Tryd.prog w = .ok ((l.map fun b => ((b.toNat : Nat) : Int)).map (Value.int .u8)).toArray w := by
      have := run_loadCells_list (P := Tryd.prog) w a (us l) (fun j v hj => by
        obtain ⟨b, o, hA, _, hcell⟩ := h j v hj
        injection hA with hA
        subst hA
        rw [add_mk]; exact hcell)
      rw [us_length] at this
      rw [this]
      simp [us]
    rw [run_bytesToString w a l.length c _ hc, foldl_push_bytes]
    congr 3
    have : ((fun n : Int => UInt8.ofNat n.toNat) ∘ fun b : UInt8 => ((b.toNat : Nat) : Int)) = id := by
      funext b
      simp
    simp [this]

theorem str_eq (l m : List UInt8) : (l == m) = decide (l = m) := by
  rw [Bool.eq_iff_iff]
  simp

/-- append onto a row of bytes of the call's own -/
theorem wp_app {w : World} {ops : Array Oper} {rest : List Oper} {o : Oper} {a : Act} {Q : Exit → Act → World → Prop} {s x : Operand} {base B c : Nat} {v : Value} {A : Option Addr} {l m : List UInt8} (hgd : o.guard = none)
    (ho : o.op = .call { callee := .builtin .append, args := #[s, x], argTypes := #[25, 25] }) (hs : a.eval s = v) (hx : a.eval x = .slice A m.length c)
    (hown : Own w base v l) (hr : Has w B A (us m)) (hlen : l.length + m.length ≤ 100000000000000) (hbase : base ≤ w.heap.size)
    (h : ∀ v' w', Own w' base v' (l ++ m) → Below base w w' → w.grownBy w' v.ownBlock → (v'.ownBlock = v.ownBlock ∨ v'.ownBlock = some w.heap.size) → wpList Tryd.prog ops Q rest (a.put o.dst v') w') : wpList Tryd.prog ops Q (o :: rest) a w := by
  obtain ⟨i0, hi, hz0, hz1, hz2⟩ := info_parts info_u8
  refine wpList_append_has w hgd s x _ ho base 5 i0 _ 1 1 Tryd.underlying25 hi hz0 hz1 hz2 rfl (by omega) v l.length (us l) hs hown B A m.length c (us m) hx (by rw [us_length, Nat.mul_one]) hr (us_one m) (by unfold maxLen; omega) (by omega) hbase ?_
  intro v' w' h1 h2 h3
  refine h v' w' (by unfold Own; rw [List.length_append, us_append]; exact h1) ((Below.refl _ _).grown h2 hbase (fun k hk => (hown.lt k hk).1)) h2 h3
/-- an empty literal is a row of the call's own -/
theorem own_empty (w : World) : Own (w.alloc (.cells #[] 5)) w.heap.size (.slice (some ⟨w.heap.size, 0, none⟩) 0 0) [] := World.ownsRow_made w #[] 0 (Nat.le_refl _) (by unfold maxLen; omega) rfl

set_option maxHeartbeats 400000 in
theorem same_any (w : World) (B : Nat) (A A' : Option Addr) (c c' : Nat) (l m : List UInt8) (h : Has w B A (us l)) (h' : Has w B A' (us m)) :
    Calls Tryd.prog 16 #[.slice A l.length c, .slice A' m.length c'] w fun e w' => e = .returned (.bool (decide (l = m))) ∧ w = w' := by
  have e1 := run_str (c := c) h
  have e2 := run_str (c := c') h'
  go_enter Tryd.func16, Tryd.ntmps16
  go_wp2
  go_ret
  exact ⟨congrArg (fun b => Ending.returned (.bool b)) (str_eq l m), rfl⟩

set_option maxHeartbeats 400000 in
theorem copy_any (w : World) (B : Nat) (A : Option Addr) (c : Nat) (l : List UInt8) (h : Has w B A (us l)) (hB : B ≤ w.heap.size) (hl : l.length ≤ 1000000000) :
    Calls Tryd.prog 13 #[.slice A l.length c] w fun e w' => ∃ v, e = .returned v ∧ Own w' w.heap.size v l ∧ Below w.heap.size w w' := by
  go_enter Tryd.func13, Tryd.ntmps13
  go_wp2_with (at_builtin; refine wp_app (c := c) rfl rfl (by rfl) (by rfl) (own_empty w) (h.alloc hB _) (by simp; omega) (by simp) ?_; intro v' w1 hown1 hb1 _ _)
  go_ret
  exact ⟨v', rfl, hown1, ((Below.refl _ _).alloc (Nat.le_refl _) _).trans hb1⟩
end Go.Proofs.YtmjhdjiglnkoiaaDoor
