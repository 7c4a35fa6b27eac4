/- The walks of package code's Reader: the wide numbers. -/
import Derived.Test.YtbnjlminjopaaaaCodeR2
import Derived.Laws.CopyOwn
import Derived.Deep.RegionLaw
namespace Go.Proofs.Ytbnjlminjopaaaa
open Go Go.RowKit
set_option linter.unusedVariables false
set_option maxRecDepth 100000

/-- a wide number of n bytes: its answer, what is left, whether there is a fault -/
def rWide (l : List UInt8) (bad : Bool) (n : Nat) : Nat × List UInt8 × Bool := if bad = true ∨ l.length < n then (0, l, true) else (Code.leNat (l.take n), l.drop n, false)

theorem or_byte (x d k : Nat) (hx : x < 256 ^ k) (hk : k ≤ 7) (hd : d < 256) :
    bits .or .u64 (x : Int) (IntKind.u64.wrap ((d : Int) * 2 ^ (8 * k))) = ((x + 256 ^ k * d : Nat) : Int) ∧ x + 256 ^ k * d < 256 ^ (k + 1) := by
  have e2 : (2 : Nat) ^ (8 * k) = 256 ^ k := by rw [Nat.pow_mul]
  have hp : 256 ^ (k + 1) ≤ 256 ^ 8 := Nat.pow_le_pow_right (by omega) (by omega)
  have h8 : (256 : Nat) ^ 8 = 18446744073709551616 := by decide
  have hm : d * 256 ^ k ≤ 255 * 256 ^ k := Nat.mul_le_mul_right _ (by omega)
  rw [Nat.pow_succ] at hp
  have e3 : IntKind.u64.wrap ((d : Int) * 2 ^ (8 * k)) = ((d * 256 ^ k : Nat) : Int) := by
    have e4 : ((d : Int) * 2 ^ (8 * k)) = ((d * 256 ^ k : Nat) : Int) := by rw [← e2]; simp
    rw [e4, IntKind.wrap_u64]
    omega
  have ec : 256 ^ k * d = d * 256 ^ k := Nat.mul_comm _ _
  refine ⟨?_, by rw [Nat.pow_succ, ec]; omega⟩
  rw [e3, u64_or_nat _ _ (by omega) (by omega), Nat.or_comm]
  congr 1
  have e5 := nat_join (8 * k) (d * 256 ^ k) x (by rw [e2]; exact Nat.mul_mod_left _ _) (by rw [e2]; exact hx)
  rw [e5, ec]; omega

theorem eight {α : Type} (l : List α) (h : l.length = 8) : ∃ a b c d e f g i, l = [a, b, c, d, e, f, g, i] := by
  match l, h with
  | [a, b, c, d, e, f, g, i], _ => exact ⟨a, b, c, d, e, f, g, i, rfl⟩
theorem leNat_snoc (ys : List UInt8) (k : Nat) (hk : k < ys.length) : Code.leNat (ys.take (k + 1)) = Code.leNat (ys.take k) + 256 ^ k * ys[k].toNat := by
  rw [List.take_succ_eq_append_getElem hk, Code.leNat_append, List.length_take, Nat.min_eq_left (by omega)]
  simp [Code.leNat]
theorem leNat_zeros (n : Nat) : Code.leNat (List.replicate n 0) = 0 := by
  induction n with
  | zero => rfl
  | succ n ih => rw [List.replicate_succ, Code.leNat, ih]; rfl

/-- bytes are copied into an array of eight -/
theorem run_copy8 (w1 : World) (b : Nat) (A1 : Option Addr) (B : Nat) (t : List UInt8) (hb : w1.heap[b]? = some (.cells (us (List.replicate 8 0)).toArray 92 (0, 0))) (hin : Has w1 B A1 (us t)) (hn : t.length ≤ 8) (c : Nat) :
    ∃ w2 k, (Builtin.copy_ #[27, 27] 3 #[.slice (some ⟨b, 0, none⟩) 8 8, .slice A1 t.length c]).run Try.prog w1 = .ok k w2 ∧ w2.heap[b]? = some (.cells (us (t ++ List.replicate (8 - t.length) 0)).toArray 92 (0, 0)) ∧ w1.grownBy w2 (some b) ∧ w2.heap.size = w1.heap.size := by
  have hsz : (Try.prog.info? 5).map (·.size) = some 1 := by kernel_rfl
  rcases Nat.eq_zero_or_pos t.length with h0 | h0
  · have ht : t = [] := List.eq_nil_of_length_eq_zero h0
    subst ht
    exact ⟨w1, _, run_copy_none (P := Try.prog) w1 27 27 3 5 _ _ 8 8 _ _ Try.underlying27 hsz (by simp), by simpa using hb, World.grownBy.refl w1 _, rfl⟩
  · obtain ⟨rb, o, hA, _, _⟩ := hin.at_ (show 0 < (us t).length by rw [us_length]; exact h0)
    subst hA
    have hr := run_copy_row (P := Try.prog) w1 27 27 3 5 b 0 8 8 ⟨rb, o, none⟩ t.length c (us (List.replicate 8 0)).toArray 92 (us t) Try.underlying27 hsz hb (by rw [us_length]; show _ = min _ _; omega) (fun j v hv => by
      obtain ⟨b', o', e, _, hc⟩ := hin j v hv
      injection e with e
      injection e with e1 e2
      subst e1 e2
      rw [add_mk]; exact hc) (by simp [us]; exact hn) (us_one t)
    refine ⟨_, _, hr, ?_, ⟨rfl, rfl, rfl, by simp, fun k _ hk => setRow_other w1 b k _ (fun e => hk (by simp [e]))⟩, by simp⟩
    rw [setRow_heap w1 b _ _ _ _ hb]
    congr 3
    rw [us_length, List.take_zero, List.nil_append, Nat.zero_add, List.toList_toArray, ← us_drop, List.drop_replicate, us_append]

theorem index8_0 (w : World) (v0 v1 v2 v3 v4 v5 v6 v7 : Value) : (Instr.index 92 (.agg #[v0, v1, v2, v3, v4, v5, v6, v7]) (.int .i64 0)).run Try.prog w = .ok v0 w := by kernel_rfl
theorem index8_1 (w : World) (v0 v1 v2 v3 v4 v5 v6 v7 : Value) : (Instr.index 92 (.agg #[v0, v1, v2, v3, v4, v5, v6, v7]) (.int .i64 1)).run Try.prog w = .ok v1 w := by kernel_rfl
theorem index8_2 (w : World) (v0 v1 v2 v3 v4 v5 v6 v7 : Value) : (Instr.index 92 (.agg #[v0, v1, v2, v3, v4, v5, v6, v7]) (.int .i64 2)).run Try.prog w = .ok v2 w := by kernel_rfl
theorem index8_3 (w : World) (v0 v1 v2 v3 v4 v5 v6 v7 : Value) : (Instr.index 92 (.agg #[v0, v1, v2, v3, v4, v5, v6, v7]) (.int .i64 3)).run Try.prog w = .ok v3 w := by kernel_rfl
theorem index8_4 (w : World) (v0 v1 v2 v3 v4 v5 v6 v7 : Value) : (Instr.index 92 (.agg #[v0, v1, v2, v3, v4, v5, v6, v7]) (.int .i64 4)).run Try.prog w = .ok v4 w := by kernel_rfl
theorem index8_5 (w : World) (v0 v1 v2 v3 v4 v5 v6 v7 : Value) : (Instr.index 92 (.agg #[v0, v1, v2, v3, v4, v5, v6, v7]) (.int .i64 5)).run Try.prog w = .ok v5 w := by kernel_rfl
theorem index8_6 (w : World) (v0 v1 v2 v3 v4 v5 v6 v7 : Value) : (Instr.index 92 (.agg #[v0, v1, v2, v3, v4, v5, v6, v7]) (.int .i64 6)).run Try.prog w = .ok v6 w := by kernel_rfl
theorem index8_7 (w : World) (v0 v1 v2 v3 v4 v5 v6 v7 : Value) : (Instr.index 92 (.agg #[v0, v1, v2, v3, v4, v5, v6, v7]) (.int .i64 7)).run Try.prog w = .ok v7 w := by kernel_rfl
theorem index8 (w : World) (y0 y1 y2 y3 y4 y5 y6 y7 : UInt8) (k : Nat) (hk : k < 8) : (Instr.index 92 (.agg #[.int .u8 y0.toNat, .int .u8 y1.toNat, .int .u8 y2.toNat, .int .u8 y3.toNat, .int .u8 y4.toNat, .int .u8 y5.toNat, .int .u8 y6.toNat, .int .u8 y7.toNat]) (.int .i64 k)).run Try.prog w = .ok (.int .u8 (([y0, y1, y2, y3, y4, y5, y6, y7][k]'hk).toNat : Int)) w := by
  have h : k = 0 ∨ k = 1 ∨ k = 2 ∨ k = 3 ∨ k = 4 ∨ k = 5 ∨ k = 6 ∨ k = 7 := by omega
  rcases h with rfl | rfl | rfl | rfl | rfl | rfl | rfl | rfl
  · exact index8_0 w _ _ _ _ _ _ _ _
  · exact index8_1 w _ _ _ _ _ _ _ _
  · exact index8_2 w _ _ _ _ _ _ _ _
  · exact index8_3 w _ _ _ _ _ _ _ _
  · exact index8_4 w _ _ _ _ _ _ _ _
  · exact index8_5 w _ _ _ _ _ _ _ _
  · exact index8_6 w _ _ _ _ _ _ _ _
  · exact index8_7 w _ _ _ _ _ _ _ _

set_option maxHeartbeats 800000 in
theorem wideR_yes (w : World) (g rb : Nat) (l : List UInt8) (n : Nat) (hR : Rdr w g rb l false) (hn : n ≤ l.length) (hn8 : n ≤ 8) (hl : l.length ≤ 1000000000) :
    Calls Try.prog 55 #[.pointer (some ⟨g, 0, none⟩), .int .i64 n] w (Reads w g rb (.int .u64 (Code.leNat (l.take n))) (l.drop n) false) := by
  have HR := Lib.hid hR
  obtain ⟨A, c, h0, h1, f0, f1, hc, hm, hin⟩ := hR.parts
  have hg : g < w.heap.size := hR.lt
  clear hR hin
  go_enter Try.func55, Try.ntmps55
  go_wp2
  obtain ⟨W0, HW0⟩ : ∃ W0, Hid (w.alloc (.cells #[.int .u8 0, .int .u8 0, .int .u8 0, .int .u8 0, .int .u8 0, .int .u8 0, .int .u8 0, .int .u8 0] 92) = W0) := ⟨_, Lib.hid rfl⟩
  have HB0 := Lib.hid (show W0.heap[w.heap.size]? = some (.cells (us (List.replicate 8 0)).toArray 92 (0, 0)) by rw [← HW0.out]; exact heap_alloc_new w _)
  have hb0 : Below w.heap.size w W0 := by rw [← HW0.out]; exact (Below.refl _ _).alloc (Nat.le_refl _) _
  have HR0 := Lib.hid (HR.out.grow hb0)
  have hs0 : W0.heap.size = w.heap.size + 1 := by rw [← HW0.out]; simp
  have HS0 := Lib.hid hs0
  rw [HW0.out]
  clear HW0 hs0 h0 h1 f0 f1
  have htl : (l.take n).length = n := by simp; omega
  have HTL := Lib.hid htl
  clear htl
  go_region_held3 (fun w' => True) (trivial) (first
    | (go_at_call 58; refine (take_yes _ g rb l n (by exact HR0.out) hn hl).mono ?_; rintro e w1 ⟨A1, rfl, hi1, hr1, hc1, hs1⟩
       have hblk1 : w1.heap[w.heap.size]? = some (.cells (us (List.replicate 8 0)).toArray 92 (0, 0)) := by
         rw [hc1.block w.heap.size (by show _ < W0.heap.size; rw [HS0.out]; omega) (by omega) (by simp)]; exact HB0.out
       obtain ⟨w2, kk, hrun, hblk2, hg2, hsz2⟩ := run_copy8 w1 w.heap.size A1 w1.heap.size (l.take n) hblk1 hi1.has (by rw [HTL.out]; exact hn8) n
       rw [HTL.out] at hrun hblk2
       have HR1 := Lib.hid hr1
       have HC1 := Lib.hid hc1
       have HBLK2 := Lib.hid hblk2
       have HG2 := Lib.hid hg2
       clear hi1 hr1 hc1 hs1 hblk1 hblk2 hg2 hsz2))
  obtain ⟨ys, HYS⟩ : ∃ ys, Hid (l.take n ++ List.replicate (8 - n) 0 = ys) := ⟨_, Lib.hid rfl⟩
  have HLE := Lib.hid (show Code.leNat (l.take n) = Code.leNat ys by rw [← HYS.out, Code.leNat_append, leNat_zeros, Nat.mul_zero, Nat.add_zero])
  have hyl : ys.length = 8 := by rw [← HYS.out]; simp; omega
  rw [HYS.out] at HBLK2
  obtain ⟨y0, y1, y2, y3, y4, y5, y6, y7, hys⟩ := eight ys hyl
  have HCB := Lib.hid (show w2.heap[w.heap.size]? = some (.cells #[.int .u8 y0.toNat, .int .u8 y1.toNat, .int .u8 y2.toNat, .int .u8 y3.toNat, .int .u8 y4.toNat, .int .u8 y5.toNat, .int .u8 y6.toNat, .int .u8 y7.toNat] 92 (0, 0)) by
    have := HBLK2.out
    rw [hys] at this
    exact this)
  have HY := Lib.hid hys
  have c0 : w2.cell? ⟨w.heap.size, 0, none⟩ = some (.int .u8 y0.toNat) := by rw [cell_of_row w2 _ 0 _ _ _ HCB.out]; rfl
  have c1 : w2.cell? ⟨w.heap.size, 1, none⟩ = some (.int .u8 y1.toNat) := by rw [cell_of_row w2 _ 1 _ _ _ HCB.out]; rfl
  have c2 : w2.cell? ⟨w.heap.size, 2, none⟩ = some (.int .u8 y2.toNat) := by rw [cell_of_row w2 _ 2 _ _ _ HCB.out]; rfl
  have c3 : w2.cell? ⟨w.heap.size, 3, none⟩ = some (.int .u8 y3.toNat) := by rw [cell_of_row w2 _ 3 _ _ _ HCB.out]; rfl
  have c4 : w2.cell? ⟨w.heap.size, 4, none⟩ = some (.int .u8 y4.toNat) := by rw [cell_of_row w2 _ 4 _ _ _ HCB.out]; rfl
  have c5 : w2.cell? ⟨w.heap.size, 5, none⟩ = some (.int .u8 y5.toNat) := by rw [cell_of_row w2 _ 5 _ _ _ HCB.out]; rfl
  have c6 : w2.cell? ⟨w.heap.size, 6, none⟩ = some (.int .u8 y6.toNat) := by rw [cell_of_row w2 _ 6 _ _ _ HCB.out]; rfl
  have c7 : w2.cell? ⟨w.heap.size, 7, none⟩ = some (.int .u8 y7.toNat) := by rw [cell_of_row w2 _ 7 _ _ _ HCB.out]; rfl
  clear hys hyl hrun
  go_wp2
  have HFin := Lib.hid (show Reads w g rb (.int .u64 (Code.leNat (l.take n))) (l.drop n) false (.returned (.int .u64 (Code.leNat ys))) w2 by
    have hcd : Chg w w2 g none := ⟨HG2.out.os.trans (HC1.out.os.trans hb0.os), HG2.out.tape.trans (HC1.out.tape.trans hb0.tape), HG2.out.output.trans (HC1.out.output.trans hb0.output), Nat.le_trans hb0.size (Nat.le_trans HC1.out.size HG2.out.size), fun k hk h1 _ => by
      rw [HG2.out.block k (Nat.lt_of_lt_of_le hk (Nat.le_trans hb0.size HC1.out.size)) (by simp; omega), HC1.out.block k (Nat.lt_of_lt_of_le hk hb0.size) h1 (by simp)]
      exact hb0.block k hk⟩
    refine ⟨by rw [HLE.out], ?_, hcd⟩
    refine HR1.out.keep (g2 := w.heap.size) (r2 := none) ⟨HG2.out.os, HG2.out.tape, HG2.out.output, HG2.out.size, fun k hk h1 _ => HG2.out.block k hk (by simp; exact h1)⟩ (by omega) (by simp) (fun hd => ?_) (fun _ => by simp)
    have := HR.out.row_lt (by rw [List.length_drop] at hd; omega)
    omega)
  generalize l.take n = tl at *
  clear c0 c1 c2 c3 c4 c5 c6 c7 HBLK2 HCB
  go_loop [6, 19] (fun xv iv => ∃ k : Nat, k ≤ 8 ∧ iv = .int .i64 k ∧ xv = .int .u64 (Code.leNat (ys.take k))) (fun _ iv => 8 - (intOf iv).toNat)
  case atStart => exact ⟨0, by omega, rfl, rfl⟩
  case round =>
    obtain ⟨k, hk, rfl, rfl⟩ := hrel
    by_cases hk8 : k < 8
    · have hidx := index8 w2 y0 y1 y2 y3 y4 y5 y6 y7 k hk8
      have hkl : k < ys.length := by rw [HY.out]; exact hk8
      have hel : ([y0, y1, y2, y3, y4, y5, y6, y7][k]'hk8) = ys[k] := by simp only [HY.out]
      rw [hel] at hidx
      have HSn := Lib.hid (leNat_snoc ys k hkl)
      have hlt := Code.leNat_lt (ys.take k)
      rw [List.length_take, Nat.min_eq_left (by omega)] at hlt
      have hbt := ys[k].toNat_lt
      obtain ⟨eo, _⟩ := or_byte (Code.leNat (ys.take k)) ys[k].toNat k hlt (by omega) (by omega)
      rw [← HSn.out] at eo
      obtain ⟨y, hy⟩ : ∃ y, ys[k] = y := ⟨_, rfl⟩
      rw [hy] at hidx eo hbt
      clear hel hlt hy
      obtain ⟨x2, HX2⟩ : ∃ x2, Hid (Code.leNat (ys.take (k + 1)) = x2) := ⟨_, Lib.hid rfl⟩
      rw [HX2.out] at eo
      generalize Code.leNat (ys.take k) = x1 at *
      go_wp2
      go_round
      case rel => exact ⟨k + 1, by omega, by go_num, by rw [HX2.out]⟩
      case measure => simp [intOf]; omega
    · have HE := Lib.hid (show ys.take k = ys by rw [List.take_of_length_le]; rw [HY.out]; simp; omega)
      go_wp2
      go_ret
      rw [HE.out]
      exact HFin.out

set_option maxHeartbeats 800000 in
theorem wideR_no (w : World) (g rb : Nat) (l : List UInt8) (bad : Bool) (n : Nat) (hR : Rdr w g rb l bad) (hn : bad = true ∨ l.length < n) (hn8 : n ≤ 8) :
    Calls Try.prog 55 #[.pointer (some ⟨g, 0, none⟩), .int .i64 n] w (Reads w g rb (.int .u64 0) l true) := by
  have HR := Lib.hid hR
  have hg : g < w.heap.size := hR.lt
  clear hR
  go_enter Try.func55, Try.ntmps55
  go_wp2
  obtain ⟨W0, HW0⟩ : ∃ W0, Hid (w.alloc (.cells #[.int .u8 0, .int .u8 0, .int .u8 0, .int .u8 0, .int .u8 0, .int .u8 0, .int .u8 0, .int .u8 0] 92) = W0) := ⟨_, Lib.hid rfl⟩
  have HB0 := Lib.hid (show W0.heap[w.heap.size]? = some (.cells #[.int .u8 0, .int .u8 0, .int .u8 0, .int .u8 0, .int .u8 0, .int .u8 0, .int .u8 0, .int .u8 0] 92 (0, 0)) by rw [← HW0.out]; exact heap_alloc_new w _)
  have hb0 : Below w.heap.size w W0 := by rw [← HW0.out]; exact (Below.refl _ _).alloc (Nat.le_refl _) _
  have HR0 := Lib.hid (HR.out.grow hb0)
  have hs0 : W0.heap.size = w.heap.size + 1 := by rw [← HW0.out]; simp
  have HS0 := Lib.hid hs0
  rw [HW0.out]
  clear HW0 hs0
  have HSZ := Lib.hid (show (Try.prog.info? 5).map (·.size) = some 1 by kernel_rfl)
  go_region_held3 (fun w' => True) (trivial) (first
    | (go_at_call 58; refine (take_no _ g rb l bad n (by exact HR0.out) (by rcases hn with h | h; exact .inl h; exact .inr (.inr (by omega)))).mono ?_; rintro e w1 ⟨rfl, hr1, hc1, hs1⟩
       have hrun := run_copy_none (P := Try.prog) w1 27 27 3 5 (some ⟨w.heap.size, 0, none⟩) none 8 8 0 0 Try.underlying27 HSZ.out (by simp)
       have HR1 := Lib.hid hr1
       have HC1 := Lib.hid hc1
       have hblk1 : w1.heap[w.heap.size]? = some (.cells #[.int .u8 0, .int .u8 0, .int .u8 0, .int .u8 0, .int .u8 0, .int .u8 0, .int .u8 0, .int .u8 0] 92 (0, 0)) := by
         rw [hc1.block w.heap.size (by show _ < W0.heap.size; rw [HS0.out]; omega) (by omega) (by simp)]; exact HB0.out
       have HCB := Lib.hid hblk1
       clear hr1 hc1 hs1 hblk1))
  have c0 : w1.cell? ⟨w.heap.size, 0, none⟩ = some (.int .u8 0) := by rw [cell_of_row w1 _ 0 _ _ _ HCB.out]; rfl
  have c1 : w1.cell? ⟨w.heap.size, 1, none⟩ = some (.int .u8 0) := by rw [cell_of_row w1 _ 1 _ _ _ HCB.out]; rfl
  have c2 : w1.cell? ⟨w.heap.size, 2, none⟩ = some (.int .u8 0) := by rw [cell_of_row w1 _ 2 _ _ _ HCB.out]; rfl
  have c3 : w1.cell? ⟨w.heap.size, 3, none⟩ = some (.int .u8 0) := by rw [cell_of_row w1 _ 3 _ _ _ HCB.out]; rfl
  have c4 : w1.cell? ⟨w.heap.size, 4, none⟩ = some (.int .u8 0) := by rw [cell_of_row w1 _ 4 _ _ _ HCB.out]; rfl
  have c5 : w1.cell? ⟨w.heap.size, 5, none⟩ = some (.int .u8 0) := by rw [cell_of_row w1 _ 5 _ _ _ HCB.out]; rfl
  have c6 : w1.cell? ⟨w.heap.size, 6, none⟩ = some (.int .u8 0) := by rw [cell_of_row w1 _ 6 _ _ _ HCB.out]; rfl
  have c7 : w1.cell? ⟨w.heap.size, 7, none⟩ = some (.int .u8 0) := by rw [cell_of_row w1 _ 7 _ _ _ HCB.out]; rfl
  clear hrun
  go_wp2
  have HFin := Lib.hid (show Reads w g rb (.int .u64 0) l true (.returned (.int .u64 0)) w1 from
    ⟨rfl, HR1.out, ⟨HC1.out.os.trans hb0.os, HC1.out.tape.trans hb0.tape, HC1.out.output.trans hb0.output, Nat.le_trans hb0.size HC1.out.size, fun k hk h1 _ => by
      rw [HC1.out.block k (Nat.lt_of_lt_of_le hk hb0.size) h1 (by simp)]
      exact hb0.block k hk⟩⟩)
  clear c0 c1 c2 c3 c4 c5 c6 c7 HCB
  go_loop [6, 19] (fun xv iv => ∃ k : Nat, k ≤ 8 ∧ iv = .int .i64 k ∧ xv = .int .u64 0) (fun _ iv => 8 - (intOf iv).toNat)
  case atStart => exact ⟨0, by omega, rfl, rfl⟩
  case round =>
    obtain ⟨k, hk, rfl, rfl⟩ := hrel
    by_cases hk8 : k < 8
    · have hidx := index8 w1 0 0 0 0 0 0 0 0 k hk8
      have hz : ([0, 0, 0, 0, 0, 0, 0, 0][k]'hk8 : UInt8) = 0 := by
        have h : k = 0 ∨ k = 1 ∨ k = 2 ∨ k = 3 ∨ k = 4 ∨ k = 5 ∨ k = 6 ∨ k = 7 := by omega
        rcases h with rfl | rfl | rfl | rfl | rfl | rfl | rfl | rfl <;> rfl
      rw [hz] at hidx
      have hidx' : (Instr.index 92 (.agg #[.int .u8 0, .int .u8 0, .int .u8 0, .int .u8 0, .int .u8 0, .int .u8 0, .int .u8 0, .int .u8 0]) (.int .i64 k)).run Try.prog w1 = .ok (.int .u8 0) w1 := hidx
      clear hidx hz
      obtain ⟨eo, _⟩ := or_byte 0 0 k (Nat.pow_pos (by omega)) (by omega) (by omega)
      have eo' : bits .or .u64 (0 : Int) (IntKind.u64.wrap ((0 : Int) * 2 ^ (8 * k))) = 0 := by simpa using eo
      clear eo
      go_wp2
      go_round
      case rel => exact ⟨k + 1, by omega, by go_num, by first | rfl | (simp only [Int.zero_mul] at *; first | rfl | simp_all)⟩
      case measure => simp [intOf]; omega
    · go_wp2
      go_ret
      exact HFin.out
end Go.Proofs.Ytbnjlminjopaaaa
