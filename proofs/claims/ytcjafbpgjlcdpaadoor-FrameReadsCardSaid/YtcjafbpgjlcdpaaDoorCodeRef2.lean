/- The walks of the reference of layer 2: Short, Text, Wide. -/
import Derived.Test.YtcjafbpgjlcdpaaDoorCodeRef
namespace Go.Proofs.YtcjafbpgjlcdpaaDoor
open Go Go.RowKit
set_option linter.unusedVariables false
set_option maxRecDepth 100000

theorem take_snoc_at (l : List UInt8) (k : Nat) (hk : k < l.length) : l.take (k + 1) = l.take k ++ [l[k]] := List.take_succ_eq_append_getElem hk

set_option maxHeartbeats 400000 in
theorem refShort_any (w : World) (x : Nat) (hx : x < 18446744073709551616) :
    Calls Tryd.prog 28 #[.int .u64 x] w fun e w' => ∃ v, e = .returned v ∧ Own w' w.heap.size v (Code.short x) ∧ Below w.heap.size w w' := by
  have HX := Lib.hid hx
  clear hx
  go_enter Tryd.func28, Tryd.ntmps28
  go_wp2_with fail
  refine (digits_any w x 128 HX.out (by omega) (by omega)).mono ?_
  rintro e w1 ⟨v1, rfl, ho1, hb1⟩
  obtain ⟨A1, c1, rfl, hc1, hm1, h1⟩ := ho1.form
  have H1 := Lib.hid h1
  have HM := Lib.hid (short_marked x HX.out)
  have HL := Lib.hid (show ∀ d ∈ digs 128 x, d < 128 from digsF_lt 64 128 x (by omega))
  have hlen := (digsF_length 64 128 x).2
  rw [show digsF 64 128 x = digs 128 x from rfl] at hlen
  clear ho1 h1
  generalize digs 128 x = ds at *
  go_wp2
  go_loopw [4, 5] (fun v iv wr => ∃ k : Nat, k ≤ ds.length ∧ iv = .int .i64 k ∧ Hid (Own wr w1.heap.size v ((marked ds).take k)) ∧ Hid (Below w1.heap.size w1 wr)) (fun _ iv _ => ds.length - (intOf iv).toNat)
  case atStart => exact ⟨0, Nat.zero_le _, rfl, Lib.hid (Own.nil _ _), Lib.hid (Below.refl _ _)⟩
  case round =>
    obtain ⟨k, hk, rfl, HO, HB⟩ := hrel
    by_cases hkt : k < ds.length
    · obtain ⟨b, o, rfl, hbB, hcell0⟩ := H1.out.at_ (show k < (u64s ds).length by rw [u64s_length]; exact hkt)
      have hcell : wr.cell? ⟨b, o + k, none⟩ = some (.int .u64 (ds[k] : Int)) := by
        rw [HB.out.cell (p := ⟨b, o + k, none⟩) hbB, hcell0]; simp [u64s]
      have hd := HL.out ds[k] (List.getElem_mem hkt)
      have HT := Lib.hid (show (marked ds).take (k + 1) = (marked ds).take k ++ [UInt8.ofNat (ds[k] + if k + 1 < ds.length then 128 else 0)] by
        rw [take_snoc_at _ k (by rw [marked_length]; exact hkt), marked_at ds k hkt])
      have hml : ((marked ds).take k).length ≤ 65 := by rw [List.length_take, marked_length]; omega
      generalize (marked ds).take k = m at *
      clear hcell0
      obtain ⟨d, Hd⟩ : ∃ d, Hid (ds[k] = d) := ⟨_, Lib.hid rfl⟩
      rw [Hd.out] at hcell hd HT
      by_cases hl : k + 1 < ds.length
      · rw [if_pos hl] at HT
        have HU := Lib.hid (show us [UInt8.ofNat (d + 128)] = [.int .u8 ((d : Int) + 128)] by simp [us]; omega)
        go_wp2_with (at_builtin; go_must (refine wp_app (c := 1) (base := w1.heap.size) (A := some ⟨wr.heap.size, 0, none⟩) (m := [UInt8.ofNat (d + 128)]) rfl rfl (by rfl) (by rfl) (l := m) (HO.out.alloc _) (has_lit HU.out) (by simp; omega) (le_alloc HB.out.size _) ?_); intro v4 w4 hown4 hb4 _ _)
        go_roundw
        case rel => exact ⟨k + 1, by omega, by go_num, by rw [HT.out]; exact Lib.hid hown4, Lib.hid ((HB.out.alloc HB.out.size _).trans hb4)⟩
        case measure => simp [intOf]; omega
      · rw [if_neg hl] at HT
        have HU := Lib.hid (show us [UInt8.ofNat (d + 0)] = [.int .u8 (d : Int)] by simp [us]; omega)
        go_wp2_with (at_builtin; go_must (refine wp_app (c := 1) (base := w1.heap.size) (A := some ⟨wr.heap.size, 0, none⟩) (m := [UInt8.ofNat (d + 0)]) rfl rfl (by rfl) (by rfl) (l := m) (HO.out.alloc _) (has_lit HU.out) (by simp; omega) (le_alloc HB.out.size _) ?_); intro v4 w4 hown4 hb4 _ _)
        go_roundw
        case rel => exact ⟨k + 1, by omega, by go_num, by rw [HT.out]; exact Lib.hid hown4, Lib.hid ((HB.out.alloc HB.out.size _).trans hb4)⟩
        case measure => simp [intOf]; omega
    · have HE := Lib.hid (show (marked ds).take k = Code.short x by rw [HM.out, List.take_of_length_le]; rw [marked_length]; omega)
      go_wp2
      go_ret
      exact ⟨_, rfl, by rw [← HE.out]; exact own_mono HO.out hb1.size, hb1.trans (HB.out.mono hb1.size)⟩
end Go.Proofs.YtcjafbpgjlcdpaaDoor
