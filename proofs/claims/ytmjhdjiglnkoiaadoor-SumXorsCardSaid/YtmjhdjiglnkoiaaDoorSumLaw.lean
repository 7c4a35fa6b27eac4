/- The walks of the laws' own helpers of layer 1: long, awake, turn. -/
import Derived.Test.YtmjhdjiglnkoiaaDoorSum3
namespace Go.Proofs.YtmjhdjiglnkoiaaDoor
open Go Go.RowKit
set_option linter.unusedVariables false

/-- what 'long' answers, from a place on -/
def longB : Nat → Nat → List (List UInt8) → Bool
  | _, _, [] => false
  | n, i, l :: r => if n + l.length > 65536 ∨ i > 4096 then true else longB (n + l.length) (i + 1) r
theorem longB_false : ∀ (ls : List (List UInt8)) (n i : Nat), longB n i ls = false → ls.flatten.length ≤ 65536 ∧ n + ls.flatten.length ≤ max n 65536 ∧ i + ls.length ≤ max i 4097
  | [], n, i, _ => by simp; omega
  | l :: r, n, i, h => by
    rw [longB] at h
    split at h
    · cases h
    · obtain ⟨h1, h2, h3⟩ := longB_false r _ _ h
      simp only [List.flatten_cons, List.length_append, List.length_cons]
      omega
theorem longB_one (l : List UInt8) : longB 0 0 [l] = decide (65536 < l.length) := by
  simp [longB]

set_option maxHeartbeats 400000 in
theorem long_any (w : World) (B : Nat) (A : Option Addr) (c : Nat) (vs : List Value) (ls : List (List UInt8)) (hA : Has w B A vs) (hP : Parts w B vs ls) (hl : vs.length ≤ 9223372036854775807) :
    Calls Tryd.prog 11 #[.slice A vs.length c] w fun e w' => e = .returned (.bool (longB 0 0 ls)) ∧ w = w' := by
  have HP := Lib.hid hP
  clear hP
  have HA := Lib.hid hA
  clear hA
  go_enter Tryd.func11, Tryd.ntmps11
  go_wp2
  go_loop [3, 4] (fun s i => ∃ k n : Nat, k ≤ vs.length ∧ k ≤ 4097 ∧ n ≤ 65536 ∧ i = .int .i64 k ∧ s = .int .i64 n ∧ Hid (longB n k (ls.drop k) = longB 0 0 ls)) (fun _ i => vs.length - (intOf i).toNat)
  case atStart => exact ⟨0, 0, Nat.zero_le _, by omega, by omega, rfl, rfl, Lib.hid rfl⟩
  case round =>
    obtain ⟨k, n, hk, hk2, hn, rfl, rfl, HL⟩ := hrel
    by_cases hlt : k < vs.length
    · obtain ⟨b, o, rfl, hb, hcell⟩ := HA.out.at_ hlt
      obtain ⟨A', c', hv, hc1, hc2, hr, hh⟩ := HP.out.at_ hlt
      rw [hv] at hcell
      have hlk : k < ls.length := by have := HP.out.1; omega
      have HS := Lib.hid (show longB n k (ls.drop k) = if n + ls[k].length > 65536 ∨ k > 4096 then true else longB (n + ls[k].length) (k + 1) (ls.drop (k + 1)) by
        rw [List.drop_eq_getElem_cons hlk, longB])
      generalize ls[k] = l at *
      clear hh hv
      by_cases h1 : 65536 < n + l.length
      · have HS2 := Lib.hid (HS.out.trans (if_pos (.inl h1)))
        have hi1 : (65536 : Int) < (n : Int) + (l.length : Int) := by omega
        go_wp2
        go_ret
        exact ⟨by rw [← HL.out, HS2.out]; rfl, rfl⟩
      · by_cases h2 : 4096 < k
        · have HS2 := Lib.hid (HS.out.trans (if_pos (.inr h2)))
          go_wp2
          go_ret
          exact ⟨by rw [← HL.out, HS2.out]; rfl, rfl⟩
        · have HS2 := Lib.hid (HS.out.trans (if_neg (by omega)))
          go_wp2
          go_round
          case rel => exact ⟨k + 1, n + l.length, by omega, by omega, by omega, by go_num, by go_num, by rw [← HL.out, HS2.out]; exact Lib.hid rfl⟩
          case measure => simp [intOf]; omega
    · have HD := Lib.hid (show ls.drop k = [] by
        rw [List.drop_eq_nil_iff]; have := HP.out.1; omega)
      go_wp2
      go_ret
      exact ⟨by rw [← HL.out, HD.out]; rfl, rfl⟩

theorem fact_seal : Crc.sealed [97] = [97, 48, 67, 208, 193] := by decide +kernel
theorem fact_open : Crc.opened [97, 48, 67, 208, 192] = none := by decide +kernel
theorem fact_none : Crc.of ([] : List (List UInt8)).flatten = 0 := by decide +kernel
theorem fact_nine : Crc.of [[49, 50, 51, 52], [], [53, 54, 55, 56, 57]].flatten = 3808858755 := by decide +kernel

set_option maxHeartbeats 400000 in
theorem awake_any (w : World) (hT : Table w) : Calls Tryd.prog 12 #[] w fun e w' => e = .returned (.bool true) ∧ Below w.heap.size w w' := by
  have HT := Lib.hid hT
  clear hT
  have kc := conv1
  have kc2 := conv2
  go_enter Tryd.func12, Tryd.ntmps12
  go_wp2_with fail
  refine (seal_any _ (HT.out.alloc _) (w.heap.size + 1) _ 1 [97] (has_lit rfl) (by simp) (by simp) (by unfold maxLen; omega) (by simp)).mono ?_
  rintro e w1 ⟨v1, rfl, ho1, hb1⟩
  have hb1' : Below w.heap.size w w1 := ((Below.refl _ _).alloc (Nat.le_refl _) _).trans (hb1.mono (by simp))
  clear hb1
  rw [fact_seal] at ho1
  obtain ⟨A1, c1, rfl, hc1, hm1, h1⟩ := ho1.form
  have HO1 := Lib.hid ho1
  have H1 := Lib.hid h1
  clear ho1 h1
  go_wp2_with fail
  refine (open_any _ ((HT.out.below hb1' HT.out.lt).alloc _) (w1.heap.size + 1) _ 5 [97, 48, 67, 208, 192] (has_lit rfl) (by simp) (by simp) (by unfold maxLen; omega) (by simp)).mono ?_
  rintro e w2 (⟨m, v, hno, _⟩ | ⟨_, rfl, hb2⟩)
  · rw [fact_open] at hno; cases hno
  have hb2' : Below w1.heap.size w1 w2 := ((Below.refl _ _).alloc (Nat.le_refl _) _).trans (hb2.mono (by simp))
  clear hb2
  have hb3 := hb1'.trans (hb2'.mono hb1'.size)
  go_wp2_with fail
  refine (of_any _ (HT.out.below hb3 HT.out.lt) 0 none 0 [] [] Has.nil ⟨rfl, fun i v l hv => by simp at hv⟩ (by simp)).mono ?_
  rintro e w3 ⟨rfl, rfl⟩
  rw [fact_none]
  go_wp2_with fail
  have hx : Parts (((w2.alloc (.cells #[.int .u8 49, .int .u8 50, .int .u8 51, .int .u8 52] 5 (4, 5))).alloc (.cells #[.int .u8 53, .int .u8 54, .int .u8 55, .int .u8 56, .int .u8 57] 5 (5, 6))).alloc (.cells #[.slice (some ⟨w2.heap.size, 0, none⟩) 4 4, .slice none 0 0, .slice (some ⟨w2.heap.size + 1, 0, none⟩) 5 5] 25)) (w2.heap.size + 3)
      [.slice (some ⟨w2.heap.size, 0, none⟩) 4 4, .slice none 0 0, .slice (some ⟨w2.heap.size + 1, 0, none⟩) 5 5] [[49, 50, 51, 52], [], [53, 54, 55, 56, 57]] := by
    refine Parts.cons ?_ (Parts.cons ?_ (Parts.cons ?_ Parts.nil))
    · refine Sl.mk' (l := [49, 50, 51, 52]) ((((has_lit (w := w2) rfl).alloc (by simp) _).alloc (by simp) _).more (by omega)) (by simp) (by unfold maxLen; omega) (by simp)
    · exact Sl.mk' (l := []) Has.nil (by simp) (by unfold maxLen; omega) (by simp)
    · have := has_lit (w := w2.alloc (.cells #[.int .u8 49, .int .u8 50, .int .u8 51, .int .u8 52] 5 (4, 5))) (t := 5) (fr := (5, 6)) (m := [53, 54, 55, 56, 57]) rfl
      simp only [World.size_alloc] at this
      exact Sl.mk' (l := [53, 54, 55, 56, 57]) ((this.alloc (by simp) _).more (by omega)) (by simp) (by unfold maxLen; omega) (by simp)
  refine (of_any _ ((((HT.out.below hb3 HT.out.lt).alloc _).alloc _).alloc _) (w2.heap.size + 3) _ 3 _ _ ?_ hx (by simp)).mono ?_
  · have := has_new ((w2.alloc (.cells #[.int .u8 49, .int .u8 50, .int .u8 51, .int .u8 52] 5 (4, 5))).alloc (.cells #[.int .u8 53, .int .u8 54, .int .u8 55, .int .u8 56, .int .u8 57] 5 (5, 6))) #[.slice (some ⟨w2.heap.size, 0, none⟩) 4 4, .slice none 0 0, .slice (some ⟨w2.heap.size + 1, 0, none⟩) 5 5] 25
    simpa using this
  rintro e w4 ⟨rfl, rfl⟩
  rw [fact_nine]
  clear hx
  have hb4 : Below w1.heap.size w1 (((w2.alloc (.cells #[.int .u8 49, .int .u8 50, .int .u8 51, .int .u8 52] 5 (4, 5))).alloc (.cells #[.int .u8 53, .int .u8 54, .int .u8 55, .int .u8 56, .int .u8 57] 5 (5, 6))).alloc (.cells #[.slice (some ⟨w2.heap.size, 0, none⟩) 4 4, .slice none 0 0, .slice (some ⟨w2.heap.size + 1, 0, none⟩) 5 5] 25)) :=
    ((hb2'.alloc hb2'.size _).alloc (le_alloc hb2'.size _) _).alloc (le_alloc (le_alloc hb2'.size _) _) _
  generalize ((w2.alloc (.cells #[.int .u8 49, .int .u8 50, .int .u8 51, .int .u8 52] 5 (4, 5))).alloc (.cells #[.int .u8 53, .int .u8 54, .int .u8 55, .int .u8 56, .int .u8 57] 5 (5, 6))).alloc (.cells #[.slice (some ⟨w2.heap.size, 0, none⟩) 4 4, .slice none 0 0, .slice (some ⟨w2.heap.size + 1, 0, none⟩) 5 5] 25) = w4 at *
  have e1 := run_str (c := c1) (H1.out.below hb4)
  simp only [List.length_cons, List.length_nil] at e1
  go_wp2
  go_ret
  exact ⟨rfl, hb1'.trans (hb4.mono hb1'.size)⟩
end Go.Proofs.YtmjhdjiglnkoiaaDoor
