/- The walks of package code's Writer: Put, Text, Raw, Bytes, Len, and the wide ones; slices.Clone of bytes. -/
import Derived.Test.YtbnjlminjopaaaaCodeW2
namespace Go.Proofs.Ytbnjlminjopaaaa
open Go Go.RowKit
set_option linter.unusedVariables false
set_option maxRecDepth 100000

/-- numbers of 64 bits in memory -/
def u64s (l : List Nat) : List Value := l.map fun n : Nat => .int .u64 (n : Int)
theorem u64s_length (l : List Nat) : (u64s l).length = l.length := by simp [u64s]
theorem shorts_snoc (l : List Nat) (x : Nat) : Code.shorts (l ++ [x]) = Code.shorts l ++ Code.short x := by simp [Code.shorts]
theorem shorts_length (l : List Nat) : (Code.shorts l).length ≤ 11 * l.length := by
  induction l with
  | nil => simp [Code.shorts]
  | cons x l ih =>
    have h1 := (Code.short_length x).2
    have h2 : Code.shorts (x :: l) = Code.short x ++ Code.shorts l := by simp [Code.shorts]
    rw [h2, List.length_append, List.length_cons]
    omega

set_option maxHeartbeats 400000 in
theorem textW_any (w : World) (base g : Nat) (r : Option Nat) (l m : List UInt8) (hW : Wtr w base g r l) (hb : base ≤ w.heap.size) (hl : l.length + m.length ≤ 100000000) :
    Calls Try.prog 32 #[.pointer (some ⟨g, 0, none⟩), .string ⟨m.toArray⟩] w (Writes w base g r (l ++ Code.text m)) := by
  have HW := Lib.hid hW
  clear hW
  have hsz := size_str m
  go_enter Try.func32, Try.ntmps32
  go_wp2_with fail
  refine (uint_any w base g r l m.length HW.out hb (by omega) (by omega)).mono ?_
  rintro e w1 ⟨rfl, r1, hw1, hc1, hm1⟩
  have HC1 := Lib.hid hc1
  have HM1 := Lib.hid hm1
  have hsl := (Code.short_length m.length).2
  obtain ⟨l1, HL1⟩ : ∃ l1, Hid (l ++ Code.short m.length = l1) := ⟨_, Lib.hid rfl⟩
  have hl1 : l1.length ≤ l.length + 11 := by rw [← HL1.out, List.length_append]; omega
  have hsz1 := hc1.size
  rw [HL1.out] at hw1
  obtain ⟨v, hv, hrv, hown, hbg⟩ := hw1
  have HV := Lib.hid hv
  have HO := Lib.hid hown
  have HRv := Lib.hid hrv
  have hc0 : w1.cell? ⟨g, 0, none⟩ = some v := by rw [cell_of_row w1 g 0 _ _ _ hv]; rfl
  clear hv hown hrv hc1 hm1
  go_wp2_with (at_builtin; go_must (refine wp_app_str (base := base) rfl rfl (by rfl) (by rfl) (l := l1) (m := m) HO.out (by omega) (by omega) ?_); intro v4 w4 hown4 hb4 hg4 hat4
               obtain ⟨l4, HL4⟩ : ∃ l4, Hid (l1 ++ m = l4) := ⟨_, Lib.hid rfl⟩
               rw [HL4.out] at hown4
               obtain ⟨A4, c4, rfl, _, _, _⟩ := hown4.form
               obtain ⟨hc4, hf4, hw4, hch4, hmv4⟩ := Wtr.store0 HV.out HO.out hbg hown4 hg4 hat4
               have HW4 := Lib.hid hw4
               have HC4 := Lib.hid hch4
               have HM4 := Lib.hid hmv4
               clear hw4 hch4 hmv4 hown4 hb4 hg4 hat4)
  go_end0
  refine ⟨rfl, _, ?_, HC1.out.trans (by rw [← HRv.out]; exact HC4.out) HM1.out, HM1.out.trans (by rw [← HRv.out]; exact HM4.out) HC1.out.size⟩
  rw [show l ++ Code.text m = l4 by rw [← HL4.out, ← HL1.out]; simp [Code.text]]
  exact HW4.out

set_option maxHeartbeats 400000 in
theorem clone_any (w : World) (B : Nat) (A : Option Addr) (c : Nat) (l : List UInt8) (h : Has w B A (us l)) (hB : B ≤ w.heap.size) (hl : l.length ≤ 1000000000) :
    Calls Try.prog 54 #[.slice A l.length c] w fun e w' => ∃ v, e = .returned v ∧ Own w' w.heap.size v l ∧ Below w.heap.size w w' := by
  rcases A with _ | a
  · have hl0 : l = [] := by
      cases l with
      | nil => rfl
      | cons x l =>
        obtain ⟨b, o, h, _⟩ := h.at_ (show 0 < (us (x :: l)).length by simp [us])
        cases h
    subst hl0
    have hq := Lib.run_eql_slice_nil (P := Try.prog) w 27 5 none 0 c 0 0 Try.underlying27
    go_enter Try.func54, Try.ntmps54
    go_wp2
    go_ret
    exact ⟨_, rfl, Own.nil _ _, Below.refl _ _⟩
  · have hq := Lib.run_eql_slice_nil (P := Try.prog) w 27 5 (some a) l.length c 0 0 Try.underlying27
    go_enter Try.func54, Try.ntmps54
    go_wp2_with (at_builtin; refine wp_app (c := c) rfl rfl (by rfl) (by rfl) (own_empty w) (h.alloc hB _) (by simp; omega) (by simp) ?_; intro v' w1 hown1 hb1 _ _)
    go_ret
    exact ⟨v', rfl, hown1, ((Below.refl _ _).alloc (Nat.le_refl _) _).trans hb1⟩

set_option maxHeartbeats 400000 in
theorem bytes_any (w : World) (base g : Nat) (r : Option Nat) (l : List UInt8) (hW : Wtr w base g r l) (hl : l.length ≤ 1000000000) :
    Calls Try.prog 35 #[.pointer (some ⟨g, 0, none⟩)] w fun e w' => ∃ v, e = .returned v ∧ Own w' w.heap.size v l ∧ Below w.heap.size w w' := by
  obtain ⟨v, hv, hrv, hown, hbg⟩ := hW
  obtain ⟨A, c, rfl, h1, h2, h3⟩ := hown.form
  have hc0 : w.cell? ⟨g, 0, none⟩ = some (.slice A l.length c) := by rw [cell_of_row w g 0 _ _ _ hv]; rfl
  have H3 := Lib.hid h3
  clear hv hown hrv h3
  go_enter Try.func35, Try.ntmps35
  go_wp2_with fail
  refine (clone_any w w.heap.size A c l H3.out (Nat.le_refl _) hl).mono ?_
  rintro e w1 ⟨v1, rfl, ho1, hb1⟩
  go_wp2
  go_ret
  exact ⟨v1, rfl, ho1, hb1⟩

end Go.Proofs.Ytbnjlminjopaaaa
