/- The walks of package code's Writer: Put, Text, Raw, Bytes, Len, and the wide ones; slices.Clone of bytes. -/
import Derived.Test.YtcjafbpgjlcdpaaDoorCodeW2
namespace Go.Proofs.YtcjafbpgjlcdpaaDoor
open Go Go.RowKit
set_option linter.unusedVariables false
set_option maxRecDepth 100000

/-- numbers of 64 bits in memory -/
def u64s (l : List Nat) : List Value := l.map fun n : Nat => .int .u64 (n : Int)
theorem u64s_length (l : List Nat) : (u64s l).length = l.length := by simp [u64s]
theorem shorts_snoc (l : List Nat) (x : Nat) : Code.shorts (l ++ [x]) = Code.shorts l ++ Code.short x := by simp [Code.shorts]
theorem shorts_length (l : List Nat) : (Code.shorts l).length ≤ 11 * l.length := by
  induction l with
  | nil => simp [Code.shorts]
  | cons x l ih =>
    have h1 := (Code.short_length x).2
    have h2 : Code.shorts (x :: l) = Code.short x ++ Code.shorts l := by simp [Code.shorts]
    rw [h2, List.length_append, List.length_cons]
    omega

set_option maxHeartbeats 400000 in
theorem put_any (w : World) (base g : Nat) (r : Option Nat) (l : List UInt8) (A : Option Addr) (c : Nat) (xs : List Nat) (hW : Wtr w base g r l) (hb : base ≤ w.heap.size) (hA : Has w w.heap.size A (u64s xs)) (hsep : 0 < xs.length → ∀ b o : Nat, A = some ⟨b, o, none⟩ → b ≠ g ∧ some b ≠ r) (hx : ∀ x ∈ xs, x < 18446744073709551616) (hl : l.length + 11 * xs.length ≤ 1000000000) :
    Calls Tryd.prog 24 #[.pointer (some ⟨g, 0, none⟩), .slice A xs.length c] w (Writes w base g r (l ++ Code.shorts xs)) := by
  have HW := Lib.hid hW
  have HX := Lib.hid hx
  have HA := Lib.hid hA
  have HSep := Lib.hid hsep
  clear hW hx hA hsep
  go_enter Tryd.func24, Tryd.ntmps24
  go_wp2
  go_loopw [8] (fun iv wr => ∃ (k : Nat) (r' : Option Nat), k ≤ xs.length ∧ iv = .int .i64 k ∧ Hid (Wtr wr base g r' (l ++ Code.shorts (xs.take k))) ∧ Hid (Chg w wr g r) ∧ Hid (Moved w r r')) (fun iv _ => xs.length - (intOf iv).toNat)
  case atStart => exact ⟨0, r, Nat.zero_le _, rfl, by simpa [Code.shorts] using HW, Lib.hid (Chg.refl _ _ _), Lib.hid (Moved.refl _ _)⟩
  case round =>
    obtain ⟨k, r', hk, rfl, HWr, HC, HM⟩ := hrel
    by_cases hkt : k < xs.length
    · obtain ⟨b, o, rfl, hbB, hcell0⟩ := HA.out.at_ (show k < (u64s xs).length by rw [u64s_length]; exact hkt)
      have hcell : wr.cell? ⟨b, o + k, none⟩ = some (.int .u64 (xs[k] : Int)) := by
        obtain ⟨s1, s2⟩ := HSep.out (by omega) b o rfl
        rw [World.cell?_of_block (w := w) (a := ⟨b, o + k, none⟩) (HC.out.block b hbB s1 s2), hcell0]
        simp [u64s]
      have HXk := Lib.hid (HX.out xs[k] (List.getElem_mem hkt))
      have HS := Lib.hid (show Code.shorts (xs.take (k + 1)) = Code.shorts (xs.take k) ++ Code.short xs[k] by rw [List.take_succ_eq_append_getElem hkt, shorts_snoc])
      have hlk : (l ++ Code.shorts (xs.take k)).length ≤ 1000000000 := by
        have h1 := shorts_length (xs.take k)
        rw [List.length_take] at h1
        rw [List.length_append]
        omega
      clear hcell0
      generalize xs[k] = x at *
      go_wp2_with fail
      refine (uint_any wr base g r' (l ++ Code.shorts (xs.take k)) x HWr.out (Nat.le_trans hb HC.out.size) HXk.out hlk).mono ?_
      rintro e w1 ⟨rfl, r1, hw1, hc1, hm1⟩
      have HW1 := Lib.hid hw1
      have HC1 := Lib.hid hc1
      have HM1 := Lib.hid hm1
      clear hw1 hc1 hm1
      go_wp2_with fail
      go_roundw
      case rel => exact ⟨k + 1, r1, by omega, by go_num, by rw [HS.out, ← List.append_assoc]; exact HW1, Lib.hid (HC.out.trans HC1.out HM.out), Lib.hid (HM.out.trans HM1.out HC.out.size)⟩
      case measure => simp [intOf]; omega
    · have HE := Lib.hid (show xs.take k = xs by rw [List.take_of_length_le (by omega)])
      go_wp2
      go_end0
      exact ⟨rfl, r', by rw [← HE.out]; exact HWr.out, HC.out, HM.out⟩

set_option maxHeartbeats 400000 in
theorem textW_any (w : World) (base g : Nat) (r : Option Nat) (l m : List UInt8) (hW : Wtr w base g r l) (hb : base ≤ w.heap.size) (hl : l.length + m.length ≤ 100000000) :
    Calls Tryd.prog 25 #[.pointer (some ⟨g, 0, none⟩), .string ⟨m.toArray⟩] w (Writes w base g r (l ++ Code.text m)) := by
  have HW := Lib.hid hW
  clear hW
  have hsz := size_str m
  go_enter Tryd.func25, Tryd.ntmps25
  go_wp2_with fail
  refine (uint_any w base g r l m.length HW.out hb (by omega) (by omega)).mono ?_
  rintro e w1 ⟨rfl, r1, hw1, hc1, hm1⟩
  have HC1 := Lib.hid hc1
  have HM1 := Lib.hid hm1
  have hsl := (Code.short_length m.length).2
  obtain ⟨l1, HL1⟩ : ∃ l1, Hid (l ++ Code.short m.length = l1) := ⟨_, Lib.hid rfl⟩
  have hl1 : l1.length ≤ l.length + 11 := by rw [← HL1.out, List.length_append]; omega
  have hsz1 := hc1.size
  rw [HL1.out] at hw1
  obtain ⟨v, hv, hrv, hown, hbg⟩ := hw1
  have HV := Lib.hid hv
  have HO := Lib.hid hown
  have HRv := Lib.hid hrv
  have hc0 : w1.cell? ⟨g, 0, none⟩ = some v := by rw [cell_of_row w1 g 0 _ _ _ hv]; rfl
  clear hv hown hrv hc1 hm1
  go_wp2_with (at_builtin; go_must (refine wp_app_str (base := base) rfl rfl (by rfl) (by rfl) (l := l1) (m := m) HO.out (by omega) (by omega) ?_); intro v4 w4 hown4 hb4 hg4 hat4
               obtain ⟨l4, HL4⟩ : ∃ l4, Hid (l1 ++ m = l4) := ⟨_, Lib.hid rfl⟩
               rw [HL4.out] at hown4
               obtain ⟨A4, c4, rfl, _, _, _⟩ := hown4.form
               obtain ⟨hc4, hf4, hw4, hch4, hmv4⟩ := Wtr.store0 HV.out HO.out hbg hown4 hg4 hat4
               have HW4 := Lib.hid hw4
               have HC4 := Lib.hid hch4
               have HM4 := Lib.hid hmv4
               clear hw4 hch4 hmv4 hown4 hb4 hg4 hat4)
  go_end0
  refine ⟨rfl, _, ?_, HC1.out.trans (by rw [← HRv.out]; exact HC4.out) HM1.out, HM1.out.trans (by rw [← HRv.out]; exact HM4.out) HC1.out.size⟩
  rw [show l ++ Code.text m = l4 by rw [← HL4.out, ← HL1.out]; simp [Code.text]]
  exact HW4.out

set_option maxHeartbeats 400000 in
theorem clone_any (w : World) (B : Nat) (A : Option Addr) (c : Nat) (l : List UInt8) (h : Has w B A (us l)) (hB : B ≤ w.heap.size) (hl : l.length ≤ 1000000000) :
    Calls Tryd.prog 43 #[.slice A l.length c] w fun e w' => ∃ v, e = .returned v ∧ Own w' w.heap.size v l ∧ Below w.heap.size w w' := by
  rcases A with _ | a
  · have hl0 : l = [] := by
      cases l with
      | nil => rfl
      | cons x l =>
        obtain ⟨b, o, h, _⟩ := h.at_ (show 0 < (us (x :: l)).length by simp [us])
        cases h
    subst hl0
    have hq := Lib.run_eql_slice_nil (P := Tryd.prog) w 23 5 none 0 c 0 0 Tryd.underlying23
    go_enter Tryd.func43, Tryd.ntmps43
    go_wp2
    go_ret
    exact ⟨_, rfl, Own.nil _ _, Below.refl _ _⟩
  · have hq := Lib.run_eql_slice_nil (P := Tryd.prog) w 23 5 (some a) l.length c 0 0 Tryd.underlying23
    go_enter Tryd.func43, Tryd.ntmps43
    go_wp2_with (at_builtin; refine wp_app (c := c) rfl rfl (by rfl) (by rfl) (own_empty w) (h.alloc hB _) (by simp; omega) (by simp) ?_; intro v' w1 hown1 hb1 _ _)
    go_ret
    exact ⟨v', rfl, hown1, ((Below.refl _ _).alloc (Nat.le_refl _) _).trans hb1⟩

set_option maxHeartbeats 400000 in
theorem bytes_any (w : World) (base g : Nat) (r : Option Nat) (l : List UInt8) (hW : Wtr w base g r l) (hl : l.length ≤ 1000000000) :
    Calls Tryd.prog 27 #[.pointer (some ⟨g, 0, none⟩)] w fun e w' => ∃ v, e = .returned v ∧ Own w' w.heap.size v l ∧ Below w.heap.size w w' := by
  obtain ⟨v, hv, hrv, hown, hbg⟩ := hW
  obtain ⟨A, c, rfl, h1, h2, h3⟩ := hown.form
  have hc0 : w.cell? ⟨g, 0, none⟩ = some (.slice A l.length c) := by rw [cell_of_row w g 0 _ _ _ hv]; rfl
  have H3 := Lib.hid h3
  clear hv hown hrv h3
  go_enter Tryd.func27, Tryd.ntmps27
  go_wp2_with fail
  refine (clone_any w w.heap.size A c l H3.out (Nat.le_refl _) hl).mono ?_
  rintro e w1 ⟨v1, rfl, ho1, hb1⟩
  go_wp2
  go_ret
  exact ⟨v1, rfl, ho1, hb1⟩

end Go.Proofs.YtcjafbpgjlcdpaaDoor
