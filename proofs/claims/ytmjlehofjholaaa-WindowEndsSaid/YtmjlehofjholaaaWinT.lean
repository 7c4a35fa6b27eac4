/- WindowTakes: the document's Take, and the statement's walk. -/
import Derived.Test.YtmjlehofjholaaaWinH
namespace Go.Proofs.Ytmjlehofjholaaa
open Go Go.RowKit Go.Shelf
set_option linter.unusedVariables false
set_option maxRecDepth 100000
attribute [local go_sem] Oper.semAt_some

theorem count_yes (w : World) (x : Nat) (h : x ≤ 34359738367) : Calls Try.prog 33 #[.int .u64 (x : Int)] w fun e w' => e = .returned (.bool true) ∧ w = w' :=
  (count_any w x).mono fun e w' ⟨he, hw⟩ => ⟨by rw [he, decide_eq_true (by omega)], hw⟩
theorem count_no (w : World) (x : Nat) (h : 34359738367 < x) : Calls Try.prog 33 #[.int .u64 (x : Int)] w fun e w' => e = .returned (.bool false) ∧ w = w' :=
  (count_any w x).mono fun e w' ⟨he, hw⟩ => ⟨by rw [he, decide_eq_false (by omega)], hw⟩

set_option maxHeartbeats 800000 in
theorem rtake_any (w : World) (got seq : Nat) (hg : got < 18446744073709551616) (hs : seq < 18446744073709551616) :
    Calls Try.prog 22 #[.agg #[.int .u64 (got : Int)], .int .u64 (seq : Int)] w fun e w' => e = .returned (TakeRes got seq) ∧ Below w.heap.size w w' := by
  have fin : ∀ o o' : Obj, Below w.heap.size w ((w.alloc o).alloc o') := fun o o' => ((Below.refl _ _).alloc (Nat.le_refl _) _).alloc (by simp) _
  by_cases h1 : seq < 1
  · rw [takeRes_no (.inl h1)]
    have e0 : decide (0 < seq) = false := decide_eq_false (by omega)
    go_enter Try.func22, Try.ntmps22
    go_wp2
    exact bodyPost_ret (v := .tuple #[.agg #[.int .u64 (got : Int)], .bool false]) (by simp [results, Try.results22, go_sem]) rfl ⟨rfl, fin _ _⟩
  · have e0 : decide (0 < seq) = true := decide_eq_true (by omega)
    by_cases h2 : 34359738367 < seq
    · rw [takeRes_no (.inr (.inl h2))]
      go_enter Try.func22, Try.ntmps22
      go_wp2_with (go_at_call 33; refine (count_no _ _ h2).mono ?_; rintro e w' ⟨rfl, rfl⟩)
      exact bodyPost_ret (v := .tuple #[.agg #[.int .u64 (got : Int)], .bool false]) (by simp [results, Try.results22, go_sem]) rfl ⟨rfl, fin _ _⟩
    · have g1 : 1 ≤ seq := by omega
      have g2 : seq ≤ 34359738367 := by omega
      by_cases h3 : seq = got + 1
      · rw [takeRes_yes g1 g2 h3]
        have e1 : ((got : Int) == (seq : Int) - 1) = true := by simp; omega
        clear h3
        go_enter Try.func22, Try.ntmps22
        go_wp2_with (go_at_call 33; refine (count_yes _ _ g2).mono ?_; rintro e w' ⟨rfl, rfl⟩)
        exact bodyPost_ret (v := .tuple #[.agg #[.int .u64 (seq : Int)], .bool true]) (by simp [results, Try.results22, go_sem]) rfl ⟨rfl, fin _ _⟩
      · rw [takeRes_no (.inr (.inr h3))]
        have e1 : ((got : Int) == (seq : Int) - 1) = false := by simp; omega
        go_enter Try.func22, Try.ntmps22
        go_wp2_with (go_at_call 33; refine (count_yes _ _ g2).mono ?_; rintro e w' ⟨rfl, rfl⟩)
        exact bodyPost_ret (v := .tuple #[.agg #[.int .u64 (got : Int)], .bool false]) (by simp [results, Try.results22, go_sem]) rfl ⟨rfl, fin _ _⟩

set_option maxHeartbeats 800000 in
theorem windowTakes_walk (w : World) (got seq : Nat) (hg : got < 18446744073709551616) (hs : seq < 18446744073709551616) :
    Calls Try.prog 6 #[.agg #[.int .u64 (got : Int)], .int .u64 (seq : Int)] w fun e w' => e = .returned (.bool true) ∧ Below w.heap.size w w' := by
  obtain ⟨v, b, hvb⟩ : ∃ (v : Nat) (b : Bool), TakeRes got seq = .tuple #[.agg #[.int .u64 (v : Int)], .bool b] := ⟨_, _, rfl⟩
  have HV := Lib.hid hvb
  clear hvb
  go_enter Try.func6, Try.ntmps6
  go_wp2_with fail
  refine (take_any _ got seq hg hs).mono ?_
  rintro e w1 ⟨rfl, hb1⟩
  rw [HV.out]
  have hz1 : w.heap.size < w1.heap.size := by have := hb1.size; simp at this; omega
  obtain ⟨hc, hf⟩ := bcell hb1
  have k0 : w1.cell? ⟨w.heap.size, 0, none⟩ = some (.int .u64 (got : Int)) := (hc w.heap.size 0 (by simp)).trans (by simp [go_sem])
  clear hc hf
  go_wp2_with fail
  refine (rtake_any _ got seq hg hs).mono ?_
  rintro e w2 ⟨rfl, hb2⟩
  rw [HV.out]
  have hz2 : w1.heap.size < w2.heap.size := by have := hb2.size; simp at this; omega
  obtain ⟨hc, hf⟩ := bcell hb2
  have k1 : w2.cell? ⟨w1.heap.size, 0, none⟩ = some (.int .u64 (v : Int)) := (hc w1.heap.size 0 (by simp)).trans (by simp [go_sem])
  clear hc hf
  have HB := Lib.hid (show Below w.heap.size w w2 from (((Below.refl _ w).alloc (Nat.le_refl _) _).trans (hb1.mono (by simp))).trans (((Below.refl _ w1).alloc (by omega) _).trans (hb2.mono (by simp; omega))))
  go_wp2_with (go_at_call 11; refine (awake_any _).mono ?_; rintro e w3 ⟨rfl, hb3⟩)
  go_ret
  have hz := HB.out.size
  exact ⟨rfl, HB.out.trans (((Below.refl _ w2).alloc (by omega) _).trans (hb3.mono (by simp; omega)))⟩
end Go.Proofs.Ytmjlehofjholaaa
