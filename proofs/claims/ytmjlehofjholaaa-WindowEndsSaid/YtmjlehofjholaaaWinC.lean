/- The walks of window.due, window.Take and of the document's Count, Body, May, Due, Take. -/
import Derived.Test.YtmjlehofjholaaaWinB
namespace Go.Proofs.Ytmjlehofjholaaa
open Go Go.RowKit
set_option linter.unusedVariables false
set_option maxRecDepth 100000

theorem dueP_any (w : World) (base : Int) (A : Option Addr) (n c : Nat) (hm : n ≤ maxLen) :
    Calls Try.prog 34 #[.agg #[.int .u64 base, .slice A n c]] w fun e w' => e = .returned (.int .i64 ((min n 8 : Nat) : Int)) ∧ Below w.heap.size w w' := by
  unfold maxLen at hm
  by_cases h : n ≤ 8
  · have e : min n 8 = n := Nat.min_eq_left h
    rw [e]
    have e2 : min (n : Int) 8 = (n : Int) := by omega
    go_enter Try.func34, Try.ntmps34
    go_wp2
    go_ret
    exact ⟨by first | rfl | (congr 2; omega) | simp_all, (Below.refl _ _).alloc (Nat.le_refl _) _⟩
  · have e : min n 8 = 8 := Nat.min_eq_right (by omega)
    rw [e]
    have e2 : min (n : Int) 8 = 8 := by omega
    have g : 8 < n := by omega
    go_enter Try.func34, Try.ntmps34
    go_wp2
    go_ret
    exact ⟨by first | rfl | (congr 2; omega) | simp_all, (Below.refl _ _).alloc (Nat.le_refl _) _⟩

def takeB (got seq : Nat) : Bool := decide (1 ≤ seq) && decide (seq ≤ 34359738367) && decide (seq = got + 1)
def takeV (got seq : Nat) : Nat := if takeB got seq = true then seq else got
theorem take_no {got seq : Nat} (h : seq < 1 ∨ 34359738367 < seq ∨ seq ≠ got + 1) : takeB got seq = false ∧ takeV got seq = got := by
  have h0 : takeB got seq = false := by
    unfold takeB
    rcases h with h | h | h
    · rw [decide_eq_false (by omega)]; rfl
    · rw [decide_eq_false (p := seq ≤ 34359738367) (by omega)]; simp
    · rw [decide_eq_false h]; simp
  exact ⟨h0, by simp [takeV, h0]⟩
theorem take_yes {got seq : Nat} (h1 : 1 ≤ seq) (h2 : seq ≤ 34359738367) (h : seq = got + 1) : takeB got seq = true ∧ takeV got seq = seq := by
  have h0 : takeB got seq = true := by
    unfold takeB
    rw [decide_eq_true h1, decide_eq_true h2, decide_eq_true h]; rfl
  exact ⟨h0, by simp [takeV, h0]⟩
def TakeRes (got seq : Nat) : Value := .tuple #[.agg #[.int .u64 (takeV got seq : Int)], .bool (takeB got seq)]
theorem takeRes_no {got seq : Nat} (h : seq < 1 ∨ 34359738367 < seq ∨ seq ≠ got + 1) : TakeRes got seq = .tuple #[.agg #[.int .u64 (got : Int)], .bool false] := by
  unfold TakeRes; rw [(take_no h).1, (take_no h).2]
theorem takeRes_yes {got seq : Nat} (h1 : 1 ≤ seq) (h2 : seq ≤ 34359738367) (h : seq = got + 1) : TakeRes got seq = .tuple #[.agg #[.int .u64 (seq : Int)], .bool true] := by
  unfold TakeRes; rw [(take_yes h1 h2 h).1, (take_yes h1 h2 h).2]

set_option maxHeartbeats 800000 in
theorem take_any (w : World) (got seq : Nat) (hg : got < 18446744073709551616) (hs : seq < 18446744073709551616) :
    Calls Try.prog 21 #[.agg #[.int .u64 (got : Int)], .int .u64 (seq : Int)] w fun e w' => e = .returned (TakeRes got seq) ∧ Below w.heap.size w w' := by
  have fin : ∀ o o' : Obj, Below w.heap.size w ((w.alloc o).alloc o') := fun o o' => ((Below.refl _ _).alloc (Nat.le_refl _) _).alloc (by simp) _
  by_cases h1 : seq < 1
  · rw [takeRes_no (.inl h1)]
    have e0 : ((seq : Int) == 0) = true := by simp; omega
    go_enter Try.func21, Try.ntmps21
    go_wp2
    exact bodyPost_ret (v := .tuple #[.agg #[.int .u64 (got : Int)], .bool false]) (by simp [results, Try.results21, go_sem]) rfl ⟨rfl, fin _ _⟩
  · have e0 : ((seq : Int) == 0) = false := by simp; omega
    by_cases h2 : 34359738367 < seq
    · rw [takeRes_no (.inr (.inl h2))]
      go_enter Try.func21, Try.ntmps21
      go_wp2
      exact bodyPost_ret (v := .tuple #[.agg #[.int .u64 (got : Int)], .bool false]) (by simp [results, Try.results21, go_sem]) rfl ⟨rfl, fin _ _⟩
    · have g1 : 1 ≤ seq := by omega
      have g2 : seq ≤ 34359738367 := by omega
      by_cases h3 : seq = got + 1
      · rw [takeRes_yes g1 g2 h3]
        have e1 : ((seq : Int) - 1 != (got : Int)) = false := by simp; omega
        clear h3
        go_enter Try.func21, Try.ntmps21
        go_wp2
        exact bodyPost_ret (v := .tuple #[.agg #[.int .u64 (seq : Int)], .bool true]) (by simp [results, Try.results21, go_sem]) rfl ⟨rfl, fin _ _⟩
      · rw [takeRes_no (.inr (.inr h3))]
        have e1 : ((seq : Int) - 1 != (got : Int)) = true := by simp; omega
        go_enter Try.func21, Try.ntmps21
        go_wp2
        exact bodyPost_ret (v := .tuple #[.agg #[.int .u64 (got : Int)], .bool false]) (by simp [results, Try.results21, go_sem]) rfl ⟨rfl, fin _ _⟩

theorem count_any (w : World) (x : Nat) : Calls Try.prog 33 #[.int .u64 (x : Int)] w fun e w' => e = .returned (.bool (decide (x < 34359738368))) ∧ w = w' := by
  obtain ⟨M, HM⟩ : ∃ M : Bool, Hid (decide (x < 34359738368) = M) := ⟨_, Lib.hid rfl⟩
  have h1 : decide ((x : Int) < 34359738368) = M := by rw [← HM.out]; congr 1; exact propext (by omega)
  rw [HM.out]
  go_enter Try.func33, Try.ntmps33
  go_wp2
  go_ret
  refine ⟨?_, rfl⟩
  first | rfl | rw [h1]

theorem bodyR_any (w : World) (A : Option Addr) (c : Nat) (l : List UInt8) (hl : l.length ≤ 140737488355328) : Calls Try.prog 32 #[.slice A l.length c] w fun e w' => e = .returned (.bool (bodyB l)) ∧ w = w' := by
  by_cases h1 : 1 ≤ l.length
  · have g0 : 0 < l.length := h1
    by_cases h2 : l.length ≤ 448
    · rw [body_yes h1 h2]
      have g2 : decide ((l.length : Int) ≤ 448) = true := decide_eq_true (by omega)
      go_enter Try.func32, Try.ntmps32
      go_wp2
      go_ret
      refine ⟨?_, rfl⟩
      first | rfl | rw [g2]
    · have g1 : 448 < l.length := by omega
      rw [body_no2 g1]
      have g2 : decide ((l.length : Int) ≤ 448) = false := decide_eq_false (by omega)
      go_enter Try.func32, Try.ntmps32
      go_wp2
      go_ret
      refine ⟨?_, rfl⟩
      first | rfl | rw [g2]
  · have g1 : l.length < 1 := by omega
    have g2 : decide (0 < l.length) = false := decide_eq_false (by omega)
    have g3 : decide ((0 : Int) < (l.length : Int)) = false := decide_eq_false (by omega)
    rw [body_no1 g1]
    go_enter Try.func32, Try.ntmps32
    go_wp2
    go_ret
    exact ⟨by first | rfl | rw [g2], rfl⟩
end Go.Proofs.Ytmjlehofjholaaa
