/- May a life be? The walks of proc.May and of the document's. (Out of XLet, for a seat without layer 2.) -/
import Derived.Test.YtngegjboenfmeaaBytes
import Derived.Deep.QuietTactic
import Derived.BigQuiet
namespace Go.Proofs.Ytngegjboenfmeaa
open Go Go.RowKit
set_option linter.unusedVariables false
set_option maxRecDepth 100000

def mayPB (node : Int) (inc : Nat) : Bool := decide (1 ≤ node ∧ node ≤ 10 ∧ inc ≠ 0)
theorem ret_bool {b c : Bool} (h : b = c) : Ending.returned (.bool c) = Ending.returned (.bool b) := by rw [h]
theorem below_box {w : World} (o : Obj) : Below w.heap.size w (w.alloc o) := (Below.refl _ _).alloc (Nat.le_refl _) _
set_option maxHeartbeats 800000 in
theorem procMay_any (w : World) (node : Int) (inc : Nat) : Calls Try.prog 45 #[.agg #[.int .i64 node, .int .u64 (inc : Int)]] w fun e w' => e = .returned (.bool (mayPB node inc)) ∧ Below w.heap.size w w' := by
  by_cases h1 : 1 ≤ node
  · by_cases h2 : node ≤ 10
    · by_cases h3 : inc = 0
      · have e_inc : (((inc : Nat) : Int) == 0) = true := by simp; omega
        have d_inc : (((inc : Nat) : Int) != 0) = false := by simp; omega
        have g_inc : decide ((0 : Int) < ((inc : Nat) : Int)) = false := decide_eq_false (by omega)
        go_enter Try.func45, Try.ntmps45
        go_wp2
        go_ret
        exact ⟨ret_bool (decide_eq_false (by omega)), below_box _⟩
      · have e_inc : (((inc : Nat) : Int) == 0) = false := by simp; omega
        have d_inc : (((inc : Nat) : Int) != 0) = true := by simp; omega
        have g_inc : decide ((0 : Int) < ((inc : Nat) : Int)) = true := decide_eq_true (by omega)
        go_enter Try.func45, Try.ntmps45
        go_wp2
        go_ret
        exact ⟨ret_bool (by first | exact decide_eq_true (by omega) | exact decide_eq_decide.2 (by omega)), below_box _⟩
    · go_enter Try.func45, Try.ntmps45
      go_wp2
      go_ret
      exact ⟨ret_bool (decide_eq_false (by omega)), below_box _⟩
  · go_enter Try.func45, Try.ntmps45
    go_wp2
    go_ret
    exact ⟨ret_bool (decide_eq_false (by omega)), below_box _⟩
set_option maxHeartbeats 800000 in
theorem ref03May_any (w : World) (node : Int) (inc : Nat) : Calls Try.prog 46 #[.agg #[.int .i64 node, .int .u64 (inc : Int)]] w fun e w' => e = .returned (.bool (mayPB node inc)) ∧ Below w.heap.size w w' := by
  by_cases h1 : 1 ≤ node
  · by_cases h2 : node ≤ 10
    · by_cases h3 : inc = 0
      · have e_inc : (((inc : Nat) : Int) == 0) = true := by simp; omega
        have d_inc : (((inc : Nat) : Int) != 0) = false := by simp; omega
        have g_inc : decide ((0 : Int) < ((inc : Nat) : Int)) = false := decide_eq_false (by omega)
        go_enter Try.func46, Try.ntmps46
        go_wp2
        go_ret
        exact ⟨ret_bool (decide_eq_false (by omega)), below_box _⟩
      · have e_inc : (((inc : Nat) : Int) == 0) = false := by simp; omega
        have d_inc : (((inc : Nat) : Int) != 0) = true := by simp; omega
        have g_inc : decide ((0 : Int) < ((inc : Nat) : Int)) = true := decide_eq_true (by omega)
        go_enter Try.func46, Try.ntmps46
        go_wp2
        go_ret
        exact ⟨ret_bool (by first | exact decide_eq_true (by omega) | exact decide_eq_decide.2 (by omega)), below_box _⟩
    · go_enter Try.func46, Try.ntmps46
      go_wp2
      go_ret
      exact ⟨ret_bool (decide_eq_false (by omega)), below_box _⟩
  · go_enter Try.func46, Try.ntmps46
    go_wp2
    go_ret
    exact ⟨ret_bool (decide_eq_false (by omega)), below_box _⟩
end Go.Proofs.Ytngegjboenfmeaa
