/- Frames: may one be? The program's answer and the document's. -/
import Derived.Test.YtngegjboenfmeaaBytes
import Derived.Deep.QuietTactic
import Derived.BigQuiet
namespace Go.Proofs.Ytngegjboenfmeaa
open Go Go.RowKit
set_option linter.unusedVariables false
set_option maxRecDepth 100000

/-- a frame, its body but by its bytes -/
structure Fr where
  kind : Int
  fr : Int
  to : Int
  inc : Nat
  conn : Nat
  pinc : Nat
  pconn : Nat
  ack : Nat
  seq : Nat
  body : List UInt8
/-- its ten cells -/
def Fr.cells (f : Fr) (A : Option Addr) (c : Nat) : Array Value := #[.int .i64 f.kind, .int .i64 f.fr, .int .i64 f.to, .int .u64 (f.inc : Int), .int .u64 (f.conn : Int), .int .u64 (f.pinc : Int), .int .u64 (f.pconn : Int), .int .u64 (f.ack : Int), .int .u64 (f.seq : Int), .slice A f.body.length c]
def Fr.nil : Fr := ⟨0, 0, 0, 0, 0, 0, 0, 0, 0, []⟩

def nodeB (n : Int) : Bool := decide (1 ≤ n ∧ n ≤ 10)
def countB (x : Nat) : Bool := decide (x < 34359738368)
/-- may a frame be? -/
def mayB (kind fr to : Int) (inc conn pinc pconn ack seq n : Nat) : Bool :=
  decide ((1 ≤ fr ∧ fr ≤ 10) ∧ (1 ≤ to ∧ to ≤ 10) ∧ fr ≠ to ∧ (inc < 34359738368 ∧ conn < 34359738368 ∧ pinc < 34359738368 ∧ pconn < 34359738368 ∧ ack < 34359738368 ∧ seq < 34359738368) ∧ inc ≠ 0 ∧ conn ≠ 0 ∧
    ((pinc = 0 ∧ pconn = 0 ∧ ack = 0) ∨ (pinc ≠ 0 ∧ pconn ≠ 0)) ∧ ((kind = 1 ∧ seq = 0 ∧ n = 0) ∨ (kind = 2 ∧ pinc ≠ 0 ∧ pconn ≠ 0 ∧ seq ≠ 0 ∧ 1 ≤ n ∧ n ≤ 448)))
theorem ret_bool {b c : Bool} (h : b = c) : Ending.returned (.bool c) = Ending.returned (.bool b) := by rw [h]

set_option maxHeartbeats 400000 in
theorem node_any (w : World) (n : Int) : Calls Try.prog 61 #[.int .i64 n] w fun e w' => e = .returned (.bool (nodeB n)) ∧ w = w' := by
  by_cases h1 : 1 ≤ n
  · by_cases h2 : n ≤ 10
    · go_enter Try.func61, Try.ntmps61
      go_wp2
      go_ret
      exact ⟨ret_bool (by simp [nodeB, h1, h2]), rfl⟩
    · go_enter Try.func61, Try.ntmps61
      go_wp2
      go_ret
      exact ⟨ret_bool (by simp [nodeB, h1, h2]), rfl⟩
  · go_enter Try.func61, Try.ntmps61
    go_wp2
    go_ret
    exact ⟨ret_bool (decide_eq_false (by omega)), rfl⟩
set_option maxHeartbeats 400000 in
theorem refNode_any (w : World) (n : Int) : Calls Try.prog 48 #[.int .i64 n] w fun e w' => e = .returned (.bool (nodeB n)) ∧ w = w' := by
  by_cases h1 : 1 ≤ n
  · by_cases h2 : n ≤ 10
    · go_enter Try.func48, Try.ntmps48
      go_wp2
      go_ret
      exact ⟨ret_bool (by simp [nodeB, h1, h2]), rfl⟩
    · go_enter Try.func48, Try.ntmps48
      go_wp2
      go_ret
      exact ⟨ret_bool (by simp [nodeB, h1, h2]), rfl⟩
  · go_enter Try.func48, Try.ntmps48
    go_wp2
    go_ret
    exact ⟨ret_bool (decide_eq_false (by omega)), rfl⟩
set_option maxHeartbeats 400000 in
theorem refCount_any (w : World) (x : Nat) : Calls Try.prog 47 #[.int .u64 (x : Int)] w fun e w' => e = .returned (.bool (countB x)) ∧ w = w' := by
  go_enter Try.func47, Try.ntmps47
  go_wp2
  go_ret
  exact ⟨ret_bool (decide_eq_decide.2 (by omega)), rfl⟩

theorem nodeB_yes {n : Int} (h : 1 ≤ n ∧ n ≤ 10) : nodeB n = true := decide_eq_true h
theorem nodeB_no {n : Int} (h : ¬ (1 ≤ n ∧ n ≤ 10)) : nodeB n = false := decide_eq_false h
theorem countB_yes {x : Nat} (h : x < 34359738368) : countB x = true := decide_eq_true h
theorem countB_no {x : Nat} (h : ¬ x < 34359738368) : countB x = false := decide_eq_false h
theorem below_box {w : World} (o : Obj) : Below w.heap.size w (w.alloc o) := (Below.refl _ _).alloc (Nat.le_refl _) _

end Go.Proofs.Ytngegjboenfmeaa
