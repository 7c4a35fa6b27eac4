/- The walk of law10's heavy. -/
import Derived.Test.YtbnjlminjopaaaaLetU
namespace Go.Proofs.Ytbnjlminjopaaaa
open Go Go.RowKit
set_option linter.unusedVariables false
set_option maxRecDepth 100000

set_option maxHeartbeats 800000 in
theorem heavyL_any (w : World) (kind node : Int) (pinc round : Nat) (snode : Int) (sinc n nb cid cl : Nat) (want : Bool) (A A2 : Option Addr) (c c2 : Nat) :
    Calls Try.prog 9 #[.agg #[.int .i64 kind, .int .i64 node, .int .u64 (pinc : Int), .int .u64 (round : Int), .int .i64 snode, .int .u64 (sinc : Int), .int .u64 (n : Int), .slice A nb c, .int .u64 (cid : Int), .slice A2 cl c2, .bool want]] w fun e w' => e = .returned (.bool (decide (3000 < nb ∨ 300 < cl))) ∧ Below w.heap.size w w' := by
  have HB := Lib.hid (below_box (w := w) (.cells #[.int .i64 kind, .int .i64 node, .int .u64 (pinc : Int), .int .u64 (round : Int), .int .i64 snode, .int .u64 (sinc : Int), .int .u64 (n : Int), .slice A nb c, .int .u64 (cid : Int), .slice A2 cl c2, .bool want] 30))
  by_cases h1 : 3000 < nb
  · go_enter Try.func9, Try.ntmps9
    go_wp2_with fail
    go_ret
    exact ⟨by simp, HB.out⟩
  · by_cases h2 : 300 < cl
    · go_enter Try.func9, Try.ntmps9
      go_wp2_with fail
      go_ret
      exact ⟨by simp [h1, h2] <;> omega, HB.out⟩
    · go_enter Try.func9, Try.ntmps9
      go_wp2_with fail
      go_ret
      exact ⟨by simp [h1, h2] <;> omega, HB.out⟩
end Go.Proofs.Ytbnjlminjopaaaa
