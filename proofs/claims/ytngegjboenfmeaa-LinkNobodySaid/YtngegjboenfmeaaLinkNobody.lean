/- The walk of the law LinkNobody. -/
import Derived.Test.YtngegjboenfmeaaLnk4
import Derived.Test.YtngegjboenfmeaaLnkA
namespace Go.Proofs.Ytngegjboenfmeaa
open Go Go.RowKit
set_option linter.unusedVariables false
theorem linkNobody_walk (w : World) (dd : Int) (now : Nat) (ka kb kc : Int) (n1 n2 n3 n4 n5 n6 nf c nb c2 : Nat) (A A2 : Option Addr) (h1 : nb ≤ 140737488355328) (h2 : nf ≤ 140737488355328) :
    Calls Try.prog 6 #[.agg #[.int .i64 dd, .int .u64 (now : Int), .int .i64 ka, .int .i64 kb, .int .i64 kc, .int .u64 (n1 : Int), .int .u64 (n2 : Int), .int .u64 (n3 : Int), .int .u64 (n4 : Int), .int .u64 (n5 : Int), .int .u64 (n6 : Int), .slice A nf c, .slice A2 nb c2]] w fun e w' => e = .returned (.bool true) ∧ Below w.heap.size w w' :=
  linkNobody_core w awake12 dd now ka kb kc n1 n2 n3 n4 n5 n6 nf c nb c2 A A2 h1 h2
end Go.Proofs.Ytngegjboenfmeaa
