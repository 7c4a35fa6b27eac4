/- The walks of the reference of layer 2: Short, Text, Wide. -/
import Derived.Test.YtbnjlminjopaaaaCodeRef
namespace Go.Proofs.Ytbnjlminjopaaaa
open Go Go.RowKit
set_option linter.unusedVariables false
set_option maxRecDepth 100000

theorem take_snoc_at (l : List UInt8) (k : Nat) (hk : k < l.length) : l.take (k + 1) = l.take k ++ [l[k]] := List.take_succ_eq_append_getElem hk

end Go.Proofs.Ytbnjlminjopaaaa
