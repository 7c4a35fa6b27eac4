/- Claims on a region's results that outlast what the other operations do. -/
import Derived.Test.YtngegjboenfmeaaBytes
import Derived.Test.YtngegjboenfmeaaRg
namespace Go.Proofs.Ytngegjboenfmeaa
open Go Go.RowKit
set_option linter.unusedVariables false
/-- a slice that holds these bytes -/
def IsB (l : List UInt8) (v : Value) (w : World) : Prop := ∃ A c, v = .slice A l.length c ∧ Has w w.heap.size A (us l)
theorem IsB.keep {l : List UInt8} {v : Value} {w w' : World} (h : IsB l v w) (hb : Below w.heap.size w w') : IsB l v w' := by
  obtain ⟨A, c, e, h⟩ := h
  exact ⟨A, c, e, (h.below hb).more hb.size⟩
theorem IsB.of_own {l : List UInt8} {v : Value} {w : World} {base : Nat} (h : Own w base v l) : IsB l v w := by
  obtain ⟨A, c, e, _, _, h⟩ := h.form
  exact ⟨A, c, e, h⟩
end Go.Proofs.Ytngegjboenfmeaa
