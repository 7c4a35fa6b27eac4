/-
  No cell of these rows narrows 'for every input' (looked for: loops, veiled, ifaces, maps, wideKeys, modest, calm, conditions, laid).
  DERIVED. THE GIVEN ROWS OF THIS SEAT. 6 by the template 'for every input the law returns true; each argument reads behind the call as it read before'; 0 by the template 'total and deterministic' (their statements: YtbnjlminjopaaaaTotals.lean).
  GIVEN WITH THE SEED: the statements are not yours to turn. If you find one false, say at which input.
  Laid BY PROGRAM, IN A SANDBOX (cutbox-rows.mjs): the forced cells as the released guide's own fill.sh prints them over the translation 2efadb5843ec37b0… (all of the seat's roots in one cut). By AI agents, Wed Nov 11 2026. No macro, syntax, notation, axiom, sorry.
-/
import Derived.Test.YtbnjlminjopaaaaChecked
import GoSem.Claim
import GoSem.ClaimJoined
import GoSem.ClaimMapViews
import Derived.JoinedTies
import Derived.KernelRfl
namespace Go.Proofs.Ytbnjlminjopaaaa
/- THE CELL 'sum', in the pinned program and in every row, IS THE sha256 OF THE DUMP (.gsa) THAT YtbnjlminjopaaaaProg.lean LOADS. Nothing in Lean hashes anything: it is a label: what it is worth is what the hold of that sum in a sandbox is worth. -/
noncomputable def Try.pinned : Pinned := { name := "ytbnjlminjopaaaa", sum := "2efadb5843ec37b0ef3dcc530cac2efddadbf3a8973672abdf4878aa55f5945c", checked := Try.checked }
namespace Rows
def none {H : Type} : Left H := { results := [], args := [] }

/-- 'caucuslaw10.LetterMay': WHATEVER THE INPUT: true; the input reads as it did. -/
def letterMaySpec : ChangeSpec := { name := "letterMay", fn := fun _ => fun
  | [d1, d2] => { results := [.lit (.bool true)], args := [d1, d2] }
  | _ => none }
def letterMayRow : OpenClaim := { program := "ytbnjlminjopaaaa", sum := "2efadb5843ec37b0ef3dcc530cac2efddadbf3a8973672abdf4878aa55f5945c", func := "caucus/caucuslaw10.LetterMay", spec := "letterMay", apart := false }
def LetterMaySaid : Prop := letterMayRow.holds Try.pinned (OpenSpec.ofChange letterMaySpec)

/-- ITS FALSE NEIGHBOUR: 'it returns false'. Refute it at one input. -/
def letterMayWrong : ChangeSpec := { name := "letterMay", fn := fun _ => fun
  | [d1, d2] => { results := [.lit (.bool false)], args := [d1, d2] }
  | _ => none }
def LetterMayWrongFalsely : Prop := letterMayRow.holds Try.pinned (OpenSpec.ofChange letterMayWrong)

/-- 'caucuslaw10.LetterBytes': WHATEVER THE INPUT: true; the input reads as it did. -/
def letterBytesSpec : ChangeSpec := { name := "letterBytes", fn := fun _ => fun
  | [d] => { results := [.lit (.bool true)], args := [d] }
  | _ => none }
def letterBytesRow : OpenClaim := { program := "ytbnjlminjopaaaa", sum := "2efadb5843ec37b0ef3dcc530cac2efddadbf3a8973672abdf4878aa55f5945c", func := "caucus/caucuslaw10.LetterBytes", spec := "letterBytes", apart := false }
def LetterBytesSaid : Prop := letterBytesRow.holds Try.pinned (OpenSpec.ofChange letterBytesSpec)

/-- ITS FALSE NEIGHBOUR: 'it returns false'. Refute it at one input. -/
def letterBytesWrong : ChangeSpec := { name := "letterBytes", fn := fun _ => fun
  | [d] => { results := [.lit (.bool false)], args := [d] }
  | _ => none }
def LetterBytesWrongFalsely : Prop := letterBytesRow.holds Try.pinned (OpenSpec.ofChange letterBytesWrong)

/-- 'caucuslaw10.LetterReads': WHATEVER THE INPUT: true; the input reads as it did. -/
def letterReadsSpec : ChangeSpec := { name := "letterReads", fn := fun _ => fun
  | [d] => { results := [.lit (.bool true)], args := [d] }
  | _ => none }
def letterReadsRow : OpenClaim := { program := "ytbnjlminjopaaaa", sum := "2efadb5843ec37b0ef3dcc530cac2efddadbf3a8973672abdf4878aa55f5945c", func := "caucus/caucuslaw10.LetterReads", spec := "letterReads", apart := false }
def LetterReadsSaid : Prop := letterReadsRow.holds Try.pinned (OpenSpec.ofChange letterReadsSpec)

/-- ITS FALSE NEIGHBOUR: 'it returns false'. Refute it at one input. -/
def letterReadsWrong : ChangeSpec := { name := "letterReads", fn := fun _ => fun
  | [d] => { results := [.lit (.bool false)], args := [d] }
  | _ => none }
def LetterReadsWrongFalsely : Prop := letterReadsRow.holds Try.pinned (OpenSpec.ofChange letterReadsWrong)

/-- 'caucuslaw10.LetterBack': WHATEVER THE INPUT: true; the input reads as it did. -/
def letterBackSpec : ChangeSpec := { name := "letterBack", fn := fun _ => fun
  | [d1, d2] => { results := [.lit (.bool true)], args := [d1, d2] }
  | _ => none }
def letterBackRow : OpenClaim := { program := "ytbnjlminjopaaaa", sum := "2efadb5843ec37b0ef3dcc530cac2efddadbf3a8973672abdf4878aa55f5945c", func := "caucus/caucuslaw10.LetterBack", spec := "letterBack", apart := false }
def LetterBackSaid : Prop := letterBackRow.holds Try.pinned (OpenSpec.ofChange letterBackSpec)

/-- ITS FALSE NEIGHBOUR: 'it returns false'. Refute it at one input. -/
def letterBackWrong : ChangeSpec := { name := "letterBack", fn := fun _ => fun
  | [d1, d2] => { results := [.lit (.bool false)], args := [d1, d2] }
  | _ => none }
def LetterBackWrongFalsely : Prop := letterBackRow.holds Try.pinned (OpenSpec.ofChange letterBackWrong)

/-- 'caucuslaw10.LetterEnds': WHATEVER THE INPUT: true; the input reads as it did. -/
def letterEndsSpec : ChangeSpec := { name := "letterEnds", fn := fun _ => fun
  | [d1, d2, d3] => { results := [.lit (.bool true)], args := [d1, d2, d3] }
  | _ => none }
def letterEndsRow : OpenClaim := { program := "ytbnjlminjopaaaa", sum := "2efadb5843ec37b0ef3dcc530cac2efddadbf3a8973672abdf4878aa55f5945c", func := "caucus/caucuslaw10.LetterEnds", spec := "letterEnds", apart := false }
def LetterEndsSaid : Prop := letterEndsRow.holds Try.pinned (OpenSpec.ofChange letterEndsSpec)

/-- ITS FALSE NEIGHBOUR: 'it returns false'. Refute it at one input. -/
def letterEndsWrong : ChangeSpec := { name := "letterEnds", fn := fun _ => fun
  | [d1, d2, d3] => { results := [.lit (.bool false)], args := [d1, d2, d3] }
  | _ => none }
def LetterEndsWrongFalsely : Prop := letterEndsRow.holds Try.pinned (OpenSpec.ofChange letterEndsWrong)

/-- 'caucuslaw10.LetterUnlike': WHATEVER THE INPUT: true; the input reads as it did. -/
def letterUnlikeSpec : ChangeSpec := { name := "letterUnlike", fn := fun _ => fun
  | [d1, d2] => { results := [.lit (.bool true)], args := [d1, d2] }
  | _ => none }
def letterUnlikeRow : OpenClaim := { program := "ytbnjlminjopaaaa", sum := "2efadb5843ec37b0ef3dcc530cac2efddadbf3a8973672abdf4878aa55f5945c", func := "caucus/caucuslaw10.LetterUnlike", spec := "letterUnlike", apart := false }
def LetterUnlikeSaid : Prop := letterUnlikeRow.holds Try.pinned (OpenSpec.ofChange letterUnlikeSpec)

/-- ITS FALSE NEIGHBOUR: 'it returns false'. Refute it at one input. -/
def letterUnlikeWrong : ChangeSpec := { name := "letterUnlike", fn := fun _ => fun
  | [d1, d2] => { results := [.lit (.bool false)], args := [d1, d2] }
  | _ => none }
def LetterUnlikeWrongFalsely : Prop := letterUnlikeRow.holds Try.pinned (OpenSpec.ofChange letterUnlikeWrong)

/- THE SECOND FORM. 'bulk': how many values and letters a reading holds, each counted each time it is reached (what is shared counts as often as it is met; a slice's spare places count too). A statement '..UptoSaid' is the law's where the arguments, and the package variables that the reading takes, are together of bulk at most 1048576: NARROWER than '..Said'. Prove '..Said' where nothing that the law and all that it calls make is longer than what came in: it says more and counts as full. Else prove '..UptoSaid'. A law counts once. -/
mutual
def uptoBulk {H : Type} : DataW H → Nat
  | .lit (.string bytes) => bytes.length + 1
  | .lit _ => 1
  | .nil => 1
  | .ptr d => uptoBulk d + 1
  | .slice elems spare => uptoBulkAll elems + uptoBulkAll spare + 1
  | .agg parts => uptoBulkAll parts + 1
  | .iface _ d => uptoBulk d + 1
  | .map entries => uptoBulkEntries entries + 1
  | .held _ => 1
def uptoBulkAll {H : Type} : List (DataW H) → Nat
  | [] => 0
  | d :: r => uptoBulk d + uptoBulkAll r
def uptoBulkEntries {H : Type} : List (Lit × DataW H) → Nat
  | [] => 0
  | x :: r => uptoBulkEntry x + uptoBulkEntries r
def uptoBulkEntry {H : Type} : Lit × DataW H → Nat
  | (.string bytes, d) => bytes.length + uptoBulk d + 1
  | (_, d) => uptoBulk d + 1
 end
def uptoSmall : (H : Type) → List (DataW H) → Bool := fun _ ds => decide (uptoBulkAll ds ≤ 1048576)
def OpenSpec.upto (s : _root_.Go.ChangeSpec) : _root_.Go.OpenSpec := { _root_.Go.OpenSpec.ofChange s with cond := some uptoSmall }

/-- 'caucuslaw10.LetterMay', WHERE WHAT IT READS IS OF BULK AT MOST 1048576: true; the input reads as it did. -/
def letterMayUptoRow : OpenClaim := { program := "ytbnjlminjopaaaa", sum := "2efadb5843ec37b0ef3dcc530cac2efddadbf3a8973672abdf4878aa55f5945c", func := "caucus/caucuslaw10.LetterMay", spec := "letterMay", apart := false, narrowed := true }
def LetterMayUptoSaid : Prop := letterMayUptoRow.holds Try.pinned (OpenSpec.upto letterMaySpec)

/-- 'caucuslaw10.LetterBytes', WHERE WHAT IT READS IS OF BULK AT MOST 1048576: true; the input reads as it did. -/
def letterBytesUptoRow : OpenClaim := { program := "ytbnjlminjopaaaa", sum := "2efadb5843ec37b0ef3dcc530cac2efddadbf3a8973672abdf4878aa55f5945c", func := "caucus/caucuslaw10.LetterBytes", spec := "letterBytes", apart := false, narrowed := true }
def LetterBytesUptoSaid : Prop := letterBytesUptoRow.holds Try.pinned (OpenSpec.upto letterBytesSpec)

/-- 'caucuslaw10.LetterReads', WHERE WHAT IT READS IS OF BULK AT MOST 1048576: true; the input reads as it did. -/
def letterReadsUptoRow : OpenClaim := { program := "ytbnjlminjopaaaa", sum := "2efadb5843ec37b0ef3dcc530cac2efddadbf3a8973672abdf4878aa55f5945c", func := "caucus/caucuslaw10.LetterReads", spec := "letterReads", apart := false, narrowed := true }
def LetterReadsUptoSaid : Prop := letterReadsUptoRow.holds Try.pinned (OpenSpec.upto letterReadsSpec)

/-- 'caucuslaw10.LetterBack', WHERE WHAT IT READS IS OF BULK AT MOST 1048576: true; the input reads as it did. -/
def letterBackUptoRow : OpenClaim := { program := "ytbnjlminjopaaaa", sum := "2efadb5843ec37b0ef3dcc530cac2efddadbf3a8973672abdf4878aa55f5945c", func := "caucus/caucuslaw10.LetterBack", spec := "letterBack", apart := false, narrowed := true }
def LetterBackUptoSaid : Prop := letterBackUptoRow.holds Try.pinned (OpenSpec.upto letterBackSpec)

/-- 'caucuslaw10.LetterEnds', WHERE WHAT IT READS IS OF BULK AT MOST 1048576: true; the input reads as it did. -/
def letterEndsUptoRow : OpenClaim := { program := "ytbnjlminjopaaaa", sum := "2efadb5843ec37b0ef3dcc530cac2efddadbf3a8973672abdf4878aa55f5945c", func := "caucus/caucuslaw10.LetterEnds", spec := "letterEnds", apart := false, narrowed := true }
def LetterEndsUptoSaid : Prop := letterEndsUptoRow.holds Try.pinned (OpenSpec.upto letterEndsSpec)

/-- 'caucuslaw10.LetterUnlike', WHERE WHAT IT READS IS OF BULK AT MOST 1048576: true; the input reads as it did. -/
def letterUnlikeUptoRow : OpenClaim := { program := "ytbnjlminjopaaaa", sum := "2efadb5843ec37b0ef3dcc530cac2efddadbf3a8973672abdf4878aa55f5945c", func := "caucus/caucuslaw10.LetterUnlike", spec := "letterUnlike", apart := false, narrowed := true }
def LetterUnlikeUptoSaid : Prop := letterUnlikeUptoRow.holds Try.pinned (OpenSpec.upto letterUnlikeSpec)

end Rows
end Go.Proofs.Ytbnjlminjopaaaa
