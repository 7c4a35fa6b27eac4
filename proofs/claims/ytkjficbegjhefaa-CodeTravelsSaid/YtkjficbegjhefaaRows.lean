/-
  No cell of these rows narrows 'for every input' (looked for: loops, veiled, ifaces, maps, wideKeys, modest, calm, conditions, laid).
  DERIVED. THE GIVEN ROWS OF THIS SEAT. 9 by the template 'for every input the law returns true; each argument reads behind the call as it read before'; 0 by the template 'total and deterministic' (their statements: YtkjficbegjhefaaTotals.lean).
  GIVEN WITH THE SEED: the statements are not yours to turn. If you find one false, say at which input.
  Laid BY PROGRAM, IN A SANDBOX (cutbox-rows.mjs): the forced cells as the released guide's own fill.sh prints them over the translation a7b1f68884354264… (all of the seat's roots in one cut). By AI agents, Wed Nov 11 2026. No macro, syntax, notation, axiom, sorry.
-/
import Derived.Test.YtkjficbegjhefaaChecked
import GoSem.Claim
import GoSem.ClaimJoined
import GoSem.ClaimMapViews
import Derived.JoinedTies
import Derived.KernelRfl
namespace Go.Proofs.Ytkjficbegjhefaa
/- THE CELL 'sum', in the pinned program and in every row, IS THE sha256 OF THE DUMP (.gsa) THAT YtkjficbegjhefaaProg.lean LOADS. Nothing in Lean hashes anything: it is a label: what it is worth is what the hold of that sum in a sandbox is worth. -/
noncomputable def Try.pinned : Pinned := { name := "ytkjficbegjhefaa", sum := "a7b1f6888435426445f7335bc20f87bcf2388e5387ed93ce0add7ce482c3748d", checked := Try.checked }
namespace Rows
def none {H : Type} : Left H := { results := [], args := [] }

/-- 'caucuslaw02.CodeShorts': WHATEVER THE INPUT: true; the input reads as it did. -/
def codeShortsSpec : ChangeSpec := { name := "codeShorts", fn := fun _ => fun
  | [d] => { results := [.lit (.bool true)], args := [d] }
  | _ => none }
def codeShortsRow : OpenClaim := { program := "ytkjficbegjhefaa", sum := "a7b1f6888435426445f7335bc20f87bcf2388e5387ed93ce0add7ce482c3748d", func := "caucus/caucuslaw02.CodeShorts", spec := "codeShorts", apart := false }
def CodeShortsSaid : Prop := codeShortsRow.holds Try.pinned (OpenSpec.ofChange codeShortsSpec)

/-- ITS FALSE NEIGHBOUR: 'it returns false'. Refute it at one input. -/
def codeShortsWrong : ChangeSpec := { name := "codeShorts", fn := fun _ => fun
  | [d] => { results := [.lit (.bool false)], args := [d] }
  | _ => none }
def CodeShortsWrongFalsely : Prop := codeShortsRow.holds Try.pinned (OpenSpec.ofChange codeShortsWrong)

/-- 'caucuslaw02.CodeOnly': WHATEVER THE INPUT: true; the input reads as it did. -/
def codeOnlySpec : ChangeSpec := { name := "codeOnly", fn := fun _ => fun
  | [d1, d2] => { results := [.lit (.bool true)], args := [d1, d2] }
  | _ => none }
def codeOnlyRow : OpenClaim := { program := "ytkjficbegjhefaa", sum := "a7b1f6888435426445f7335bc20f87bcf2388e5387ed93ce0add7ce482c3748d", func := "caucus/caucuslaw02.CodeOnly", spec := "codeOnly", apart := false }
def CodeOnlySaid : Prop := codeOnlyRow.holds Try.pinned (OpenSpec.ofChange codeOnlySpec)

/-- ITS FALSE NEIGHBOUR: 'it returns false'. Refute it at one input. -/
def codeOnlyWrong : ChangeSpec := { name := "codeOnly", fn := fun _ => fun
  | [d1, d2] => { results := [.lit (.bool false)], args := [d1, d2] }
  | _ => none }
def CodeOnlyWrongFalsely : Prop := codeOnlyRow.holds Try.pinned (OpenSpec.ofChange codeOnlyWrong)

/-- 'caucuslaw02.CodeUnlike': WHATEVER THE INPUT: true; the input reads as it did. -/
def codeUnlikeSpec : ChangeSpec := { name := "codeUnlike", fn := fun _ => fun
  | [d1, d2] => { results := [.lit (.bool true)], args := [d1, d2] }
  | _ => none }
def codeUnlikeRow : OpenClaim := { program := "ytkjficbegjhefaa", sum := "a7b1f6888435426445f7335bc20f87bcf2388e5387ed93ce0add7ce482c3748d", func := "caucus/caucuslaw02.CodeUnlike", spec := "codeUnlike", apart := false }
def CodeUnlikeSaid : Prop := codeUnlikeRow.holds Try.pinned (OpenSpec.ofChange codeUnlikeSpec)

/-- ITS FALSE NEIGHBOUR: 'it returns false'. Refute it at one input. -/
def codeUnlikeWrong : ChangeSpec := { name := "codeUnlike", fn := fun _ => fun
  | [d1, d2] => { results := [.lit (.bool false)], args := [d1, d2] }
  | _ => none }
def CodeUnlikeWrongFalsely : Prop := codeUnlikeRow.holds Try.pinned (OpenSpec.ofChange codeUnlikeWrong)

/-- 'caucuslaw02.CodeWides': WHATEVER THE INPUT: true; the input reads as it did. -/
def codeWidesSpec : ChangeSpec := { name := "codeWides", fn := fun _ => fun
  | [d1, d2] => { results := [.lit (.bool true)], args := [d1, d2] }
  | _ => none }
def codeWidesRow : OpenClaim := { program := "ytkjficbegjhefaa", sum := "a7b1f6888435426445f7335bc20f87bcf2388e5387ed93ce0add7ce482c3748d", func := "caucus/caucuslaw02.CodeWides", spec := "codeWides", apart := false }
def CodeWidesSaid : Prop := codeWidesRow.holds Try.pinned (OpenSpec.ofChange codeWidesSpec)

/-- ITS FALSE NEIGHBOUR: 'it returns false'. Refute it at one input. -/
def codeWidesWrong : ChangeSpec := { name := "codeWides", fn := fun _ => fun
  | [d1, d2] => { results := [.lit (.bool false)], args := [d1, d2] }
  | _ => none }
def CodeWidesWrongFalsely : Prop := codeWidesRow.holds Try.pinned (OpenSpec.ofChange codeWidesWrong)

/-- 'caucuslaw02.CodeTexts': WHATEVER THE INPUT: true; the input reads as it did. -/
def codeTextsSpec : ChangeSpec := { name := "codeTexts", fn := fun _ => fun
  | [d] => { results := [.lit (.bool true)], args := [d] }
  | _ => none }
def codeTextsRow : OpenClaim := { program := "ytkjficbegjhefaa", sum := "a7b1f6888435426445f7335bc20f87bcf2388e5387ed93ce0add7ce482c3748d", func := "caucus/caucuslaw02.CodeTexts", spec := "codeTexts", apart := false }
def CodeTextsSaid : Prop := codeTextsRow.holds Try.pinned (OpenSpec.ofChange codeTextsSpec)

/-- ITS FALSE NEIGHBOUR: 'it returns false'. Refute it at one input. -/
def codeTextsWrong : ChangeSpec := { name := "codeTexts", fn := fun _ => fun
  | [d] => { results := [.lit (.bool false)], args := [d] }
  | _ => none }
def CodeTextsWrongFalsely : Prop := codeTextsRow.holds Try.pinned (OpenSpec.ofChange codeTextsWrong)

/-- 'caucuslaw02.CodeAsks': WHATEVER THE INPUT: true; the input reads as it did. -/
def codeAsksSpec : ChangeSpec := { name := "codeAsks", fn := fun _ => fun
  | [d1, d2] => { results := [.lit (.bool true)], args := [d1, d2] }
  | _ => none }
def codeAsksRow : OpenClaim := { program := "ytkjficbegjhefaa", sum := "a7b1f6888435426445f7335bc20f87bcf2388e5387ed93ce0add7ce482c3748d", func := "caucus/caucuslaw02.CodeAsks", spec := "codeAsks", apart := false }
def CodeAsksSaid : Prop := codeAsksRow.holds Try.pinned (OpenSpec.ofChange codeAsksSpec)

/-- ITS FALSE NEIGHBOUR: 'it returns false'. Refute it at one input. -/
def codeAsksWrong : ChangeSpec := { name := "codeAsks", fn := fun _ => fun
  | [d1, d2] => { results := [.lit (.bool false)], args := [d1, d2] }
  | _ => none }
def CodeAsksWrongFalsely : Prop := codeAsksRow.holds Try.pinned (OpenSpec.ofChange codeAsksWrong)

/-- 'caucuslaw02.CodeBreaks': WHATEVER THE INPUT: true; the input reads as it did. -/
def codeBreaksSpec : ChangeSpec := { name := "codeBreaks", fn := fun _ => fun
  | [d1, d2, d3, d4] => { results := [.lit (.bool true)], args := [d1, d2, d3, d4] }
  | _ => none }
def codeBreaksRow : OpenClaim := { program := "ytkjficbegjhefaa", sum := "a7b1f6888435426445f7335bc20f87bcf2388e5387ed93ce0add7ce482c3748d", func := "caucus/caucuslaw02.CodeBreaks", spec := "codeBreaks", apart := false }
def CodeBreaksSaid : Prop := codeBreaksRow.holds Try.pinned (OpenSpec.ofChange codeBreaksSpec)

/-- ITS FALSE NEIGHBOUR: 'it returns false'. Refute it at one input. -/
def codeBreaksWrong : ChangeSpec := { name := "codeBreaks", fn := fun _ => fun
  | [d1, d2, d3, d4] => { results := [.lit (.bool false)], args := [d1, d2, d3, d4] }
  | _ => none }
def CodeBreaksWrongFalsely : Prop := codeBreaksRow.holds Try.pinned (OpenSpec.ofChange codeBreaksWrong)

/-- 'caucuslaw02.CodeNobody': WHATEVER THE INPUT: true; the input reads as it did. -/
def codeNobodySpec : ChangeSpec := { name := "codeNobody", fn := fun _ => fun
  | [d1, d2] => { results := [.lit (.bool true)], args := [d1, d2] }
  | _ => none }
def codeNobodyRow : OpenClaim := { program := "ytkjficbegjhefaa", sum := "a7b1f6888435426445f7335bc20f87bcf2388e5387ed93ce0add7ce482c3748d", func := "caucus/caucuslaw02.CodeNobody", spec := "codeNobody", apart := false }
def CodeNobodySaid : Prop := codeNobodyRow.holds Try.pinned (OpenSpec.ofChange codeNobodySpec)

/-- ITS FALSE NEIGHBOUR: 'it returns false'. Refute it at one input. -/
def codeNobodyWrong : ChangeSpec := { name := "codeNobody", fn := fun _ => fun
  | [d1, d2] => { results := [.lit (.bool false)], args := [d1, d2] }
  | _ => none }
def CodeNobodyWrongFalsely : Prop := codeNobodyRow.holds Try.pinned (OpenSpec.ofChange codeNobodyWrong)

/-- 'caucuslaw02.CodeTravels': WHATEVER THE INPUT: true; the input reads as it did. -/
def codeTravelsSpec : ChangeSpec := { name := "codeTravels", fn := fun _ => fun
  | [d1, d2] => { results := [.lit (.bool true)], args := [d1, d2] }
  | _ => none }
def codeTravelsRow : OpenClaim := { program := "ytkjficbegjhefaa", sum := "a7b1f6888435426445f7335bc20f87bcf2388e5387ed93ce0add7ce482c3748d", func := "caucus/caucuslaw02.CodeTravels", spec := "codeTravels", apart := false }
def CodeTravelsSaid : Prop := codeTravelsRow.holds Try.pinned (OpenSpec.ofChange codeTravelsSpec)

/-- ITS FALSE NEIGHBOUR: 'it returns false'. Refute it at one input. -/
def codeTravelsWrong : ChangeSpec := { name := "codeTravels", fn := fun _ => fun
  | [d1, d2] => { results := [.lit (.bool false)], args := [d1, d2] }
  | _ => none }
def CodeTravelsWrongFalsely : Prop := codeTravelsRow.holds Try.pinned (OpenSpec.ofChange codeTravelsWrong)

/- THE SECOND FORM. 'bulk': how many values and letters a reading holds, each counted each time it is reached (what is shared counts as often as it is met; a slice's spare places count too). A statement '..UptoSaid' is the law's where the arguments, and the package variables that the reading takes, are together of bulk at most 1048576: NARROWER than '..Said'. Prove '..Said' where nothing that the law and all that it calls make is longer than what came in: it says more and counts as full. Else prove '..UptoSaid'. A law counts once. -/
mutual
def uptoBulk {H : Type} : DataW H → Nat
  | .lit (.string bytes) => bytes.length + 1
  | .lit _ => 1
  | .nil => 1
  | .ptr d => uptoBulk d + 1
  | .slice elems spare => uptoBulkAll elems + uptoBulkAll spare + 1
  | .agg parts => uptoBulkAll parts + 1
  | .iface _ d => uptoBulk d + 1
  | .map entries => uptoBulkEntries entries + 1
  | .held _ => 1
def uptoBulkAll {H : Type} : List (DataW H) → Nat
  | [] => 0
  | d :: r => uptoBulk d + uptoBulkAll r
def uptoBulkEntries {H : Type} : List (Lit × DataW H) → Nat
  | [] => 0
  | x :: r => uptoBulkEntry x + uptoBulkEntries r
def uptoBulkEntry {H : Type} : Lit × DataW H → Nat
  | (.string bytes, d) => bytes.length + uptoBulk d + 1
  | (_, d) => uptoBulk d + 1
 end
def uptoSmall : (H : Type) → List (DataW H) → Bool := fun _ ds => decide (uptoBulkAll ds ≤ 1048576)
def OpenSpec.upto (s : _root_.Go.ChangeSpec) : _root_.Go.OpenSpec := { _root_.Go.OpenSpec.ofChange s with cond := some uptoSmall }

/-- 'caucuslaw02.CodeShorts', WHERE WHAT IT READS IS OF BULK AT MOST 1048576: true; the input reads as it did. -/
def codeShortsUptoRow : OpenClaim := { program := "ytkjficbegjhefaa", sum := "a7b1f6888435426445f7335bc20f87bcf2388e5387ed93ce0add7ce482c3748d", func := "caucus/caucuslaw02.CodeShorts", spec := "codeShorts", apart := false, narrowed := true }
def CodeShortsUptoSaid : Prop := codeShortsUptoRow.holds Try.pinned (OpenSpec.upto codeShortsSpec)

/-- 'caucuslaw02.CodeOnly', WHERE WHAT IT READS IS OF BULK AT MOST 1048576: true; the input reads as it did. -/
def codeOnlyUptoRow : OpenClaim := { program := "ytkjficbegjhefaa", sum := "a7b1f6888435426445f7335bc20f87bcf2388e5387ed93ce0add7ce482c3748d", func := "caucus/caucuslaw02.CodeOnly", spec := "codeOnly", apart := false, narrowed := true }
def CodeOnlyUptoSaid : Prop := codeOnlyUptoRow.holds Try.pinned (OpenSpec.upto codeOnlySpec)

/-- 'caucuslaw02.CodeUnlike', WHERE WHAT IT READS IS OF BULK AT MOST 1048576: true; the input reads as it did. -/
def codeUnlikeUptoRow : OpenClaim := { program := "ytkjficbegjhefaa", sum := "a7b1f6888435426445f7335bc20f87bcf2388e5387ed93ce0add7ce482c3748d", func := "caucus/caucuslaw02.CodeUnlike", spec := "codeUnlike", apart := false, narrowed := true }
def CodeUnlikeUptoSaid : Prop := codeUnlikeUptoRow.holds Try.pinned (OpenSpec.upto codeUnlikeSpec)

/-- 'caucuslaw02.CodeWides', WHERE WHAT IT READS IS OF BULK AT MOST 1048576: true; the input reads as it did. -/
def codeWidesUptoRow : OpenClaim := { program := "ytkjficbegjhefaa", sum := "a7b1f6888435426445f7335bc20f87bcf2388e5387ed93ce0add7ce482c3748d", func := "caucus/caucuslaw02.CodeWides", spec := "codeWides", apart := false, narrowed := true }
def CodeWidesUptoSaid : Prop := codeWidesUptoRow.holds Try.pinned (OpenSpec.upto codeWidesSpec)

/-- 'caucuslaw02.CodeTexts', WHERE WHAT IT READS IS OF BULK AT MOST 1048576: true; the input reads as it did. -/
def codeTextsUptoRow : OpenClaim := { program := "ytkjficbegjhefaa", sum := "a7b1f6888435426445f7335bc20f87bcf2388e5387ed93ce0add7ce482c3748d", func := "caucus/caucuslaw02.CodeTexts", spec := "codeTexts", apart := false, narrowed := true }
def CodeTextsUptoSaid : Prop := codeTextsUptoRow.holds Try.pinned (OpenSpec.upto codeTextsSpec)

/-- 'caucuslaw02.CodeAsks', WHERE WHAT IT READS IS OF BULK AT MOST 1048576: true; the input reads as it did. -/
def codeAsksUptoRow : OpenClaim := { program := "ytkjficbegjhefaa", sum := "a7b1f6888435426445f7335bc20f87bcf2388e5387ed93ce0add7ce482c3748d", func := "caucus/caucuslaw02.CodeAsks", spec := "codeAsks", apart := false, narrowed := true }
def CodeAsksUptoSaid : Prop := codeAsksUptoRow.holds Try.pinned (OpenSpec.upto codeAsksSpec)

/-- 'caucuslaw02.CodeBreaks', WHERE WHAT IT READS IS OF BULK AT MOST 1048576: true; the input reads as it did. -/
def codeBreaksUptoRow : OpenClaim := { program := "ytkjficbegjhefaa", sum := "a7b1f6888435426445f7335bc20f87bcf2388e5387ed93ce0add7ce482c3748d", func := "caucus/caucuslaw02.CodeBreaks", spec := "codeBreaks", apart := false, narrowed := true }
def CodeBreaksUptoSaid : Prop := codeBreaksUptoRow.holds Try.pinned (OpenSpec.upto codeBreaksSpec)

/-- 'caucuslaw02.CodeNobody', WHERE WHAT IT READS IS OF BULK AT MOST 1048576: true; the input reads as it did. -/
def codeNobodyUptoRow : OpenClaim := { program := "ytkjficbegjhefaa", sum := "a7b1f6888435426445f7335bc20f87bcf2388e5387ed93ce0add7ce482c3748d", func := "caucus/caucuslaw02.CodeNobody", spec := "codeNobody", apart := false, narrowed := true }
def CodeNobodyUptoSaid : Prop := codeNobodyUptoRow.holds Try.pinned (OpenSpec.upto codeNobodySpec)

/-- 'caucuslaw02.CodeTravels', WHERE WHAT IT READS IS OF BULK AT MOST 1048576: true; the input reads as it did. -/
def codeTravelsUptoRow : OpenClaim := { program := "ytkjficbegjhefaa", sum := "a7b1f6888435426445f7335bc20f87bcf2388e5387ed93ce0add7ce482c3748d", func := "caucus/caucuslaw02.CodeTravels", spec := "codeTravels", apart := false, narrowed := true }
def CodeTravelsUptoSaid : Prop := codeTravelsUptoRow.holds Try.pinned (OpenSpec.upto codeTravelsSpec)

end Rows
end Go.Proofs.Ytkjficbegjhefaa
