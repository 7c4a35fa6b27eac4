/-
  NARROWER THAN 'FOR EVERY INPUT', by the rows' own cells (each row's printed sentence says how): SumOf: laid · SumSeals: laid · SumOpens: laid · SumCuts: laid · SumBack: laid · SumSpoilt: laid · SumBursts: laid · SumXors: laid.
  DERIVED. THE GIVEN ROWS OF THIS SEAT. 8 by the template 'for every input the law returns true; each argument reads behind the call as it read before'; 0 by the template 'total and deterministic' (their statements: YtmjhdjiglnkoiaaDoorTotals.lean).
  GIVEN WITH THE SEED: the statements are not yours to turn. If you find one false, say at which input.
  Laid BY PROGRAM, IN A SANDBOX (cutbox-rows.mjs): the forced cells as the released guide's own fill.sh prints them over the translation f3aa9f2722f6e4a6… (all of the seat's roots in one cut). By AI agents, Wed Nov 11 2026. No macro, syntax, notation, axiom, sorry.
-/
import Derived.Test.YtmjhdjiglnkoiaaDoorChecked
import GoSem.Claim
import GoSem.ClaimJoined
import GoSem.ClaimMapViews
import Derived.JoinedTies
import Derived.KernelRfl
namespace Go.Proofs.YtmjhdjiglnkoiaaDoor
/- THE CELL 'sum', in the pinned program and in every row, IS THE sha256 OF THE DUMP (.gsa) THAT YtmjhdjiglnkoiaaDoorProg.lean LOADS. Nothing in Lean hashes anything: it is a label: what it is worth is what the hold of that sum in a sandbox is worth. -/
noncomputable def Tryd.pinned : Pinned := { name := "ytmjhdjiglnkoiaadoor", sum := "f3aa9f2722f6e4a60bdb8a5953a63b2735758ed62dd0e2a0b4204a918a2caaff", checked := Tryd.checked }
namespace Rows
def none {H : Type} : Left H := { results := [], args := [] }

/- WHAT THE LISTED PACKAGE-LEVEL VARIABLES READ AS WHEN THE CALL BEGINS. Each datum BY PROGRAM (the guide's laid-datum.mjs) off the statement by which the dump's own 'gosem.cut.vars' lays the variable. In a bare row this is a premise. The card (YtmjhdjiglnkoiaaDoorCards.lean) ties it to the program's text. -/
def laid_caucus_sum_half {H : Type} : DataW H := .agg [.lit (.int .u32 0), .lit (.int .u32 274646895), .lit (.int .u32 549293790), .lit (.int .u32 820201905), .lit (.int .u32 1098587580), .lit (.int .u32 1361435347), .lit (.int .u32 1640403810), .lit (.int .u32 1905808397), .lit (.int .u32 2197175160), .lit (.int .u32 2460548119), .lit (.int .u32 2722870694), .lit (.int .u32 2987750089), .lit (.int .u32 3280807620), .lit (.int .u32 3553878443), .lit (.int .u32 3811616794), .lit (.int .u32 4084100981)]

/-- 'caucuslaw01.SumOf': WHATEVER THE INPUT: true; the input reads as it did. -/
def sumOfSpec : ChangeSpec := { name := "sumOf", fn := fun _ => fun
  | [d] => { results := [.lit (.bool true)], args := [d] }
  | _ => none }
def sumOfRow : OpenClaim := { program := "ytmjhdjiglnkoiaadoor", sum := "f3aa9f2722f6e4a60bdb8a5953a63b2735758ed62dd0e2a0b4204a918a2caaff", func := "caucus/caucuslaw01.SumOf", spec := "sumOf", named := ["caucus/sum.half"], apart := false, laid := [("caucus/sum.half", laid_caucus_sum_half)] }
def SumOfSaid : Prop := sumOfRow.holds Tryd.pinned (OpenSpec.ofChange sumOfSpec)

/-- ITS FALSE NEIGHBOUR: 'it returns false'. Refute it at one input. -/
def sumOfWrong : ChangeSpec := { name := "sumOf", fn := fun _ => fun
  | [d] => { results := [.lit (.bool false)], args := [d] }
  | _ => none }
def SumOfWrongFalsely : Prop := sumOfRow.holds Tryd.pinned (OpenSpec.ofChange sumOfWrong)

/-- 'caucuslaw01.SumSeals': WHATEVER THE INPUT: true; the input reads as it did. -/
def sumSealsSpec : ChangeSpec := { name := "sumSeals", fn := fun _ => fun
  | [d] => { results := [.lit (.bool true)], args := [d] }
  | _ => none }
def sumSealsRow : OpenClaim := { program := "ytmjhdjiglnkoiaadoor", sum := "f3aa9f2722f6e4a60bdb8a5953a63b2735758ed62dd0e2a0b4204a918a2caaff", func := "caucus/caucuslaw01.SumSeals", spec := "sumSeals", named := ["caucus/sum.half"], apart := false, laid := [("caucus/sum.half", laid_caucus_sum_half)] }
def SumSealsSaid : Prop := sumSealsRow.holds Tryd.pinned (OpenSpec.ofChange sumSealsSpec)

/-- ITS FALSE NEIGHBOUR: 'it returns false'. Refute it at one input. -/
def sumSealsWrong : ChangeSpec := { name := "sumSeals", fn := fun _ => fun
  | [d] => { results := [.lit (.bool false)], args := [d] }
  | _ => none }
def SumSealsWrongFalsely : Prop := sumSealsRow.holds Tryd.pinned (OpenSpec.ofChange sumSealsWrong)

/-- 'caucuslaw01.SumOpens': WHATEVER THE INPUT: true; the input reads as it did. -/
def sumOpensSpec : ChangeSpec := { name := "sumOpens", fn := fun _ => fun
  | [d] => { results := [.lit (.bool true)], args := [d] }
  | _ => none }
def sumOpensRow : OpenClaim := { program := "ytmjhdjiglnkoiaadoor", sum := "f3aa9f2722f6e4a60bdb8a5953a63b2735758ed62dd0e2a0b4204a918a2caaff", func := "caucus/caucuslaw01.SumOpens", spec := "sumOpens", named := ["caucus/sum.half"], apart := false, laid := [("caucus/sum.half", laid_caucus_sum_half)] }
def SumOpensSaid : Prop := sumOpensRow.holds Tryd.pinned (OpenSpec.ofChange sumOpensSpec)

/-- ITS FALSE NEIGHBOUR: 'it returns false'. Refute it at one input. -/
def sumOpensWrong : ChangeSpec := { name := "sumOpens", fn := fun _ => fun
  | [d] => { results := [.lit (.bool false)], args := [d] }
  | _ => none }
def SumOpensWrongFalsely : Prop := sumOpensRow.holds Tryd.pinned (OpenSpec.ofChange sumOpensWrong)

/-- 'caucuslaw01.SumCuts': WHATEVER THE INPUT: true; the input reads as it did. -/
def sumCutsSpec : ChangeSpec := { name := "sumCuts", fn := fun _ => fun
  | [d1, d2, d3, d4] => { results := [.lit (.bool true)], args := [d1, d2, d3, d4] }
  | _ => none }
def sumCutsRow : OpenClaim := { program := "ytmjhdjiglnkoiaadoor", sum := "f3aa9f2722f6e4a60bdb8a5953a63b2735758ed62dd0e2a0b4204a918a2caaff", func := "caucus/caucuslaw01.SumCuts", spec := "sumCuts", named := ["caucus/sum.half"], apart := false, laid := [("caucus/sum.half", laid_caucus_sum_half)] }
def SumCutsSaid : Prop := sumCutsRow.holds Tryd.pinned (OpenSpec.ofChange sumCutsSpec)

/-- ITS FALSE NEIGHBOUR: 'it returns false'. Refute it at one input. -/
def sumCutsWrong : ChangeSpec := { name := "sumCuts", fn := fun _ => fun
  | [d1, d2, d3, d4] => { results := [.lit (.bool false)], args := [d1, d2, d3, d4] }
  | _ => none }
def SumCutsWrongFalsely : Prop := sumCutsRow.holds Tryd.pinned (OpenSpec.ofChange sumCutsWrong)

/-- 'caucuslaw01.SumBack': WHATEVER THE INPUT: true; the input reads as it did. -/
def sumBackSpec : ChangeSpec := { name := "sumBack", fn := fun _ => fun
  | [d] => { results := [.lit (.bool true)], args := [d] }
  | _ => none }
def sumBackRow : OpenClaim := { program := "ytmjhdjiglnkoiaadoor", sum := "f3aa9f2722f6e4a60bdb8a5953a63b2735758ed62dd0e2a0b4204a918a2caaff", func := "caucus/caucuslaw01.SumBack", spec := "sumBack", named := ["caucus/sum.half"], apart := false, laid := [("caucus/sum.half", laid_caucus_sum_half)] }
def SumBackSaid : Prop := sumBackRow.holds Tryd.pinned (OpenSpec.ofChange sumBackSpec)

/-- ITS FALSE NEIGHBOUR: 'it returns false'. Refute it at one input. -/
def sumBackWrong : ChangeSpec := { name := "sumBack", fn := fun _ => fun
  | [d] => { results := [.lit (.bool false)], args := [d] }
  | _ => none }
def SumBackWrongFalsely : Prop := sumBackRow.holds Tryd.pinned (OpenSpec.ofChange sumBackWrong)

/-- 'caucuslaw01.SumSpoilt': WHATEVER THE INPUT: true; the input reads as it did. -/
def sumSpoiltSpec : ChangeSpec := { name := "sumSpoilt", fn := fun _ => fun
  | [d1, d2] => { results := [.lit (.bool true)], args := [d1, d2] }
  | _ => none }
def sumSpoiltRow : OpenClaim := { program := "ytmjhdjiglnkoiaadoor", sum := "f3aa9f2722f6e4a60bdb8a5953a63b2735758ed62dd0e2a0b4204a918a2caaff", func := "caucus/caucuslaw01.SumSpoilt", spec := "sumSpoilt", named := ["caucus/sum.half"], apart := false, laid := [("caucus/sum.half", laid_caucus_sum_half)] }
def SumSpoiltSaid : Prop := sumSpoiltRow.holds Tryd.pinned (OpenSpec.ofChange sumSpoiltSpec)

/-- ITS FALSE NEIGHBOUR: 'it returns false'. Refute it at one input. -/
def sumSpoiltWrong : ChangeSpec := { name := "sumSpoilt", fn := fun _ => fun
  | [d1, d2] => { results := [.lit (.bool false)], args := [d1, d2] }
  | _ => none }
def SumSpoiltWrongFalsely : Prop := sumSpoiltRow.holds Tryd.pinned (OpenSpec.ofChange sumSpoiltWrong)

/-- 'caucuslaw01.SumBursts': WHATEVER THE INPUT: true; the input reads as it did. -/
def sumBurstsSpec : ChangeSpec := { name := "sumBursts", fn := fun _ => fun
  | [d1, d2, d3] => { results := [.lit (.bool true)], args := [d1, d2, d3] }
  | _ => none }
def sumBurstsRow : OpenClaim := { program := "ytmjhdjiglnkoiaadoor", sum := "f3aa9f2722f6e4a60bdb8a5953a63b2735758ed62dd0e2a0b4204a918a2caaff", func := "caucus/caucuslaw01.SumBursts", spec := "sumBursts", named := ["caucus/sum.half"], apart := false, laid := [("caucus/sum.half", laid_caucus_sum_half)] }
def SumBurstsSaid : Prop := sumBurstsRow.holds Tryd.pinned (OpenSpec.ofChange sumBurstsSpec)

/-- ITS FALSE NEIGHBOUR: 'it returns false'. Refute it at one input. -/
def sumBurstsWrong : ChangeSpec := { name := "sumBursts", fn := fun _ => fun
  | [d1, d2, d3] => { results := [.lit (.bool false)], args := [d1, d2, d3] }
  | _ => none }
def SumBurstsWrongFalsely : Prop := sumBurstsRow.holds Tryd.pinned (OpenSpec.ofChange sumBurstsWrong)

/-- 'caucuslaw01.SumXors': WHATEVER THE INPUT: true; the input reads as it did. -/
def sumXorsSpec : ChangeSpec := { name := "sumXors", fn := fun _ => fun
  | [d1, d2] => { results := [.lit (.bool true)], args := [d1, d2] }
  | _ => none }
def sumXorsRow : OpenClaim := { program := "ytmjhdjiglnkoiaadoor", sum := "f3aa9f2722f6e4a60bdb8a5953a63b2735758ed62dd0e2a0b4204a918a2caaff", func := "caucus/caucuslaw01.SumXors", spec := "sumXors", named := ["caucus/sum.half"], apart := false, laid := [("caucus/sum.half", laid_caucus_sum_half)] }
def SumXorsSaid : Prop := sumXorsRow.holds Tryd.pinned (OpenSpec.ofChange sumXorsSpec)

/-- ITS FALSE NEIGHBOUR: 'it returns false'. Refute it at one input. -/
def sumXorsWrong : ChangeSpec := { name := "sumXors", fn := fun _ => fun
  | [d1, d2] => { results := [.lit (.bool false)], args := [d1, d2] }
  | _ => none }
def SumXorsWrongFalsely : Prop := sumXorsRow.holds Tryd.pinned (OpenSpec.ofChange sumXorsWrong)

/- THE SECOND FORM. 'bulk': how many values and letters a reading holds, each counted each time it is reached (what is shared counts as often as it is met; a slice's spare places count too). A statement '..UptoSaid' is the law's where the arguments, and the package variables that the reading takes, are together of bulk at most 1048576: NARROWER than '..Said'. Prove '..Said' where nothing that the law and all that it calls make is longer than what came in: it says more and counts as full. Else prove '..UptoSaid'. A law counts once. -/
mutual
def uptoBulk {H : Type} : DataW H → Nat
  | .lit (.string bytes) => bytes.length + 1
  | .lit _ => 1
  | .nil => 1
  | .ptr d => uptoBulk d + 1
  | .slice elems spare => uptoBulkAll elems + uptoBulkAll spare + 1
  | .agg parts => uptoBulkAll parts + 1
  | .iface _ d => uptoBulk d + 1
  | .map entries => uptoBulkEntries entries + 1
  | .held _ => 1
def uptoBulkAll {H : Type} : List (DataW H) → Nat
  | [] => 0
  | d :: r => uptoBulk d + uptoBulkAll r
def uptoBulkEntries {H : Type} : List (Lit × DataW H) → Nat
  | [] => 0
  | x :: r => uptoBulkEntry x + uptoBulkEntries r
def uptoBulkEntry {H : Type} : Lit × DataW H → Nat
  | (.string bytes, d) => bytes.length + uptoBulk d + 1
  | (_, d) => uptoBulk d + 1
 end
def uptoSmall : (H : Type) → List (DataW H) → Bool := fun _ ds => decide (uptoBulkAll ds ≤ 1048576)
def OpenSpec.upto (s : _root_.Go.ChangeSpec) : _root_.Go.OpenSpec := { _root_.Go.OpenSpec.ofChange s with cond := some uptoSmall }

/-- 'caucuslaw01.SumOf', WHERE WHAT IT READS IS OF BULK AT MOST 1048576: true; the input reads as it did. -/
def sumOfUptoRow : OpenClaim := { program := "ytmjhdjiglnkoiaadoor", sum := "f3aa9f2722f6e4a60bdb8a5953a63b2735758ed62dd0e2a0b4204a918a2caaff", func := "caucus/caucuslaw01.SumOf", spec := "sumOf", named := ["caucus/sum.half"], apart := false, laid := [("caucus/sum.half", laid_caucus_sum_half)], narrowed := true }
def SumOfUptoSaid : Prop := sumOfUptoRow.holds Tryd.pinned (OpenSpec.upto sumOfSpec)

/-- 'caucuslaw01.SumSeals', WHERE WHAT IT READS IS OF BULK AT MOST 1048576: true; the input reads as it did. -/
def sumSealsUptoRow : OpenClaim := { program := "ytmjhdjiglnkoiaadoor", sum := "f3aa9f2722f6e4a60bdb8a5953a63b2735758ed62dd0e2a0b4204a918a2caaff", func := "caucus/caucuslaw01.SumSeals", spec := "sumSeals", named := ["caucus/sum.half"], apart := false, laid := [("caucus/sum.half", laid_caucus_sum_half)], narrowed := true }
def SumSealsUptoSaid : Prop := sumSealsUptoRow.holds Tryd.pinned (OpenSpec.upto sumSealsSpec)

/-- 'caucuslaw01.SumOpens', WHERE WHAT IT READS IS OF BULK AT MOST 1048576: true; the input reads as it did. -/
def sumOpensUptoRow : OpenClaim := { program := "ytmjhdjiglnkoiaadoor", sum := "f3aa9f2722f6e4a60bdb8a5953a63b2735758ed62dd0e2a0b4204a918a2caaff", func := "caucus/caucuslaw01.SumOpens", spec := "sumOpens", named := ["caucus/sum.half"], apart := false, laid := [("caucus/sum.half", laid_caucus_sum_half)], narrowed := true }
def SumOpensUptoSaid : Prop := sumOpensUptoRow.holds Tryd.pinned (OpenSpec.upto sumOpensSpec)

/-- 'caucuslaw01.SumCuts', WHERE WHAT IT READS IS OF BULK AT MOST 1048576: true; the input reads as it did. -/
def sumCutsUptoRow : OpenClaim := { program := "ytmjhdjiglnkoiaadoor", sum := "f3aa9f2722f6e4a60bdb8a5953a63b2735758ed62dd0e2a0b4204a918a2caaff", func := "caucus/caucuslaw01.SumCuts", spec := "sumCuts", named := ["caucus/sum.half"], apart := false, laid := [("caucus/sum.half", laid_caucus_sum_half)], narrowed := true }
def SumCutsUptoSaid : Prop := sumCutsUptoRow.holds Tryd.pinned (OpenSpec.upto sumCutsSpec)

/-- 'caucuslaw01.SumBack', WHERE WHAT IT READS IS OF BULK AT MOST 1048576: true; the input reads as it did. -/
def sumBackUptoRow : OpenClaim := { program := "ytmjhdjiglnkoiaadoor", sum := "f3aa9f2722f6e4a60bdb8a5953a63b2735758ed62dd0e2a0b4204a918a2caaff", func := "caucus/caucuslaw01.SumBack", spec := "sumBack", named := ["caucus/sum.half"], apart := false, laid := [("caucus/sum.half", laid_caucus_sum_half)], narrowed := true }
def SumBackUptoSaid : Prop := sumBackUptoRow.holds Tryd.pinned (OpenSpec.upto sumBackSpec)

/-- 'caucuslaw01.SumSpoilt', WHERE WHAT IT READS IS OF BULK AT MOST 1048576: true; the input reads as it did. -/
def sumSpoiltUptoRow : OpenClaim := { program := "ytmjhdjiglnkoiaadoor", sum := "f3aa9f2722f6e4a60bdb8a5953a63b2735758ed62dd0e2a0b4204a918a2caaff", func := "caucus/caucuslaw01.SumSpoilt", spec := "sumSpoilt", named := ["caucus/sum.half"], apart := false, laid := [("caucus/sum.half", laid_caucus_sum_half)], narrowed := true }
def SumSpoiltUptoSaid : Prop := sumSpoiltUptoRow.holds Tryd.pinned (OpenSpec.upto sumSpoiltSpec)

/-- 'caucuslaw01.SumBursts', WHERE WHAT IT READS IS OF BULK AT MOST 1048576: true; the input reads as it did. -/
def sumBurstsUptoRow : OpenClaim := { program := "ytmjhdjiglnkoiaadoor", sum := "f3aa9f2722f6e4a60bdb8a5953a63b2735758ed62dd0e2a0b4204a918a2caaff", func := "caucus/caucuslaw01.SumBursts", spec := "sumBursts", named := ["caucus/sum.half"], apart := false, laid := [("caucus/sum.half", laid_caucus_sum_half)], narrowed := true }
def SumBurstsUptoSaid : Prop := sumBurstsUptoRow.holds Tryd.pinned (OpenSpec.upto sumBurstsSpec)

/-- 'caucuslaw01.SumXors', WHERE WHAT IT READS IS OF BULK AT MOST 1048576: true; the input reads as it did. -/
def sumXorsUptoRow : OpenClaim := { program := "ytmjhdjiglnkoiaadoor", sum := "f3aa9f2722f6e4a60bdb8a5953a63b2735758ed62dd0e2a0b4204a918a2caaff", func := "caucus/caucuslaw01.SumXors", spec := "sumXors", named := ["caucus/sum.half"], apart := false, laid := [("caucus/sum.half", laid_caucus_sum_half)], narrowed := true }
def SumXorsUptoSaid : Prop := sumXorsUptoRow.holds Tryd.pinned (OpenSpec.upto sumXorsSpec)

end Rows
end Go.Proofs.YtmjhdjiglnkoiaaDoor
