/-
  NARROWER THAN 'FOR EVERY INPUT', by the rows' own cells (each row's printed sentence says how): FrameMay: laid · FrameBytes: laid · FrameReads: laid · FrameBack: laid · FrameOneForm: laid · FrameSpoilt: laid · FrameApart: laid.
  DERIVED. THE GIVEN ROWS OF THIS SEAT. 7 by the template 'for every input the law returns true; each argument reads behind the call as it read before'; 0 by the template 'total and deterministic' (their statements: YtcjafbpgjlcdpaaDoorTotals.lean).
  GIVEN WITH THE SEED: the statements are not yours to turn. If you find one false, say at which input.
  Laid BY PROGRAM, IN A SANDBOX (cutbox-rows.mjs): the forced cells as the released guide's own fill.sh prints them over the translation a60fc5b406cd35b6… (all of the seat's roots in one cut). By AI agents, Wed Nov 11 2026. No macro, syntax, notation, axiom, sorry.
-/
import Derived.Test.YtcjafbpgjlcdpaaDoorChecked
import GoSem.Claim
import GoSem.ClaimJoined
import GoSem.ClaimMapViews
import Derived.JoinedTies
import Derived.KernelRfl
namespace Go.Proofs.YtcjafbpgjlcdpaaDoor
/- THE CELL 'sum', in the pinned program and in every row, IS THE sha256 OF THE DUMP (.gsa) THAT YtcjafbpgjlcdpaaDoorProg.lean LOADS. Nothing in Lean hashes anything: it is a label: what it is worth is what the hold of that sum in a sandbox is worth. -/
noncomputable def Tryd.pinned : Pinned := { name := "ytcjafbpgjlcdpaadoor", sum := "a60fc5b406cd35b627d10dafe5050536b1a388389805bbb5ce0734ee80815226", checked := Tryd.checked }
namespace Rows
def none {H : Type} : Left H := { results := [], args := [] }

/- WHAT THE LISTED PACKAGE-LEVEL VARIABLES READ AS WHEN THE CALL BEGINS. Each datum BY PROGRAM (the guide's laid-datum.mjs) off the statement by which the dump's own 'gosem.cut.vars' lays the variable. In a bare row this is a premise. The card (YtcjafbpgjlcdpaaDoorCards.lean) ties it to the program's text. -/
def laid_caucus_sum_half {H : Type} : DataW H := .agg [.lit (.int .u32 0), .lit (.int .u32 274646895), .lit (.int .u32 549293790), .lit (.int .u32 820201905), .lit (.int .u32 1098587580), .lit (.int .u32 1361435347), .lit (.int .u32 1640403810), .lit (.int .u32 1905808397), .lit (.int .u32 2197175160), .lit (.int .u32 2460548119), .lit (.int .u32 2722870694), .lit (.int .u32 2987750089), .lit (.int .u32 3280807620), .lit (.int .u32 3553878443), .lit (.int .u32 3811616794), .lit (.int .u32 4084100981)]

/-- 'caucuslaw05.FrameMay': WHATEVER THE INPUT: true; the input reads as it did. -/
def frameMaySpec : ChangeSpec := { name := "frameMay", fn := fun _ => fun
  | [d] => { results := [.lit (.bool true)], args := [d] }
  | _ => none }
def frameMayRow : OpenClaim := { program := "ytcjafbpgjlcdpaadoor", sum := "a60fc5b406cd35b627d10dafe5050536b1a388389805bbb5ce0734ee80815226", func := "caucus/caucuslaw05.FrameMay", spec := "frameMay", named := ["caucus/sum.half"], apart := false, laid := [("caucus/sum.half", laid_caucus_sum_half)] }
def FrameMaySaid : Prop := frameMayRow.holds Tryd.pinned (OpenSpec.ofChange frameMaySpec)

/-- ITS FALSE NEIGHBOUR: 'it returns false'. Refute it at one input. -/
def frameMayWrong : ChangeSpec := { name := "frameMay", fn := fun _ => fun
  | [d] => { results := [.lit (.bool false)], args := [d] }
  | _ => none }
def FrameMayWrongFalsely : Prop := frameMayRow.holds Tryd.pinned (OpenSpec.ofChange frameMayWrong)

/-- 'caucuslaw05.FrameBytes': WHATEVER THE INPUT: true; the input reads as it did. -/
def frameBytesSpec : ChangeSpec := { name := "frameBytes", fn := fun _ => fun
  | [d] => { results := [.lit (.bool true)], args := [d] }
  | _ => none }
def frameBytesRow : OpenClaim := { program := "ytcjafbpgjlcdpaadoor", sum := "a60fc5b406cd35b627d10dafe5050536b1a388389805bbb5ce0734ee80815226", func := "caucus/caucuslaw05.FrameBytes", spec := "frameBytes", named := ["caucus/sum.half"], apart := false, laid := [("caucus/sum.half", laid_caucus_sum_half)] }
def FrameBytesSaid : Prop := frameBytesRow.holds Tryd.pinned (OpenSpec.ofChange frameBytesSpec)

/-- ITS FALSE NEIGHBOUR: 'it returns false'. Refute it at one input. -/
def frameBytesWrong : ChangeSpec := { name := "frameBytes", fn := fun _ => fun
  | [d] => { results := [.lit (.bool false)], args := [d] }
  | _ => none }
def FrameBytesWrongFalsely : Prop := frameBytesRow.holds Tryd.pinned (OpenSpec.ofChange frameBytesWrong)

/-- 'caucuslaw05.FrameReads': WHATEVER THE INPUT: true; the input reads as it did. -/
def frameReadsSpec : ChangeSpec := { name := "frameReads", fn := fun _ => fun
  | [d] => { results := [.lit (.bool true)], args := [d] }
  | _ => none }
def frameReadsRow : OpenClaim := { program := "ytcjafbpgjlcdpaadoor", sum := "a60fc5b406cd35b627d10dafe5050536b1a388389805bbb5ce0734ee80815226", func := "caucus/caucuslaw05.FrameReads", spec := "frameReads", named := ["caucus/sum.half"], apart := false, laid := [("caucus/sum.half", laid_caucus_sum_half)] }
def FrameReadsSaid : Prop := frameReadsRow.holds Tryd.pinned (OpenSpec.ofChange frameReadsSpec)

/-- ITS FALSE NEIGHBOUR: 'it returns false'. Refute it at one input. -/
def frameReadsWrong : ChangeSpec := { name := "frameReads", fn := fun _ => fun
  | [d] => { results := [.lit (.bool false)], args := [d] }
  | _ => none }
def FrameReadsWrongFalsely : Prop := frameReadsRow.holds Tryd.pinned (OpenSpec.ofChange frameReadsWrong)

/-- 'caucuslaw05.FrameBack': WHATEVER THE INPUT: true; the input reads as it did. -/
def frameBackSpec : ChangeSpec := { name := "frameBack", fn := fun _ => fun
  | [d] => { results := [.lit (.bool true)], args := [d] }
  | _ => none }
def frameBackRow : OpenClaim := { program := "ytcjafbpgjlcdpaadoor", sum := "a60fc5b406cd35b627d10dafe5050536b1a388389805bbb5ce0734ee80815226", func := "caucus/caucuslaw05.FrameBack", spec := "frameBack", named := ["caucus/sum.half"], apart := false, laid := [("caucus/sum.half", laid_caucus_sum_half)] }
def FrameBackSaid : Prop := frameBackRow.holds Tryd.pinned (OpenSpec.ofChange frameBackSpec)

/-- ITS FALSE NEIGHBOUR: 'it returns false'. Refute it at one input. -/
def frameBackWrong : ChangeSpec := { name := "frameBack", fn := fun _ => fun
  | [d] => { results := [.lit (.bool false)], args := [d] }
  | _ => none }
def FrameBackWrongFalsely : Prop := frameBackRow.holds Tryd.pinned (OpenSpec.ofChange frameBackWrong)

/-- 'caucuslaw05.FrameOneForm': WHATEVER THE INPUT: true; the input reads as it did. -/
def frameOneFormSpec : ChangeSpec := { name := "frameOneForm", fn := fun _ => fun
  | [d] => { results := [.lit (.bool true)], args := [d] }
  | _ => none }
def frameOneFormRow : OpenClaim := { program := "ytcjafbpgjlcdpaadoor", sum := "a60fc5b406cd35b627d10dafe5050536b1a388389805bbb5ce0734ee80815226", func := "caucus/caucuslaw05.FrameOneForm", spec := "frameOneForm", named := ["caucus/sum.half"], apart := false, laid := [("caucus/sum.half", laid_caucus_sum_half)] }
def FrameOneFormSaid : Prop := frameOneFormRow.holds Tryd.pinned (OpenSpec.ofChange frameOneFormSpec)

/-- ITS FALSE NEIGHBOUR: 'it returns false'. Refute it at one input. -/
def frameOneFormWrong : ChangeSpec := { name := "frameOneForm", fn := fun _ => fun
  | [d] => { results := [.lit (.bool false)], args := [d] }
  | _ => none }
def FrameOneFormWrongFalsely : Prop := frameOneFormRow.holds Tryd.pinned (OpenSpec.ofChange frameOneFormWrong)

/-- 'caucuslaw05.FrameSpoilt': WHATEVER THE INPUT: true; the input reads as it did. -/
def frameSpoiltSpec : ChangeSpec := { name := "frameSpoilt", fn := fun _ => fun
  | [d1, d2] => { results := [.lit (.bool true)], args := [d1, d2] }
  | _ => none }
def frameSpoiltRow : OpenClaim := { program := "ytcjafbpgjlcdpaadoor", sum := "a60fc5b406cd35b627d10dafe5050536b1a388389805bbb5ce0734ee80815226", func := "caucus/caucuslaw05.FrameSpoilt", spec := "frameSpoilt", named := ["caucus/sum.half"], apart := false, laid := [("caucus/sum.half", laid_caucus_sum_half)] }
def FrameSpoiltSaid : Prop := frameSpoiltRow.holds Tryd.pinned (OpenSpec.ofChange frameSpoiltSpec)

/-- ITS FALSE NEIGHBOUR: 'it returns false'. Refute it at one input. -/
def frameSpoiltWrong : ChangeSpec := { name := "frameSpoilt", fn := fun _ => fun
  | [d1, d2] => { results := [.lit (.bool false)], args := [d1, d2] }
  | _ => none }
def FrameSpoiltWrongFalsely : Prop := frameSpoiltRow.holds Tryd.pinned (OpenSpec.ofChange frameSpoiltWrong)

/-- 'caucuslaw05.FrameApart': WHATEVER THE INPUT: true; the input reads as it did. -/
def frameApartSpec : ChangeSpec := { name := "frameApart", fn := fun _ => fun
  | [d1, d2] => { results := [.lit (.bool true)], args := [d1, d2] }
  | _ => none }
def frameApartRow : OpenClaim := { program := "ytcjafbpgjlcdpaadoor", sum := "a60fc5b406cd35b627d10dafe5050536b1a388389805bbb5ce0734ee80815226", func := "caucus/caucuslaw05.FrameApart", spec := "frameApart", named := ["caucus/sum.half"], apart := false, laid := [("caucus/sum.half", laid_caucus_sum_half)] }
def FrameApartSaid : Prop := frameApartRow.holds Tryd.pinned (OpenSpec.ofChange frameApartSpec)

/-- ITS FALSE NEIGHBOUR: 'it returns false'. Refute it at one input. -/
def frameApartWrong : ChangeSpec := { name := "frameApart", fn := fun _ => fun
  | [d1, d2] => { results := [.lit (.bool false)], args := [d1, d2] }
  | _ => none }
def FrameApartWrongFalsely : Prop := frameApartRow.holds Tryd.pinned (OpenSpec.ofChange frameApartWrong)

/- THE SECOND FORM. 'bulk': how many values and letters a reading holds, each counted each time it is reached (what is shared counts as often as it is met; a slice's spare places count too). A statement '..UptoSaid' is the law's where the arguments, and the package variables that the reading takes, are together of bulk at most 1048576: NARROWER than '..Said'. Prove '..Said' where nothing that the law and all that it calls make is longer than what came in: it says more and counts as full. Else prove '..UptoSaid'. A law counts once. -/
mutual
def uptoBulk {H : Type} : DataW H → Nat
  | .lit (.string bytes) => bytes.length + 1
  | .lit _ => 1
  | .nil => 1
  | .ptr d => uptoBulk d + 1
  | .slice elems spare => uptoBulkAll elems + uptoBulkAll spare + 1
  | .agg parts => uptoBulkAll parts + 1
  | .iface _ d => uptoBulk d + 1
  | .map entries => uptoBulkEntries entries + 1
  | .held _ => 1
def uptoBulkAll {H : Type} : List (DataW H) → Nat
  | [] => 0
  | d :: r => uptoBulk d + uptoBulkAll r
def uptoBulkEntries {H : Type} : List (Lit × DataW H) → Nat
  | [] => 0
  | x :: r => uptoBulkEntry x + uptoBulkEntries r
def uptoBulkEntry {H : Type} : Lit × DataW H → Nat
  | (.string bytes, d) => bytes.length + uptoBulk d + 1
  | (_, d) => uptoBulk d + 1
 end
def uptoSmall : (H : Type) → List (DataW H) → Bool := fun _ ds => decide (uptoBulkAll ds ≤ 1048576)
def OpenSpec.upto (s : _root_.Go.ChangeSpec) : _root_.Go.OpenSpec := { _root_.Go.OpenSpec.ofChange s with cond := some uptoSmall }

/-- 'caucuslaw05.FrameMay', WHERE WHAT IT READS IS OF BULK AT MOST 1048576: true; the input reads as it did. -/
def frameMayUptoRow : OpenClaim := { program := "ytcjafbpgjlcdpaadoor", sum := "a60fc5b406cd35b627d10dafe5050536b1a388389805bbb5ce0734ee80815226", func := "caucus/caucuslaw05.FrameMay", spec := "frameMay", named := ["caucus/sum.half"], apart := false, laid := [("caucus/sum.half", laid_caucus_sum_half)], narrowed := true }
def FrameMayUptoSaid : Prop := frameMayUptoRow.holds Tryd.pinned (OpenSpec.upto frameMaySpec)

/-- 'caucuslaw05.FrameBytes', WHERE WHAT IT READS IS OF BULK AT MOST 1048576: true; the input reads as it did. -/
def frameBytesUptoRow : OpenClaim := { program := "ytcjafbpgjlcdpaadoor", sum := "a60fc5b406cd35b627d10dafe5050536b1a388389805bbb5ce0734ee80815226", func := "caucus/caucuslaw05.FrameBytes", spec := "frameBytes", named := ["caucus/sum.half"], apart := false, laid := [("caucus/sum.half", laid_caucus_sum_half)], narrowed := true }
def FrameBytesUptoSaid : Prop := frameBytesUptoRow.holds Tryd.pinned (OpenSpec.upto frameBytesSpec)

/-- 'caucuslaw05.FrameReads', WHERE WHAT IT READS IS OF BULK AT MOST 1048576: true; the input reads as it did. -/
def frameReadsUptoRow : OpenClaim := { program := "ytcjafbpgjlcdpaadoor", sum := "a60fc5b406cd35b627d10dafe5050536b1a388389805bbb5ce0734ee80815226", func := "caucus/caucuslaw05.FrameReads", spec := "frameReads", named := ["caucus/sum.half"], apart := false, laid := [("caucus/sum.half", laid_caucus_sum_half)], narrowed := true }
def FrameReadsUptoSaid : Prop := frameReadsUptoRow.holds Tryd.pinned (OpenSpec.upto frameReadsSpec)

/-- 'caucuslaw05.FrameBack', WHERE WHAT IT READS IS OF BULK AT MOST 1048576: true; the input reads as it did. -/
def frameBackUptoRow : OpenClaim := { program := "ytcjafbpgjlcdpaadoor", sum := "a60fc5b406cd35b627d10dafe5050536b1a388389805bbb5ce0734ee80815226", func := "caucus/caucuslaw05.FrameBack", spec := "frameBack", named := ["caucus/sum.half"], apart := false, laid := [("caucus/sum.half", laid_caucus_sum_half)], narrowed := true }
def FrameBackUptoSaid : Prop := frameBackUptoRow.holds Tryd.pinned (OpenSpec.upto frameBackSpec)

/-- 'caucuslaw05.FrameOneForm', WHERE WHAT IT READS IS OF BULK AT MOST 1048576: true; the input reads as it did. -/
def frameOneFormUptoRow : OpenClaim := { program := "ytcjafbpgjlcdpaadoor", sum := "a60fc5b406cd35b627d10dafe5050536b1a388389805bbb5ce0734ee80815226", func := "caucus/caucuslaw05.FrameOneForm", spec := "frameOneForm", named := ["caucus/sum.half"], apart := false, laid := [("caucus/sum.half", laid_caucus_sum_half)], narrowed := true }
def FrameOneFormUptoSaid : Prop := frameOneFormUptoRow.holds Tryd.pinned (OpenSpec.upto frameOneFormSpec)

/-- 'caucuslaw05.FrameSpoilt', WHERE WHAT IT READS IS OF BULK AT MOST 1048576: true; the input reads as it did. -/
def frameSpoiltUptoRow : OpenClaim := { program := "ytcjafbpgjlcdpaadoor", sum := "a60fc5b406cd35b627d10dafe5050536b1a388389805bbb5ce0734ee80815226", func := "caucus/caucuslaw05.FrameSpoilt", spec := "frameSpoilt", named := ["caucus/sum.half"], apart := false, laid := [("caucus/sum.half", laid_caucus_sum_half)], narrowed := true }
def FrameSpoiltUptoSaid : Prop := frameSpoiltUptoRow.holds Tryd.pinned (OpenSpec.upto frameSpoiltSpec)

/-- 'caucuslaw05.FrameApart', WHERE WHAT IT READS IS OF BULK AT MOST 1048576: true; the input reads as it did. -/
def frameApartUptoRow : OpenClaim := { program := "ytcjafbpgjlcdpaadoor", sum := "a60fc5b406cd35b627d10dafe5050536b1a388389805bbb5ce0734ee80815226", func := "caucus/caucuslaw05.FrameApart", spec := "frameApart", named := ["caucus/sum.half"], apart := false, laid := [("caucus/sum.half", laid_caucus_sum_half)], narrowed := true }
def FrameApartUptoSaid : Prop := frameApartUptoRow.holds Tryd.pinned (OpenSpec.upto frameApartSpec)

end Rows
end Go.Proofs.YtcjafbpgjlcdpaaDoor
