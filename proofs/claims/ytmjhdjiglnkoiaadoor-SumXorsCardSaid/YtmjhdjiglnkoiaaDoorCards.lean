/-
  DERIVED. GIVEN WITH THE SEED: THE CARDS: each row of YtmjhdjiglnkoiaaDoorRows.lean that lists a variable, with what it lists TIED to the program's text (the seventh form; the later family's looks); each row that meets fmt, with fmt's text TOLD by the authors' own Lean function (tested against real Go, not proved from fmt's source: count such statements apart). THE CARD IS WHAT COUNTS. Prove the row's statement (the work); the ties are given (YtmjhdjiglnkoiaaDoorTie.lean); close each card by the builder's one call (the guide's Derived/Test/ToyasCard.lean, 'card_holds'). Laid BY PROGRAM, IN A SANDBOX (cutbox-door.mjs). By AI agents, Wed Nov 11 2026. No macro, syntax, notation, axiom, sorry.
-/
import Derived.Test.YtmjhdjiglnkoiaaDoorRows
import GoSem.ClaimSeven
namespace Go.Proofs.YtmjhdjiglnkoiaaDoor
namespace Rows

/-- THE TIED CARD OF 'caucuslaw01.SumOf'. -/
def sumOfCard : Claim7 := { stood := { row := sumOfRow, standIns := [], harness := (true, "c7a45201cbbbe3d825c5543bab9c1659073f173db4753fab26b4b39031aedea2"), looks := false }, kinds := [], alts := [], laidByText := true, laidKinds := [.data], laidTests := true, laidLooks := .later }
def SumOfCardSaid : Prop := Claim7.holds Tryd.pinned (.plain (OpenSpec.ofChange sumOfSpec)) sumOfCard

/-- THE TIED CARD OF 'caucuslaw01.SumSeals'. -/
def sumSealsCard : Claim7 := { stood := { row := sumSealsRow, standIns := [], harness := (true, "c7a45201cbbbe3d825c5543bab9c1659073f173db4753fab26b4b39031aedea2"), looks := false }, kinds := [], alts := [], laidByText := true, laidKinds := [.data], laidTests := true, laidLooks := .later }
def SumSealsCardSaid : Prop := Claim7.holds Tryd.pinned (.plain (OpenSpec.ofChange sumSealsSpec)) sumSealsCard

/-- THE TIED CARD OF 'caucuslaw01.SumOpens'. -/
def sumOpensCard : Claim7 := { stood := { row := sumOpensRow, standIns := [], harness := (true, "c7a45201cbbbe3d825c5543bab9c1659073f173db4753fab26b4b39031aedea2"), looks := false }, kinds := [], alts := [], laidByText := true, laidKinds := [.data], laidTests := true, laidLooks := .later }
def SumOpensCardSaid : Prop := Claim7.holds Tryd.pinned (.plain (OpenSpec.ofChange sumOpensSpec)) sumOpensCard

/-- THE TIED CARD OF 'caucuslaw01.SumCuts'. -/
def sumCutsCard : Claim7 := { stood := { row := sumCutsRow, standIns := [], harness := (true, "c7a45201cbbbe3d825c5543bab9c1659073f173db4753fab26b4b39031aedea2"), looks := false }, kinds := [], alts := [], laidByText := true, laidKinds := [.data], laidTests := true, laidLooks := .later }
def SumCutsCardSaid : Prop := Claim7.holds Tryd.pinned (.plain (OpenSpec.ofChange sumCutsSpec)) sumCutsCard

/-- THE TIED CARD OF 'caucuslaw01.SumBack'. -/
def sumBackCard : Claim7 := { stood := { row := sumBackRow, standIns := [], harness := (true, "c7a45201cbbbe3d825c5543bab9c1659073f173db4753fab26b4b39031aedea2"), looks := false }, kinds := [], alts := [], laidByText := true, laidKinds := [.data], laidTests := true, laidLooks := .later }
def SumBackCardSaid : Prop := Claim7.holds Tryd.pinned (.plain (OpenSpec.ofChange sumBackSpec)) sumBackCard

/-- THE TIED CARD OF 'caucuslaw01.SumSpoilt'. -/
def sumSpoiltCard : Claim7 := { stood := { row := sumSpoiltRow, standIns := [], harness := (true, "c7a45201cbbbe3d825c5543bab9c1659073f173db4753fab26b4b39031aedea2"), looks := false }, kinds := [], alts := [], laidByText := true, laidKinds := [.data], laidTests := true, laidLooks := .later }
def SumSpoiltCardSaid : Prop := Claim7.holds Tryd.pinned (.plain (OpenSpec.ofChange sumSpoiltSpec)) sumSpoiltCard

/-- THE TIED CARD OF 'caucuslaw01.SumBursts'. -/
def sumBurstsCard : Claim7 := { stood := { row := sumBurstsRow, standIns := [], harness := (true, "c7a45201cbbbe3d825c5543bab9c1659073f173db4753fab26b4b39031aedea2"), looks := false }, kinds := [], alts := [], laidByText := true, laidKinds := [.data], laidTests := true, laidLooks := .later }
def SumBurstsCardSaid : Prop := Claim7.holds Tryd.pinned (.plain (OpenSpec.ofChange sumBurstsSpec)) sumBurstsCard

/-- THE TIED CARD OF 'caucuslaw01.SumXors'. -/
def sumXorsCard : Claim7 := { stood := { row := sumXorsRow, standIns := [], harness := (true, "c7a45201cbbbe3d825c5543bab9c1659073f173db4753fab26b4b39031aedea2"), looks := false }, kinds := [], alts := [], laidByText := true, laidKinds := [.data], laidTests := true, laidLooks := .later }
def SumXorsCardSaid : Prop := Claim7.holds Tryd.pinned (.plain (OpenSpec.ofChange sumXorsSpec)) sumXorsCard

/-- THE SECOND FORM's CARD OF 'caucuslaw01.SumOf'. -/
def sumOfUptoCard : Claim7 := { stood := { row := sumOfUptoRow, standIns := [], harness := (true, "c7a45201cbbbe3d825c5543bab9c1659073f173db4753fab26b4b39031aedea2"), looks := false }, kinds := [], alts := [], laidByText := true, laidKinds := [.data], laidTests := true, laidLooks := .later }
def SumOfUptoCardSaid : Prop := Claim7.holds Tryd.pinned (.plain (OpenSpec.upto sumOfSpec)) sumOfUptoCard

/-- THE SECOND FORM's CARD OF 'caucuslaw01.SumSeals'. -/
def sumSealsUptoCard : Claim7 := { stood := { row := sumSealsUptoRow, standIns := [], harness := (true, "c7a45201cbbbe3d825c5543bab9c1659073f173db4753fab26b4b39031aedea2"), looks := false }, kinds := [], alts := [], laidByText := true, laidKinds := [.data], laidTests := true, laidLooks := .later }
def SumSealsUptoCardSaid : Prop := Claim7.holds Tryd.pinned (.plain (OpenSpec.upto sumSealsSpec)) sumSealsUptoCard

/-- THE SECOND FORM's CARD OF 'caucuslaw01.SumOpens'. -/
def sumOpensUptoCard : Claim7 := { stood := { row := sumOpensUptoRow, standIns := [], harness := (true, "c7a45201cbbbe3d825c5543bab9c1659073f173db4753fab26b4b39031aedea2"), looks := false }, kinds := [], alts := [], laidByText := true, laidKinds := [.data], laidTests := true, laidLooks := .later }
def SumOpensUptoCardSaid : Prop := Claim7.holds Tryd.pinned (.plain (OpenSpec.upto sumOpensSpec)) sumOpensUptoCard

/-- THE SECOND FORM's CARD OF 'caucuslaw01.SumCuts'. -/
def sumCutsUptoCard : Claim7 := { stood := { row := sumCutsUptoRow, standIns := [], harness := (true, "c7a45201cbbbe3d825c5543bab9c1659073f173db4753fab26b4b39031aedea2"), looks := false }, kinds := [], alts := [], laidByText := true, laidKinds := [.data], laidTests := true, laidLooks := .later }
def SumCutsUptoCardSaid : Prop := Claim7.holds Tryd.pinned (.plain (OpenSpec.upto sumCutsSpec)) sumCutsUptoCard

/-- THE SECOND FORM's CARD OF 'caucuslaw01.SumBack'. -/
def sumBackUptoCard : Claim7 := { stood := { row := sumBackUptoRow, standIns := [], harness := (true, "c7a45201cbbbe3d825c5543bab9c1659073f173db4753fab26b4b39031aedea2"), looks := false }, kinds := [], alts := [], laidByText := true, laidKinds := [.data], laidTests := true, laidLooks := .later }
def SumBackUptoCardSaid : Prop := Claim7.holds Tryd.pinned (.plain (OpenSpec.upto sumBackSpec)) sumBackUptoCard

/-- THE SECOND FORM's CARD OF 'caucuslaw01.SumSpoilt'. -/
def sumSpoiltUptoCard : Claim7 := { stood := { row := sumSpoiltUptoRow, standIns := [], harness := (true, "c7a45201cbbbe3d825c5543bab9c1659073f173db4753fab26b4b39031aedea2"), looks := false }, kinds := [], alts := [], laidByText := true, laidKinds := [.data], laidTests := true, laidLooks := .later }
def SumSpoiltUptoCardSaid : Prop := Claim7.holds Tryd.pinned (.plain (OpenSpec.upto sumSpoiltSpec)) sumSpoiltUptoCard

/-- THE SECOND FORM's CARD OF 'caucuslaw01.SumBursts'. -/
def sumBurstsUptoCard : Claim7 := { stood := { row := sumBurstsUptoRow, standIns := [], harness := (true, "c7a45201cbbbe3d825c5543bab9c1659073f173db4753fab26b4b39031aedea2"), looks := false }, kinds := [], alts := [], laidByText := true, laidKinds := [.data], laidTests := true, laidLooks := .later }
def SumBurstsUptoCardSaid : Prop := Claim7.holds Tryd.pinned (.plain (OpenSpec.upto sumBurstsSpec)) sumBurstsUptoCard

/-- THE SECOND FORM's CARD OF 'caucuslaw01.SumXors'. -/
def sumXorsUptoCard : Claim7 := { stood := { row := sumXorsUptoRow, standIns := [], harness := (true, "c7a45201cbbbe3d825c5543bab9c1659073f173db4753fab26b4b39031aedea2"), looks := false }, kinds := [], alts := [], laidByText := true, laidKinds := [.data], laidTests := true, laidLooks := .later }
def SumXorsUptoCardSaid : Prop := Claim7.holds Tryd.pinned (.plain (OpenSpec.upto sumXorsSpec)) sumXorsUptoCard
end Rows
end Go.Proofs.YtmjhdjiglnkoiaaDoor
