/-
  DERIVED. GIVEN WITH THE SEED: THE CARDS: each row of YtcjafbpgjlcdpaaDoorRows.lean that lists a variable, with what it lists TIED to the program's text (the seventh form; the later family's looks); each row that meets fmt, with fmt's text TOLD by the authors' own Lean function (tested against real Go, not proved from fmt's source: count such statements apart). THE CARD IS WHAT COUNTS. Prove the row's statement (the work); the ties are given (YtcjafbpgjlcdpaaDoorTie.lean); close each card by the builder's one call (the guide's Derived/Test/ToyasCard.lean, 'card_holds'). Laid BY PROGRAM, IN A SANDBOX (cutbox-door.mjs). By AI agents, Wed Nov 11 2026. No macro, syntax, notation, axiom, sorry.
-/
import Derived.Test.YtcjafbpgjlcdpaaDoorRows
import GoSem.ClaimSeven
namespace Go.Proofs.YtcjafbpgjlcdpaaDoor
namespace Rows

/-- THE TIED CARD OF 'caucuslaw05.FrameMay'. -/
def frameMayCard : Claim7 := { stood := { row := frameMayRow, standIns := [], harness := (true, "8a71ac7b7b40fafa0a5632c73a09a58a63a8ed7ec3d9e0db662be6beb6b8e4b6"), looks := false }, kinds := [], alts := [], laidByText := true, laidKinds := [.data], laidTests := true, laidLooks := .later }
def FrameMayCardSaid : Prop := Claim7.holds Tryd.pinned (.plain (OpenSpec.ofChange frameMaySpec)) frameMayCard

/-- THE TIED CARD OF 'caucuslaw05.FrameBytes'. -/
def frameBytesCard : Claim7 := { stood := { row := frameBytesRow, standIns := [], harness := (true, "8a71ac7b7b40fafa0a5632c73a09a58a63a8ed7ec3d9e0db662be6beb6b8e4b6"), looks := false }, kinds := [], alts := [], laidByText := true, laidKinds := [.data], laidTests := true, laidLooks := .later }
def FrameBytesCardSaid : Prop := Claim7.holds Tryd.pinned (.plain (OpenSpec.ofChange frameBytesSpec)) frameBytesCard

/-- THE TIED CARD OF 'caucuslaw05.FrameReads'. -/
def frameReadsCard : Claim7 := { stood := { row := frameReadsRow, standIns := [], harness := (true, "8a71ac7b7b40fafa0a5632c73a09a58a63a8ed7ec3d9e0db662be6beb6b8e4b6"), looks := false }, kinds := [], alts := [], laidByText := true, laidKinds := [.data], laidTests := true, laidLooks := .later }
def FrameReadsCardSaid : Prop := Claim7.holds Tryd.pinned (.plain (OpenSpec.ofChange frameReadsSpec)) frameReadsCard

/-- THE TIED CARD OF 'caucuslaw05.FrameBack'. -/
def frameBackCard : Claim7 := { stood := { row := frameBackRow, standIns := [], harness := (true, "8a71ac7b7b40fafa0a5632c73a09a58a63a8ed7ec3d9e0db662be6beb6b8e4b6"), looks := false }, kinds := [], alts := [], laidByText := true, laidKinds := [.data], laidTests := true, laidLooks := .later }
def FrameBackCardSaid : Prop := Claim7.holds Tryd.pinned (.plain (OpenSpec.ofChange frameBackSpec)) frameBackCard

/-- THE TIED CARD OF 'caucuslaw05.FrameOneForm'. -/
def frameOneFormCard : Claim7 := { stood := { row := frameOneFormRow, standIns := [], harness := (true, "8a71ac7b7b40fafa0a5632c73a09a58a63a8ed7ec3d9e0db662be6beb6b8e4b6"), looks := false }, kinds := [], alts := [], laidByText := true, laidKinds := [.data], laidTests := true, laidLooks := .later }
def FrameOneFormCardSaid : Prop := Claim7.holds Tryd.pinned (.plain (OpenSpec.ofChange frameOneFormSpec)) frameOneFormCard

/-- THE TIED CARD OF 'caucuslaw05.FrameSpoilt'. -/
def frameSpoiltCard : Claim7 := { stood := { row := frameSpoiltRow, standIns := [], harness := (true, "8a71ac7b7b40fafa0a5632c73a09a58a63a8ed7ec3d9e0db662be6beb6b8e4b6"), looks := false }, kinds := [], alts := [], laidByText := true, laidKinds := [.data], laidTests := true, laidLooks := .later }
def FrameSpoiltCardSaid : Prop := Claim7.holds Tryd.pinned (.plain (OpenSpec.ofChange frameSpoiltSpec)) frameSpoiltCard

/-- THE TIED CARD OF 'caucuslaw05.FrameApart'. -/
def frameApartCard : Claim7 := { stood := { row := frameApartRow, standIns := [], harness := (true, "8a71ac7b7b40fafa0a5632c73a09a58a63a8ed7ec3d9e0db662be6beb6b8e4b6"), looks := false }, kinds := [], alts := [], laidByText := true, laidKinds := [.data], laidTests := true, laidLooks := .later }
def FrameApartCardSaid : Prop := Claim7.holds Tryd.pinned (.plain (OpenSpec.ofChange frameApartSpec)) frameApartCard

/-- THE SECOND FORM's CARD OF 'caucuslaw05.FrameMay'. -/
def frameMayUptoCard : Claim7 := { stood := { row := frameMayUptoRow, standIns := [], harness := (true, "8a71ac7b7b40fafa0a5632c73a09a58a63a8ed7ec3d9e0db662be6beb6b8e4b6"), looks := false }, kinds := [], alts := [], laidByText := true, laidKinds := [.data], laidTests := true, laidLooks := .later }
def FrameMayUptoCardSaid : Prop := Claim7.holds Tryd.pinned (.plain (OpenSpec.upto frameMaySpec)) frameMayUptoCard

/-- THE SECOND FORM's CARD OF 'caucuslaw05.FrameBytes'. -/
def frameBytesUptoCard : Claim7 := { stood := { row := frameBytesUptoRow, standIns := [], harness := (true, "8a71ac7b7b40fafa0a5632c73a09a58a63a8ed7ec3d9e0db662be6beb6b8e4b6"), looks := false }, kinds := [], alts := [], laidByText := true, laidKinds := [.data], laidTests := true, laidLooks := .later }
def FrameBytesUptoCardSaid : Prop := Claim7.holds Tryd.pinned (.plain (OpenSpec.upto frameBytesSpec)) frameBytesUptoCard

/-- THE SECOND FORM's CARD OF 'caucuslaw05.FrameReads'. -/
def frameReadsUptoCard : Claim7 := { stood := { row := frameReadsUptoRow, standIns := [], harness := (true, "8a71ac7b7b40fafa0a5632c73a09a58a63a8ed7ec3d9e0db662be6beb6b8e4b6"), looks := false }, kinds := [], alts := [], laidByText := true, laidKinds := [.data], laidTests := true, laidLooks := .later }
def FrameReadsUptoCardSaid : Prop := Claim7.holds Tryd.pinned (.plain (OpenSpec.upto frameReadsSpec)) frameReadsUptoCard

/-- THE SECOND FORM's CARD OF 'caucuslaw05.FrameBack'. -/
def frameBackUptoCard : Claim7 := { stood := { row := frameBackUptoRow, standIns := [], harness := (true, "8a71ac7b7b40fafa0a5632c73a09a58a63a8ed7ec3d9e0db662be6beb6b8e4b6"), looks := false }, kinds := [], alts := [], laidByText := true, laidKinds := [.data], laidTests := true, laidLooks := .later }
def FrameBackUptoCardSaid : Prop := Claim7.holds Tryd.pinned (.plain (OpenSpec.upto frameBackSpec)) frameBackUptoCard

/-- THE SECOND FORM's CARD OF 'caucuslaw05.FrameOneForm'. -/
def frameOneFormUptoCard : Claim7 := { stood := { row := frameOneFormUptoRow, standIns := [], harness := (true, "8a71ac7b7b40fafa0a5632c73a09a58a63a8ed7ec3d9e0db662be6beb6b8e4b6"), looks := false }, kinds := [], alts := [], laidByText := true, laidKinds := [.data], laidTests := true, laidLooks := .later }
def FrameOneFormUptoCardSaid : Prop := Claim7.holds Tryd.pinned (.plain (OpenSpec.upto frameOneFormSpec)) frameOneFormUptoCard

/-- THE SECOND FORM's CARD OF 'caucuslaw05.FrameSpoilt'. -/
def frameSpoiltUptoCard : Claim7 := { stood := { row := frameSpoiltUptoRow, standIns := [], harness := (true, "8a71ac7b7b40fafa0a5632c73a09a58a63a8ed7ec3d9e0db662be6beb6b8e4b6"), looks := false }, kinds := [], alts := [], laidByText := true, laidKinds := [.data], laidTests := true, laidLooks := .later }
def FrameSpoiltUptoCardSaid : Prop := Claim7.holds Tryd.pinned (.plain (OpenSpec.upto frameSpoiltSpec)) frameSpoiltUptoCard

/-- THE SECOND FORM's CARD OF 'caucuslaw05.FrameApart'. -/
def frameApartUptoCard : Claim7 := { stood := { row := frameApartUptoRow, standIns := [], harness := (true, "8a71ac7b7b40fafa0a5632c73a09a58a63a8ed7ec3d9e0db662be6beb6b8e4b6"), looks := false }, kinds := [], alts := [], laidByText := true, laidKinds := [.data], laidTests := true, laidLooks := .later }
def FrameApartUptoCardSaid : Prop := Claim7.holds Tryd.pinned (.plain (OpenSpec.upto frameApartSpec)) frameApartUptoCard
end Rows
end Go.Proofs.YtcjafbpgjlcdpaaDoor
