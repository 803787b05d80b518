/-
  DERIVED. GIVEN WITH THE SEED: THE CARDS: each row of YtmfabbncoekjhaaDoorRows.lean that lists a variable, with what it lists TIED to the program's text (the seventh form; the later family's looks); each row that meets fmt, with fmt's text TOLD by the authors' own Lean function (tested against real Go, not proved from fmt's source: count such statements apart). THE CARD IS WHAT COUNTS. Prove the row's statement (the work); the ties are given (YtmfabbncoekjhaaDoorTie.lean); close each card by the builder's one call (the guide's Derived/Test/ToyasCard.lean, 'card_holds'). Laid BY PROGRAM, IN A SANDBOX (cutbox-door.mjs). By AI agents, Wed Nov 11 2026. No macro, syntax, notation, axiom, sorry.
-/
import Derived.Test.YtmfabbncoekjhaaDoorRows
import GoSem.ClaimSeven
namespace Go.Proofs.YtmfabbncoekjhaaDoor
namespace Rows

/-- THE TIED CARD OF 'copyholdlaw04.FrameKnown'. -/
def frameKnownCard : Claim7 := { stood := { row := frameKnownRow, standIns := [], harness := (true, "bc5f86eb99d3c06fedda3b4994b5736fe233c369ee88c8eb7c96469c777af5fb"), looks := false }, kinds := [], alts := [], laidByText := true, laidKinds := [.data], laidTests := true, laidLooks := .later }
def FrameKnownCardSaid : Prop := Claim7.holds Tryd.pinned (.plain (OpenSpec.ofChange frameKnownSpec)) frameKnownCard

/-- THE TIED CARD OF 'copyholdlaw04.FrameLong'. -/
def frameLongCard : Claim7 := { stood := { row := frameLongRow, standIns := [], harness := (true, "bc5f86eb99d3c06fedda3b4994b5736fe233c369ee88c8eb7c96469c777af5fb"), looks := false }, kinds := [], alts := [], laidByText := true, laidKinds := [.data], laidTests := true, laidLooks := .later }
def FrameLongCardSaid : Prop := Claim7.holds Tryd.pinned (.plain (OpenSpec.ofChange frameLongSpec)) frameLongCard

/-- THE TIED CARD OF 'copyholdlaw04.FrameWrites'. -/
def frameWritesCard : Claim7 := { stood := { row := frameWritesRow, standIns := [], harness := (true, "bc5f86eb99d3c06fedda3b4994b5736fe233c369ee88c8eb7c96469c777af5fb"), looks := false }, kinds := [], alts := [], laidByText := true, laidKinds := [.data], laidTests := true, laidLooks := .later }
def FrameWritesCardSaid : Prop := Claim7.holds Tryd.pinned (.plain (OpenSpec.ofChange frameWritesSpec)) frameWritesCard

/-- THE TIED CARD OF 'copyholdlaw04.FrameReads'. -/
def frameReadsCard : Claim7 := { stood := { row := frameReadsRow, standIns := [], harness := (true, "bc5f86eb99d3c06fedda3b4994b5736fe233c369ee88c8eb7c96469c777af5fb"), looks := false }, kinds := [], alts := [], laidByText := true, laidKinds := [.data], laidTests := true, laidLooks := .later }
def FrameReadsCardSaid : Prop := Claim7.holds Tryd.pinned (.plain (OpenSpec.ofChange frameReadsSpec)) frameReadsCard

/-- THE TIED CARD OF 'copyholdlaw04.FrameTail'. -/
def frameTailCard : Claim7 := { stood := { row := frameTailRow, standIns := [], harness := (true, "bc5f86eb99d3c06fedda3b4994b5736fe233c369ee88c8eb7c96469c777af5fb"), looks := false }, kinds := [], alts := [], laidByText := true, laidKinds := [.data], laidTests := true, laidLooks := .later }
def FrameTailCardSaid : Prop := Claim7.holds Tryd.pinned (.plain (OpenSpec.ofChange frameTailSpec)) frameTailCard

/-- THE TIED CARD OF 'copyholdlaw04.FrameBack'. -/
def frameBackCard : Claim7 := { stood := { row := frameBackRow, standIns := [], harness := (true, "bc5f86eb99d3c06fedda3b4994b5736fe233c369ee88c8eb7c96469c777af5fb"), looks := false }, kinds := [], alts := [], laidByText := true, laidKinds := [.data], laidTests := true, laidLooks := .later }
def FrameBackCardSaid : Prop := Claim7.holds Tryd.pinned (.plain (OpenSpec.ofChange frameBackSpec)) frameBackCard

/-- THE TIED CARD OF 'copyholdlaw04.FrameMore'. -/
def frameMoreCard : Claim7 := { stood := { row := frameMoreRow, standIns := [], harness := (true, "bc5f86eb99d3c06fedda3b4994b5736fe233c369ee88c8eb7c96469c777af5fb"), looks := false }, kinds := [], alts := [], laidByText := true, laidKinds := [.data], laidTests := true, laidLooks := .later }
def FrameMoreCardSaid : Prop := Claim7.holds Tryd.pinned (.plain (OpenSpec.ofChange frameMoreSpec)) frameMoreCard

/-- THE SECOND FORM's CARD OF 'copyholdlaw04.FrameKnown'. -/
def frameKnownUptoCard : Claim7 := { stood := { row := frameKnownUptoRow, standIns := [], harness := (true, "bc5f86eb99d3c06fedda3b4994b5736fe233c369ee88c8eb7c96469c777af5fb"), looks := false }, kinds := [], alts := [], laidByText := true, laidKinds := [.data], laidTests := true, laidLooks := .later }
def FrameKnownUptoCardSaid : Prop := Claim7.holds Tryd.pinned (.plain (OpenSpec.upto frameKnownSpec)) frameKnownUptoCard

/-- THE SECOND FORM's CARD OF 'copyholdlaw04.FrameLong'. -/
def frameLongUptoCard : Claim7 := { stood := { row := frameLongUptoRow, standIns := [], harness := (true, "bc5f86eb99d3c06fedda3b4994b5736fe233c369ee88c8eb7c96469c777af5fb"), looks := false }, kinds := [], alts := [], laidByText := true, laidKinds := [.data], laidTests := true, laidLooks := .later }
def FrameLongUptoCardSaid : Prop := Claim7.holds Tryd.pinned (.plain (OpenSpec.upto frameLongSpec)) frameLongUptoCard

/-- THE SECOND FORM's CARD OF 'copyholdlaw04.FrameWrites'. -/
def frameWritesUptoCard : Claim7 := { stood := { row := frameWritesUptoRow, standIns := [], harness := (true, "bc5f86eb99d3c06fedda3b4994b5736fe233c369ee88c8eb7c96469c777af5fb"), looks := false }, kinds := [], alts := [], laidByText := true, laidKinds := [.data], laidTests := true, laidLooks := .later }
def FrameWritesUptoCardSaid : Prop := Claim7.holds Tryd.pinned (.plain (OpenSpec.upto frameWritesSpec)) frameWritesUptoCard

/-- THE SECOND FORM's CARD OF 'copyholdlaw04.FrameReads'. -/
def frameReadsUptoCard : Claim7 := { stood := { row := frameReadsUptoRow, standIns := [], harness := (true, "bc5f86eb99d3c06fedda3b4994b5736fe233c369ee88c8eb7c96469c777af5fb"), looks := false }, kinds := [], alts := [], laidByText := true, laidKinds := [.data], laidTests := true, laidLooks := .later }
def FrameReadsUptoCardSaid : Prop := Claim7.holds Tryd.pinned (.plain (OpenSpec.upto frameReadsSpec)) frameReadsUptoCard

/-- THE SECOND FORM's CARD OF 'copyholdlaw04.FrameTail'. -/
def frameTailUptoCard : Claim7 := { stood := { row := frameTailUptoRow, standIns := [], harness := (true, "bc5f86eb99d3c06fedda3b4994b5736fe233c369ee88c8eb7c96469c777af5fb"), looks := false }, kinds := [], alts := [], laidByText := true, laidKinds := [.data], laidTests := true, laidLooks := .later }
def FrameTailUptoCardSaid : Prop := Claim7.holds Tryd.pinned (.plain (OpenSpec.upto frameTailSpec)) frameTailUptoCard

/-- THE SECOND FORM's CARD OF 'copyholdlaw04.FrameBack'. -/
def frameBackUptoCard : Claim7 := { stood := { row := frameBackUptoRow, standIns := [], harness := (true, "bc5f86eb99d3c06fedda3b4994b5736fe233c369ee88c8eb7c96469c777af5fb"), looks := false }, kinds := [], alts := [], laidByText := true, laidKinds := [.data], laidTests := true, laidLooks := .later }
def FrameBackUptoCardSaid : Prop := Claim7.holds Tryd.pinned (.plain (OpenSpec.upto frameBackSpec)) frameBackUptoCard

/-- THE SECOND FORM's CARD OF 'copyholdlaw04.FrameMore'. -/
def frameMoreUptoCard : Claim7 := { stood := { row := frameMoreUptoRow, standIns := [], harness := (true, "bc5f86eb99d3c06fedda3b4994b5736fe233c369ee88c8eb7c96469c777af5fb"), looks := false }, kinds := [], alts := [], laidByText := true, laidKinds := [.data], laidTests := true, laidLooks := .later }
def FrameMoreUptoCardSaid : Prop := Claim7.holds Tryd.pinned (.plain (OpenSpec.upto frameMoreSpec)) frameMoreUptoCard
end Rows
end Go.Proofs.YtmfabbncoekjhaaDoor
