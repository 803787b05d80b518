/-
  DERIVED. GIVEN WITH THE SEED: THE CARDS: each row of YtgbkaicjckclfaaDoorRows.lean that lists a variable, with what it lists TIED to the program's text (the seventh form; the later family's looks); each row that meets fmt, with fmt's text TOLD by the authors' own Lean function (tested against real Go, not proved from fmt's source: count such statements apart). THE CARD IS WHAT COUNTS. Prove the row's statement (the work); the ties are given (YtgbkaicjckclfaaDoorTie.lean); close each card by the builder's one call (the guide's Derived/Test/ToyasCard.lean, 'card_holds'). Laid BY PROGRAM, IN A SANDBOX (cutbox-door.mjs). By AI agents, Wed Nov 11 2026. No macro, syntax, notation, axiom, sorry.
-/
import Derived.Test.YtgbkaicjckclfaaDoorRows
import GoSem.ClaimSeven
namespace Go.Proofs.YtgbkaicjckclfaaDoor
namespace Rows

/-- THE TIED CARD OF 'copyholdlaw03.CellKnown'. -/
def cellKnownCard : Claim7 := { stood := { row := cellKnownRow, standIns := [], harness := (true, "6d5ecced8964a7b02ed525458f5ceeb0e6409e2de196fc7a5bd2a205f614550d"), looks := false }, kinds := [], alts := [], laidByText := true, laidKinds := [.data], laidTests := true, laidLooks := .later }
def CellKnownCardSaid : Prop := Claim7.holds Tryd.pinned (.plain (OpenSpec.ofChange cellKnownSpec)) cellKnownCard

/-- THE TIED CARD OF 'copyholdlaw03.CellSums'. -/
def cellSumsCard : Claim7 := { stood := { row := cellSumsRow, standIns := [], harness := (true, "6d5ecced8964a7b02ed525458f5ceeb0e6409e2de196fc7a5bd2a205f614550d"), looks := false }, kinds := [], alts := [], laidByText := true, laidKinds := [.data], laidTests := true, laidLooks := .later }
def CellSumsCardSaid : Prop := Claim7.holds Tryd.pinned (.plain (OpenSpec.ofChange cellSumsSpec)) cellSumsCard

/-- THE TIED CARD OF 'copyholdlaw03.CellMakes'. -/
def cellMakesCard : Claim7 := { stood := { row := cellMakesRow, standIns := [], harness := (true, "6d5ecced8964a7b02ed525458f5ceeb0e6409e2de196fc7a5bd2a205f614550d"), looks := false }, kinds := [], alts := [], laidByText := true, laidKinds := [.data], laidTests := true, laidLooks := .later }
def CellMakesCardSaid : Prop := Claim7.holds Tryd.pinned (.plain (OpenSpec.ofChange cellMakesSpec)) cellMakesCard

/-- THE TIED CARD OF 'copyholdlaw03.CellReads'. -/
def cellReadsCard : Claim7 := { stood := { row := cellReadsRow, standIns := [], harness := (true, "6d5ecced8964a7b02ed525458f5ceeb0e6409e2de196fc7a5bd2a205f614550d"), looks := false }, kinds := [], alts := [], laidByText := true, laidKinds := [.data], laidTests := true, laidLooks := .later }
def CellReadsCardSaid : Prop := Claim7.holds Tryd.pinned (.plain (OpenSpec.ofChange cellReadsSpec)) cellReadsCard

/-- THE TIED CARD OF 'copyholdlaw03.CellBurst'. -/
def cellBurstCard : Claim7 := { stood := { row := cellBurstRow, standIns := [], harness := (true, "6d5ecced8964a7b02ed525458f5ceeb0e6409e2de196fc7a5bd2a205f614550d"), looks := false }, kinds := [], alts := [], laidByText := true, laidKinds := [.data], laidTests := true, laidLooks := .later }
def CellBurstCardSaid : Prop := Claim7.holds Tryd.pinned (.plain (OpenSpec.ofChange cellBurstSpec)) cellBurstCard

/-- THE TIED CARD OF 'copyholdlaw03.CellBack'. -/
def cellBackCard : Claim7 := { stood := { row := cellBackRow, standIns := [], harness := (true, "6d5ecced8964a7b02ed525458f5ceeb0e6409e2de196fc7a5bd2a205f614550d"), looks := false }, kinds := [], alts := [], laidByText := true, laidKinds := [.data], laidTests := true, laidLooks := .later }
def CellBackCardSaid : Prop := Claim7.holds Tryd.pinned (.plain (OpenSpec.ofChange cellBackSpec)) cellBackCard

/-- THE TIED CARD OF 'copyholdlaw03.CellBursts'. -/
def cellBurstsCard : Claim7 := { stood := { row := cellBurstsRow, standIns := [], harness := (true, "6d5ecced8964a7b02ed525458f5ceeb0e6409e2de196fc7a5bd2a205f614550d"), looks := false }, kinds := [], alts := [], laidByText := true, laidKinds := [.data], laidTests := true, laidLooks := .later }
def CellBurstsCardSaid : Prop := Claim7.holds Tryd.pinned (.plain (OpenSpec.ofChange cellBurstsSpec)) cellBurstsCard

/-- THE SECOND FORM's CARD OF 'copyholdlaw03.CellKnown'. -/
def cellKnownUptoCard : Claim7 := { stood := { row := cellKnownUptoRow, standIns := [], harness := (true, "6d5ecced8964a7b02ed525458f5ceeb0e6409e2de196fc7a5bd2a205f614550d"), looks := false }, kinds := [], alts := [], laidByText := true, laidKinds := [.data], laidTests := true, laidLooks := .later }
def CellKnownUptoCardSaid : Prop := Claim7.holds Tryd.pinned (.plain (OpenSpec.upto cellKnownSpec)) cellKnownUptoCard

/-- THE SECOND FORM's CARD OF 'copyholdlaw03.CellSums'. -/
def cellSumsUptoCard : Claim7 := { stood := { row := cellSumsUptoRow, standIns := [], harness := (true, "6d5ecced8964a7b02ed525458f5ceeb0e6409e2de196fc7a5bd2a205f614550d"), looks := false }, kinds := [], alts := [], laidByText := true, laidKinds := [.data], laidTests := true, laidLooks := .later }
def CellSumsUptoCardSaid : Prop := Claim7.holds Tryd.pinned (.plain (OpenSpec.upto cellSumsSpec)) cellSumsUptoCard

/-- THE SECOND FORM's CARD OF 'copyholdlaw03.CellMakes'. -/
def cellMakesUptoCard : Claim7 := { stood := { row := cellMakesUptoRow, standIns := [], harness := (true, "6d5ecced8964a7b02ed525458f5ceeb0e6409e2de196fc7a5bd2a205f614550d"), looks := false }, kinds := [], alts := [], laidByText := true, laidKinds := [.data], laidTests := true, laidLooks := .later }
def CellMakesUptoCardSaid : Prop := Claim7.holds Tryd.pinned (.plain (OpenSpec.upto cellMakesSpec)) cellMakesUptoCard

/-- THE SECOND FORM's CARD OF 'copyholdlaw03.CellReads'. -/
def cellReadsUptoCard : Claim7 := { stood := { row := cellReadsUptoRow, standIns := [], harness := (true, "6d5ecced8964a7b02ed525458f5ceeb0e6409e2de196fc7a5bd2a205f614550d"), looks := false }, kinds := [], alts := [], laidByText := true, laidKinds := [.data], laidTests := true, laidLooks := .later }
def CellReadsUptoCardSaid : Prop := Claim7.holds Tryd.pinned (.plain (OpenSpec.upto cellReadsSpec)) cellReadsUptoCard

/-- THE SECOND FORM's CARD OF 'copyholdlaw03.CellBurst'. -/
def cellBurstUptoCard : Claim7 := { stood := { row := cellBurstUptoRow, standIns := [], harness := (true, "6d5ecced8964a7b02ed525458f5ceeb0e6409e2de196fc7a5bd2a205f614550d"), looks := false }, kinds := [], alts := [], laidByText := true, laidKinds := [.data], laidTests := true, laidLooks := .later }
def CellBurstUptoCardSaid : Prop := Claim7.holds Tryd.pinned (.plain (OpenSpec.upto cellBurstSpec)) cellBurstUptoCard

/-- THE SECOND FORM's CARD OF 'copyholdlaw03.CellBack'. -/
def cellBackUptoCard : Claim7 := { stood := { row := cellBackUptoRow, standIns := [], harness := (true, "6d5ecced8964a7b02ed525458f5ceeb0e6409e2de196fc7a5bd2a205f614550d"), looks := false }, kinds := [], alts := [], laidByText := true, laidKinds := [.data], laidTests := true, laidLooks := .later }
def CellBackUptoCardSaid : Prop := Claim7.holds Tryd.pinned (.plain (OpenSpec.upto cellBackSpec)) cellBackUptoCard

/-- THE SECOND FORM's CARD OF 'copyholdlaw03.CellBursts'. -/
def cellBurstsUptoCard : Claim7 := { stood := { row := cellBurstsUptoRow, standIns := [], harness := (true, "6d5ecced8964a7b02ed525458f5ceeb0e6409e2de196fc7a5bd2a205f614550d"), looks := false }, kinds := [], alts := [], laidByText := true, laidKinds := [.data], laidTests := true, laidLooks := .later }
def CellBurstsUptoCardSaid : Prop := Claim7.holds Tryd.pinned (.plain (OpenSpec.upto cellBurstsSpec)) cellBurstsUptoCard
end Rows
end Go.Proofs.YtgbkaicjckclfaaDoor
