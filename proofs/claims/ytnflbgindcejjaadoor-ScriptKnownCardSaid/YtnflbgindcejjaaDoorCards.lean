/-
  DERIVED. GIVEN WITH THE SEED: THE CARDS: each row of YtnflbgindcejjaaDoorRows.lean that lists a variable, with what it lists TIED to the program's text (the seventh form; the later family's looks); each row that meets fmt, with fmt's text TOLD by the authors' own Lean function (tested against real Go, not proved from fmt's source: count such statements apart). THE CARD IS WHAT COUNTS. Prove the row's statement (the work); the ties are given (YtnflbgindcejjaaDoorTie.lean); close each card by the builder's one call (the guide's Derived/Test/ToyasCard.lean, 'card_holds'). Laid BY PROGRAM, IN A SANDBOX (cutbox-door.mjs). By AI agents, Wed Nov 11 2026. No macro, syntax, notation, axiom, sorry.
-/
import Derived.Test.YtnflbgindcejjaaDoorRows
import GoSem.ClaimSeven
namespace Go.Proofs.YtnflbgindcejjaaDoor
namespace Rows

/-- THE TIED CARD OF 'copyholdlaw29.ScriptKnown'. -/
def scriptKnownCard : Claim7 := { stood := { row := scriptKnownRow, standIns := [], harness := (true, "7e66b8fe49c97c2e7a3f0d34e69fd0b944d3f94a3ab87340e701591c9ac37efd"), looks := false }, kinds := [], alts := [], laidByText := true, laidKinds := [.sentinel], laidTests := true, laidLooks := .later }
def ScriptKnownCardSaid : Prop := Claim7.holds Tryd.pinned (.plain (OpenSpec.ofChange scriptKnownSpec)) scriptKnownCard

/-- THE TIED CARD OF 'copyholdlaw29.ScriptPuts'. -/
def scriptPutsCard : Claim7 := { stood := { row := scriptPutsRow, standIns := [], harness := (true, "7e66b8fe49c97c2e7a3f0d34e69fd0b944d3f94a3ab87340e701591c9ac37efd"), looks := false }, kinds := [], alts := [], laidByText := true, laidKinds := [.sentinel], laidTests := true, laidLooks := .later }
def ScriptPutsCardSaid : Prop := Claim7.holds Tryd.pinned (.plain (OpenSpec.ofChange scriptPutsSpec)) scriptPutsCard

/-- THE TIED CARD OF 'copyholdlaw29.ScriptReads'. -/
def scriptReadsCard : Claim7 := { stood := { row := scriptReadsRow, standIns := [], harness := (true, "7e66b8fe49c97c2e7a3f0d34e69fd0b944d3f94a3ab87340e701591c9ac37efd"), looks := false }, kinds := [], alts := [], laidByText := true, laidKinds := [.sentinel], laidTests := true, laidLooks := .later }
def ScriptReadsCardSaid : Prop := Claim7.holds Tryd.pinned (.plain (OpenSpec.ofChange scriptReadsSpec)) scriptReadsCard

/-- THE TIED CARD OF 'copyholdlaw29.ScriptBack'. -/
def scriptBackCard : Claim7 := { stood := { row := scriptBackRow, standIns := [], harness := (true, "7e66b8fe49c97c2e7a3f0d34e69fd0b944d3f94a3ab87340e701591c9ac37efd"), looks := false }, kinds := [], alts := [], laidByText := true, laidKinds := [.sentinel], laidTests := true, laidLooks := .later }
def ScriptBackCardSaid : Prop := Claim7.holds Tryd.pinned (.plain (OpenSpec.ofChange scriptBackSpec)) scriptBackCard

/-- THE TIED CARD OF 'copyholdlaw29.ScriptOnly'. -/
def scriptOnlyCard : Claim7 := { stood := { row := scriptOnlyRow, standIns := [], harness := (true, "7e66b8fe49c97c2e7a3f0d34e69fd0b944d3f94a3ab87340e701591c9ac37efd"), looks := false }, kinds := [], alts := [], laidByText := true, laidKinds := [.sentinel], laidTests := true, laidLooks := .later }
def ScriptOnlyCardSaid : Prop := Claim7.holds Tryd.pinned (.plain (OpenSpec.ofChange scriptOnlySpec)) scriptOnlyCard

/-- THE TIED CARD OF 'copyholdlaw29.ScriptEach'. -/
def scriptEachCard : Claim7 := { stood := { row := scriptEachRow, standIns := [], harness := (true, "7e66b8fe49c97c2e7a3f0d34e69fd0b944d3f94a3ab87340e701591c9ac37efd"), looks := false }, kinds := [], alts := [], laidByText := true, laidKinds := [.sentinel], laidTests := true, laidLooks := .later }
def ScriptEachCardSaid : Prop := Claim7.holds Tryd.pinned (.plain (OpenSpec.ofChange scriptEachSpec)) scriptEachCard

/-- THE SECOND FORM's CARD OF 'copyholdlaw29.ScriptKnown'. -/
def scriptKnownUptoCard : Claim7 := { stood := { row := scriptKnownUptoRow, standIns := [], harness := (true, "7e66b8fe49c97c2e7a3f0d34e69fd0b944d3f94a3ab87340e701591c9ac37efd"), looks := false }, kinds := [], alts := [], laidByText := true, laidKinds := [.sentinel], laidTests := true, laidLooks := .later }
def ScriptKnownUptoCardSaid : Prop := Claim7.holds Tryd.pinned (.plain (OpenSpec.upto scriptKnownSpec)) scriptKnownUptoCard

/-- THE SECOND FORM's CARD OF 'copyholdlaw29.ScriptPuts'. -/
def scriptPutsUptoCard : Claim7 := { stood := { row := scriptPutsUptoRow, standIns := [], harness := (true, "7e66b8fe49c97c2e7a3f0d34e69fd0b944d3f94a3ab87340e701591c9ac37efd"), looks := false }, kinds := [], alts := [], laidByText := true, laidKinds := [.sentinel], laidTests := true, laidLooks := .later }
def ScriptPutsUptoCardSaid : Prop := Claim7.holds Tryd.pinned (.plain (OpenSpec.upto scriptPutsSpec)) scriptPutsUptoCard

/-- THE SECOND FORM's CARD OF 'copyholdlaw29.ScriptReads'. -/
def scriptReadsUptoCard : Claim7 := { stood := { row := scriptReadsUptoRow, standIns := [], harness := (true, "7e66b8fe49c97c2e7a3f0d34e69fd0b944d3f94a3ab87340e701591c9ac37efd"), looks := false }, kinds := [], alts := [], laidByText := true, laidKinds := [.sentinel], laidTests := true, laidLooks := .later }
def ScriptReadsUptoCardSaid : Prop := Claim7.holds Tryd.pinned (.plain (OpenSpec.upto scriptReadsSpec)) scriptReadsUptoCard

/-- THE SECOND FORM's CARD OF 'copyholdlaw29.ScriptBack'. -/
def scriptBackUptoCard : Claim7 := { stood := { row := scriptBackUptoRow, standIns := [], harness := (true, "7e66b8fe49c97c2e7a3f0d34e69fd0b944d3f94a3ab87340e701591c9ac37efd"), looks := false }, kinds := [], alts := [], laidByText := true, laidKinds := [.sentinel], laidTests := true, laidLooks := .later }
def ScriptBackUptoCardSaid : Prop := Claim7.holds Tryd.pinned (.plain (OpenSpec.upto scriptBackSpec)) scriptBackUptoCard

/-- THE SECOND FORM's CARD OF 'copyholdlaw29.ScriptOnly'. -/
def scriptOnlyUptoCard : Claim7 := { stood := { row := scriptOnlyUptoRow, standIns := [], harness := (true, "7e66b8fe49c97c2e7a3f0d34e69fd0b944d3f94a3ab87340e701591c9ac37efd"), looks := false }, kinds := [], alts := [], laidByText := true, laidKinds := [.sentinel], laidTests := true, laidLooks := .later }
def ScriptOnlyUptoCardSaid : Prop := Claim7.holds Tryd.pinned (.plain (OpenSpec.upto scriptOnlySpec)) scriptOnlyUptoCard

/-- THE SECOND FORM's CARD OF 'copyholdlaw29.ScriptEach'. -/
def scriptEachUptoCard : Claim7 := { stood := { row := scriptEachUptoRow, standIns := [], harness := (true, "7e66b8fe49c97c2e7a3f0d34e69fd0b944d3f94a3ab87340e701591c9ac37efd"), looks := false }, kinds := [], alts := [], laidByText := true, laidKinds := [.sentinel], laidTests := true, laidLooks := .later }
def ScriptEachUptoCardSaid : Prop := Claim7.holds Tryd.pinned (.plain (OpenSpec.upto scriptEachSpec)) scriptEachUptoCard
end Rows
end Go.Proofs.YtnflbgindcejjaaDoor
