/-
  DERIVED. GIVEN WITH THE SEED: THE CARDS: each row of YtcobfoiajdbahaaDoorRows.lean that lists a variable, with what it lists TIED to the program's text (the seventh form; the later family's looks); each row that meets fmt, with fmt's text TOLD by the authors' own Lean function (tested against real Go, not proved from fmt's source: count such statements apart). THE CARD IS WHAT COUNTS. Prove the row's statement (the work); the ties are given (YtcobfoiajdbahaaDoorTie.lean); close each card by the builder's one call (the guide's Derived/Test/ToyasCard.lean, 'card_holds'). Laid BY PROGRAM, IN A SANDBOX (cutbox-door.mjs). By AI agents, Wed Nov 11 2026. No macro, syntax, notation, axiom, sorry.
-/
import Derived.Test.YtcobfoiajdbahaaDoorRows
import GoSem.ClaimSeven
namespace Go.Proofs.YtcobfoiajdbahaaDoor
namespace Rows

/-- THE TIED CARD OF 'copyholdlaw26.ProtoWrites'. -/
def protoWritesCard : Claim7 := { stood := { row := protoWritesRow, standIns := [], harness := (true, "59ffc2e3a0e98605a80606d6bbcb5b1fd09de06e98ec17ac82a78db08d379153"), looks := false }, kinds := [], alts := [], laidByText := true, laidKinds := [.data], laidTests := true, laidLooks := .later }
def ProtoWritesCardSaid : Prop := Claim7.holds Tryd.pinned (.plain (OpenSpec.ofChange protoWritesSpec)) protoWritesCard

/-- THE TIED CARD OF 'copyholdlaw26.ProtoReads'. -/
def protoReadsCard : Claim7 := { stood := { row := protoReadsRow, standIns := [], harness := (true, "59ffc2e3a0e98605a80606d6bbcb5b1fd09de06e98ec17ac82a78db08d379153"), looks := false }, kinds := [], alts := [], laidByText := true, laidKinds := [.data], laidTests := true, laidLooks := .later }
def ProtoReadsCardSaid : Prop := Claim7.holds Tryd.pinned (.plain (OpenSpec.ofChange protoReadsSpec)) protoReadsCard

/-- THE TIED CARD OF 'copyholdlaw26.ProtoTells'. -/
def protoTellsCard : Claim7 := { stood := { row := protoTellsRow, standIns := [], harness := (true, "59ffc2e3a0e98605a80606d6bbcb5b1fd09de06e98ec17ac82a78db08d379153"), looks := false }, kinds := [], alts := [], laidByText := true, laidKinds := [.data], laidTests := true, laidLooks := .later }
def ProtoTellsCardSaid : Prop := Claim7.holds Tryd.pinned (.plain (OpenSpec.ofChange protoTellsSpec)) protoTellsCard

/-- THE TIED CARD OF 'copyholdlaw26.ProtoHears'. -/
def protoHearsCard : Claim7 := { stood := { row := protoHearsRow, standIns := [], harness := (true, "59ffc2e3a0e98605a80606d6bbcb5b1fd09de06e98ec17ac82a78db08d379153"), looks := false }, kinds := [], alts := [], laidByText := true, laidKinds := [.data], laidTests := true, laidLooks := .later }
def ProtoHearsCardSaid : Prop := Claim7.holds Tryd.pinned (.plain (OpenSpec.ofChange protoHearsSpec)) protoHearsCard

/-- THE TIED CARD OF 'copyholdlaw26.ProtoBack'. -/
def protoBackCard : Claim7 := { stood := { row := protoBackRow, standIns := [], harness := (true, "59ffc2e3a0e98605a80606d6bbcb5b1fd09de06e98ec17ac82a78db08d379153"), looks := false }, kinds := [], alts := [], laidByText := true, laidKinds := [.data], laidTests := true, laidLooks := .later }
def ProtoBackCardSaid : Prop := Claim7.holds Tryd.pinned (.plain (OpenSpec.ofChange protoBackSpec)) protoBackCard

/-- THE TIED CARD OF 'copyholdlaw26.ProtoShort'. -/
def protoShortCard : Claim7 := { stood := { row := protoShortRow, standIns := [], harness := (true, "59ffc2e3a0e98605a80606d6bbcb5b1fd09de06e98ec17ac82a78db08d379153"), looks := false }, kinds := [], alts := [], laidByText := true, laidKinds := [.data], laidTests := true, laidLooks := .later }
def ProtoShortCardSaid : Prop := Claim7.holds Tryd.pinned (.plain (OpenSpec.ofChange protoShortSpec)) protoShortCard

/-- THE TIED CARD OF 'copyholdlaw26.ProtoKnown'. -/
def protoKnownCard : Claim7 := { stood := { row := protoKnownRow, standIns := [], harness := (true, "59ffc2e3a0e98605a80606d6bbcb5b1fd09de06e98ec17ac82a78db08d379153"), looks := false }, kinds := [], alts := [], laidByText := true, laidKinds := [.data], laidTests := true, laidLooks := .later }
def ProtoKnownCardSaid : Prop := Claim7.holds Tryd.pinned (.plain (OpenSpec.ofChange protoKnownSpec)) protoKnownCard

/-- THE TIED CARD OF 'copyholdlaw26.ProtoOnly'. -/
def protoOnlyCard : Claim7 := { stood := { row := protoOnlyRow, standIns := [], harness := (true, "59ffc2e3a0e98605a80606d6bbcb5b1fd09de06e98ec17ac82a78db08d379153"), looks := false }, kinds := [], alts := [], laidByText := true, laidKinds := [.data], laidTests := true, laidLooks := .later }
def ProtoOnlyCardSaid : Prop := Claim7.holds Tryd.pinned (.plain (OpenSpec.ofChange protoOnlySpec)) protoOnlyCard

/-- THE SECOND FORM's CARD OF 'copyholdlaw26.ProtoWrites'. -/
def protoWritesUptoCard : Claim7 := { stood := { row := protoWritesUptoRow, standIns := [], harness := (true, "59ffc2e3a0e98605a80606d6bbcb5b1fd09de06e98ec17ac82a78db08d379153"), looks := false }, kinds := [], alts := [], laidByText := true, laidKinds := [.data], laidTests := true, laidLooks := .later }
def ProtoWritesUptoCardSaid : Prop := Claim7.holds Tryd.pinned (.plain (OpenSpec.upto protoWritesSpec)) protoWritesUptoCard

/-- THE SECOND FORM's CARD OF 'copyholdlaw26.ProtoReads'. -/
def protoReadsUptoCard : Claim7 := { stood := { row := protoReadsUptoRow, standIns := [], harness := (true, "59ffc2e3a0e98605a80606d6bbcb5b1fd09de06e98ec17ac82a78db08d379153"), looks := false }, kinds := [], alts := [], laidByText := true, laidKinds := [.data], laidTests := true, laidLooks := .later }
def ProtoReadsUptoCardSaid : Prop := Claim7.holds Tryd.pinned (.plain (OpenSpec.upto protoReadsSpec)) protoReadsUptoCard

/-- THE SECOND FORM's CARD OF 'copyholdlaw26.ProtoTells'. -/
def protoTellsUptoCard : Claim7 := { stood := { row := protoTellsUptoRow, standIns := [], harness := (true, "59ffc2e3a0e98605a80606d6bbcb5b1fd09de06e98ec17ac82a78db08d379153"), looks := false }, kinds := [], alts := [], laidByText := true, laidKinds := [.data], laidTests := true, laidLooks := .later }
def ProtoTellsUptoCardSaid : Prop := Claim7.holds Tryd.pinned (.plain (OpenSpec.upto protoTellsSpec)) protoTellsUptoCard

/-- THE SECOND FORM's CARD OF 'copyholdlaw26.ProtoHears'. -/
def protoHearsUptoCard : Claim7 := { stood := { row := protoHearsUptoRow, standIns := [], harness := (true, "59ffc2e3a0e98605a80606d6bbcb5b1fd09de06e98ec17ac82a78db08d379153"), looks := false }, kinds := [], alts := [], laidByText := true, laidKinds := [.data], laidTests := true, laidLooks := .later }
def ProtoHearsUptoCardSaid : Prop := Claim7.holds Tryd.pinned (.plain (OpenSpec.upto protoHearsSpec)) protoHearsUptoCard

/-- THE SECOND FORM's CARD OF 'copyholdlaw26.ProtoBack'. -/
def protoBackUptoCard : Claim7 := { stood := { row := protoBackUptoRow, standIns := [], harness := (true, "59ffc2e3a0e98605a80606d6bbcb5b1fd09de06e98ec17ac82a78db08d379153"), looks := false }, kinds := [], alts := [], laidByText := true, laidKinds := [.data], laidTests := true, laidLooks := .later }
def ProtoBackUptoCardSaid : Prop := Claim7.holds Tryd.pinned (.plain (OpenSpec.upto protoBackSpec)) protoBackUptoCard

/-- THE SECOND FORM's CARD OF 'copyholdlaw26.ProtoShort'. -/
def protoShortUptoCard : Claim7 := { stood := { row := protoShortUptoRow, standIns := [], harness := (true, "59ffc2e3a0e98605a80606d6bbcb5b1fd09de06e98ec17ac82a78db08d379153"), looks := false }, kinds := [], alts := [], laidByText := true, laidKinds := [.data], laidTests := true, laidLooks := .later }
def ProtoShortUptoCardSaid : Prop := Claim7.holds Tryd.pinned (.plain (OpenSpec.upto protoShortSpec)) protoShortUptoCard

/-- THE SECOND FORM's CARD OF 'copyholdlaw26.ProtoKnown'. -/
def protoKnownUptoCard : Claim7 := { stood := { row := protoKnownUptoRow, standIns := [], harness := (true, "59ffc2e3a0e98605a80606d6bbcb5b1fd09de06e98ec17ac82a78db08d379153"), looks := false }, kinds := [], alts := [], laidByText := true, laidKinds := [.data], laidTests := true, laidLooks := .later }
def ProtoKnownUptoCardSaid : Prop := Claim7.holds Tryd.pinned (.plain (OpenSpec.upto protoKnownSpec)) protoKnownUptoCard

/-- THE SECOND FORM's CARD OF 'copyholdlaw26.ProtoOnly'. -/
def protoOnlyUptoCard : Claim7 := { stood := { row := protoOnlyUptoRow, standIns := [], harness := (true, "59ffc2e3a0e98605a80606d6bbcb5b1fd09de06e98ec17ac82a78db08d379153"), looks := false }, kinds := [], alts := [], laidByText := true, laidKinds := [.data], laidTests := true, laidLooks := .later }
def ProtoOnlyUptoCardSaid : Prop := Claim7.holds Tryd.pinned (.plain (OpenSpec.upto protoOnlySpec)) protoOnlyUptoCard
end Rows
end Go.Proofs.YtcobfoiajdbahaaDoor
