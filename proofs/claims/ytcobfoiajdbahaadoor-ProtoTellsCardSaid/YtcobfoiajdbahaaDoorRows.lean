/-
  NARROWER THAN 'FOR EVERY INPUT', by the rows' own cells (each row's printed sentence says how): ProtoWrites: laid · ProtoReads: laid · ProtoTells: laid · ProtoHears: laid · ProtoBack: laid · ProtoShort: laid · ProtoKnown: laid · ProtoOnly: laid.
  DERIVED. THE GIVEN ROWS OF THIS SEAT. 8 by the template 'for every input the law returns true; each argument reads behind the call as it read before'; 0 by the template 'total and deterministic' (their statements: YtcobfoiajdbahaaDoorTotals.lean).
  GIVEN WITH THE SEED: the statements are not yours to turn. If you find one false, say at which input.
  Laid BY PROGRAM, IN A SANDBOX (cutbox-rows.mjs): the forced cells as the released guide's own fill.sh prints them over the translation 9def5199f99ed9b4… (all of the seat's roots in one cut). By AI agents, Wed Nov 11 2026. No macro, syntax, notation, axiom, sorry.
-/
import Derived.Test.YtcobfoiajdbahaaDoorChecked
import GoSem.Claim
import GoSem.ClaimJoined
import GoSem.ClaimMapViews
import Derived.JoinedTies
import Derived.KernelRfl
namespace Go.Proofs.YtcobfoiajdbahaaDoor
/- THE CELL 'sum', in the pinned program and in every row, IS THE sha256 OF THE DUMP (.gsa) THAT YtcobfoiajdbahaaDoorProg.lean LOADS. Nothing in Lean hashes anything: it is a label: what it is worth is what the hold of that sum in a sandbox is worth. -/
noncomputable def Tryd.pinned : Pinned := { name := "ytcobfoiajdbahaadoor", sum := "9def5199f99ed9b4dc4dd02aa9f14f15d039af15b45199e6e847e216a92afd14", checked := Tryd.checked }
namespace Rows
def none {H : Type} : Left H := { results := [], args := [] }

/- WHAT THE LISTED PACKAGE-LEVEL VARIABLES READ AS WHEN THE CALL BEGINS. Each datum BY PROGRAM (the guide's laid-datum.mjs) off the statement by which the dump's own 'gosem.cut.vars' lays the variable. In a bare row this is a premise. The card (YtcobfoiajdbahaaDoorCards.lean) ties it to the program's text. -/
def laid_copyhold_proto_uses {H : Type} : DataW H := .agg [.lit (.int .i64 0), .lit (.int .i64 1), .lit (.int .i64 1), .lit (.int .i64 1), .lit (.int .i64 1), .lit (.int .i64 22), .lit (.int .i64 21), .lit (.int .i64 22), .lit (.int .i64 6), .lit (.int .i64 14), .lit (.int .i64 2), .lit (.int .i64 67), .lit (.int .i64 98), .lit (.int .i64 65), .lit (.int .i64 65), .lit (.int .i64 0)]

/-- 'copyholdlaw26.ProtoWrites': WHATEVER THE INPUT: true; the input reads as it did. -/
def protoWritesSpec : ChangeSpec := { name := "protoWrites", fn := fun _ => fun
  | [d] => { results := [.lit (.bool true)], args := [d] }
  | _ => none }
def protoWritesRow : OpenClaim := { program := "ytcobfoiajdbahaadoor", sum := "9def5199f99ed9b4dc4dd02aa9f14f15d039af15b45199e6e847e216a92afd14", func := "copyhold/copyholdlaw26.ProtoWrites", spec := "protoWrites", named := ["copyhold/proto.uses"], apart := false, laid := [("copyhold/proto.uses", laid_copyhold_proto_uses)] }
def ProtoWritesSaid : Prop := protoWritesRow.holds Tryd.pinned (OpenSpec.ofChange protoWritesSpec)

/-- ITS FALSE NEIGHBOUR: 'it returns false'. Refute it at one input. -/
def protoWritesWrong : ChangeSpec := { name := "protoWrites", fn := fun _ => fun
  | [d] => { results := [.lit (.bool false)], args := [d] }
  | _ => none }
def ProtoWritesWrongFalsely : Prop := protoWritesRow.holds Tryd.pinned (OpenSpec.ofChange protoWritesWrong)

/-- 'copyholdlaw26.ProtoReads': WHATEVER THE INPUT: true; the input reads as it did. -/
def protoReadsSpec : ChangeSpec := { name := "protoReads", fn := fun _ => fun
  | [d] => { results := [.lit (.bool true)], args := [d] }
  | _ => none }
def protoReadsRow : OpenClaim := { program := "ytcobfoiajdbahaadoor", sum := "9def5199f99ed9b4dc4dd02aa9f14f15d039af15b45199e6e847e216a92afd14", func := "copyhold/copyholdlaw26.ProtoReads", spec := "protoReads", named := ["copyhold/proto.uses"], apart := false, laid := [("copyhold/proto.uses", laid_copyhold_proto_uses)] }
def ProtoReadsSaid : Prop := protoReadsRow.holds Tryd.pinned (OpenSpec.ofChange protoReadsSpec)

/-- ITS FALSE NEIGHBOUR: 'it returns false'. Refute it at one input. -/
def protoReadsWrong : ChangeSpec := { name := "protoReads", fn := fun _ => fun
  | [d] => { results := [.lit (.bool false)], args := [d] }
  | _ => none }
def ProtoReadsWrongFalsely : Prop := protoReadsRow.holds Tryd.pinned (OpenSpec.ofChange protoReadsWrong)

/-- 'copyholdlaw26.ProtoTells': WHATEVER THE INPUT: true; the input reads as it did. -/
def protoTellsSpec : ChangeSpec := { name := "protoTells", fn := fun _ => fun
  | [d1, d2, d3] => { results := [.lit (.bool true)], args := [d1, d2, d3] }
  | _ => none }
def protoTellsRow : OpenClaim := { program := "ytcobfoiajdbahaadoor", sum := "9def5199f99ed9b4dc4dd02aa9f14f15d039af15b45199e6e847e216a92afd14", func := "copyhold/copyholdlaw26.ProtoTells", spec := "protoTells", named := ["copyhold/proto.uses"], apart := false, laid := [("copyhold/proto.uses", laid_copyhold_proto_uses)] }
def ProtoTellsSaid : Prop := protoTellsRow.holds Tryd.pinned (OpenSpec.ofChange protoTellsSpec)

/-- ITS FALSE NEIGHBOUR: 'it returns false'. Refute it at one input. -/
def protoTellsWrong : ChangeSpec := { name := "protoTells", fn := fun _ => fun
  | [d1, d2, d3] => { results := [.lit (.bool false)], args := [d1, d2, d3] }
  | _ => none }
def ProtoTellsWrongFalsely : Prop := protoTellsRow.holds Tryd.pinned (OpenSpec.ofChange protoTellsWrong)

/-- 'copyholdlaw26.ProtoHears': WHATEVER THE INPUT: true; the input reads as it did. -/
def protoHearsSpec : ChangeSpec := { name := "protoHears", fn := fun _ => fun
  | [d] => { results := [.lit (.bool true)], args := [d] }
  | _ => none }
def protoHearsRow : OpenClaim := { program := "ytcobfoiajdbahaadoor", sum := "9def5199f99ed9b4dc4dd02aa9f14f15d039af15b45199e6e847e216a92afd14", func := "copyhold/copyholdlaw26.ProtoHears", spec := "protoHears", named := ["copyhold/proto.uses"], apart := false, laid := [("copyhold/proto.uses", laid_copyhold_proto_uses)] }
def ProtoHearsSaid : Prop := protoHearsRow.holds Tryd.pinned (OpenSpec.ofChange protoHearsSpec)

/-- ITS FALSE NEIGHBOUR: 'it returns false'. Refute it at one input. -/
def protoHearsWrong : ChangeSpec := { name := "protoHears", fn := fun _ => fun
  | [d] => { results := [.lit (.bool false)], args := [d] }
  | _ => none }
def ProtoHearsWrongFalsely : Prop := protoHearsRow.holds Tryd.pinned (OpenSpec.ofChange protoHearsWrong)

/-- 'copyholdlaw26.ProtoBack': WHATEVER THE INPUT: true; the input reads as it did. -/
def protoBackSpec : ChangeSpec := { name := "protoBack", fn := fun _ => fun
  | [d1, d2, d3] => { results := [.lit (.bool true)], args := [d1, d2, d3] }
  | _ => none }
def protoBackRow : OpenClaim := { program := "ytcobfoiajdbahaadoor", sum := "9def5199f99ed9b4dc4dd02aa9f14f15d039af15b45199e6e847e216a92afd14", func := "copyhold/copyholdlaw26.ProtoBack", spec := "protoBack", named := ["copyhold/proto.uses"], apart := false, laid := [("copyhold/proto.uses", laid_copyhold_proto_uses)] }
def ProtoBackSaid : Prop := protoBackRow.holds Tryd.pinned (OpenSpec.ofChange protoBackSpec)

/-- ITS FALSE NEIGHBOUR: 'it returns false'. Refute it at one input. -/
def protoBackWrong : ChangeSpec := { name := "protoBack", fn := fun _ => fun
  | [d1, d2, d3] => { results := [.lit (.bool false)], args := [d1, d2, d3] }
  | _ => none }
def ProtoBackWrongFalsely : Prop := protoBackRow.holds Tryd.pinned (OpenSpec.ofChange protoBackWrong)

/-- 'copyholdlaw26.ProtoShort': WHATEVER THE INPUT: true; the input reads as it did. -/
def protoShortSpec : ChangeSpec := { name := "protoShort", fn := fun _ => fun
  | [d1, d2, d3] => { results := [.lit (.bool true)], args := [d1, d2, d3] }
  | _ => none }
def protoShortRow : OpenClaim := { program := "ytcobfoiajdbahaadoor", sum := "9def5199f99ed9b4dc4dd02aa9f14f15d039af15b45199e6e847e216a92afd14", func := "copyhold/copyholdlaw26.ProtoShort", spec := "protoShort", named := ["copyhold/proto.uses"], apart := false, laid := [("copyhold/proto.uses", laid_copyhold_proto_uses)] }
def ProtoShortSaid : Prop := protoShortRow.holds Tryd.pinned (OpenSpec.ofChange protoShortSpec)

/-- ITS FALSE NEIGHBOUR: 'it returns false'. Refute it at one input. -/
def protoShortWrong : ChangeSpec := { name := "protoShort", fn := fun _ => fun
  | [d1, d2, d3] => { results := [.lit (.bool false)], args := [d1, d2, d3] }
  | _ => none }
def ProtoShortWrongFalsely : Prop := protoShortRow.holds Tryd.pinned (OpenSpec.ofChange protoShortWrong)

/-- 'copyholdlaw26.ProtoKnown': WHATEVER THE INPUT: true; the input reads as it did. -/
def protoKnownSpec : ChangeSpec := { name := "protoKnown", fn := fun _ => fun
  | [] => { results := [.lit (.bool true)], args := [] }
  | _ => none }
def protoKnownRow : OpenClaim := { program := "ytcobfoiajdbahaadoor", sum := "9def5199f99ed9b4dc4dd02aa9f14f15d039af15b45199e6e847e216a92afd14", func := "copyhold/copyholdlaw26.ProtoKnown", spec := "protoKnown", named := ["copyhold/proto.uses"], apart := false, laid := [("copyhold/proto.uses", laid_copyhold_proto_uses)] }
def ProtoKnownSaid : Prop := protoKnownRow.holds Tryd.pinned (OpenSpec.ofChange protoKnownSpec)

/-- ITS FALSE NEIGHBOUR: 'it returns false'. Refute it at one input. -/
def protoKnownWrong : ChangeSpec := { name := "protoKnown", fn := fun _ => fun
  | [] => { results := [.lit (.bool false)], args := [] }
  | _ => none }
def ProtoKnownWrongFalsely : Prop := protoKnownRow.holds Tryd.pinned (OpenSpec.ofChange protoKnownWrong)

/-- 'copyholdlaw26.ProtoOnly': WHATEVER THE INPUT: true; the input reads as it did. -/
def protoOnlySpec : ChangeSpec := { name := "protoOnly", fn := fun _ => fun
  | [d1, d2] => { results := [.lit (.bool true)], args := [d1, d2] }
  | _ => none }
def protoOnlyRow : OpenClaim := { program := "ytcobfoiajdbahaadoor", sum := "9def5199f99ed9b4dc4dd02aa9f14f15d039af15b45199e6e847e216a92afd14", func := "copyhold/copyholdlaw26.ProtoOnly", spec := "protoOnly", named := ["copyhold/proto.uses"], apart := false, laid := [("copyhold/proto.uses", laid_copyhold_proto_uses)] }
def ProtoOnlySaid : Prop := protoOnlyRow.holds Tryd.pinned (OpenSpec.ofChange protoOnlySpec)

/-- ITS FALSE NEIGHBOUR: 'it returns false'. Refute it at one input. -/
def protoOnlyWrong : ChangeSpec := { name := "protoOnly", fn := fun _ => fun
  | [d1, d2] => { results := [.lit (.bool false)], args := [d1, d2] }
  | _ => none }
def ProtoOnlyWrongFalsely : Prop := protoOnlyRow.holds Tryd.pinned (OpenSpec.ofChange protoOnlyWrong)

/- THE SECOND FORM. 'bulk': how many values and letters a reading holds, each counted each time it is reached (what is shared counts as often as it is met; a slice's spare places count too). A statement '..UptoSaid' is the law's where the arguments, and the package variables that the reading takes, are together of bulk at most 1048576: NARROWER than '..Said'. Prove '..Said' where nothing that the law and all that it calls make is longer than what came in: it says more and counts as full. Else prove '..UptoSaid'. A law counts once. -/
mutual
def uptoBulk {H : Type} : DataW H → Nat
  | .lit (.string bytes) => bytes.length + 1
  | .lit _ => 1
  | .nil => 1
  | .ptr d => uptoBulk d + 1
  | .slice elems spare => uptoBulkAll elems + uptoBulkAll spare + 1
  | .agg parts => uptoBulkAll parts + 1
  | .iface _ d => uptoBulk d + 1
  | .map entries => uptoBulkEntries entries + 1
  | .held _ => 1
def uptoBulkAll {H : Type} : List (DataW H) → Nat
  | [] => 0
  | d :: r => uptoBulk d + uptoBulkAll r
def uptoBulkEntries {H : Type} : List (Lit × DataW H) → Nat
  | [] => 0
  | x :: r => uptoBulkEntry x + uptoBulkEntries r
def uptoBulkEntry {H : Type} : Lit × DataW H → Nat
  | (.string bytes, d) => bytes.length + uptoBulk d + 1
  | (_, d) => uptoBulk d + 1
 end
def uptoSmall : (H : Type) → List (DataW H) → Bool := fun _ ds => decide (uptoBulkAll ds ≤ 1048576)
def OpenSpec.upto (s : _root_.Go.ChangeSpec) : _root_.Go.OpenSpec := { _root_.Go.OpenSpec.ofChange s with cond := some uptoSmall }

/-- 'copyholdlaw26.ProtoWrites', WHERE WHAT IT READS IS OF BULK AT MOST 1048576: true; the input reads as it did. -/
def protoWritesUptoRow : OpenClaim := { program := "ytcobfoiajdbahaadoor", sum := "9def5199f99ed9b4dc4dd02aa9f14f15d039af15b45199e6e847e216a92afd14", func := "copyhold/copyholdlaw26.ProtoWrites", spec := "protoWrites", named := ["copyhold/proto.uses"], apart := false, laid := [("copyhold/proto.uses", laid_copyhold_proto_uses)], narrowed := true }
def ProtoWritesUptoSaid : Prop := protoWritesUptoRow.holds Tryd.pinned (OpenSpec.upto protoWritesSpec)

/-- 'copyholdlaw26.ProtoReads', WHERE WHAT IT READS IS OF BULK AT MOST 1048576: true; the input reads as it did. -/
def protoReadsUptoRow : OpenClaim := { program := "ytcobfoiajdbahaadoor", sum := "9def5199f99ed9b4dc4dd02aa9f14f15d039af15b45199e6e847e216a92afd14", func := "copyhold/copyholdlaw26.ProtoReads", spec := "protoReads", named := ["copyhold/proto.uses"], apart := false, laid := [("copyhold/proto.uses", laid_copyhold_proto_uses)], narrowed := true }
def ProtoReadsUptoSaid : Prop := protoReadsUptoRow.holds Tryd.pinned (OpenSpec.upto protoReadsSpec)

/-- 'copyholdlaw26.ProtoTells', WHERE WHAT IT READS IS OF BULK AT MOST 1048576: true; the input reads as it did. -/
def protoTellsUptoRow : OpenClaim := { program := "ytcobfoiajdbahaadoor", sum := "9def5199f99ed9b4dc4dd02aa9f14f15d039af15b45199e6e847e216a92afd14", func := "copyhold/copyholdlaw26.ProtoTells", spec := "protoTells", named := ["copyhold/proto.uses"], apart := false, laid := [("copyhold/proto.uses", laid_copyhold_proto_uses)], narrowed := true }
def ProtoTellsUptoSaid : Prop := protoTellsUptoRow.holds Tryd.pinned (OpenSpec.upto protoTellsSpec)

/-- 'copyholdlaw26.ProtoHears', WHERE WHAT IT READS IS OF BULK AT MOST 1048576: true; the input reads as it did. -/
def protoHearsUptoRow : OpenClaim := { program := "ytcobfoiajdbahaadoor", sum := "9def5199f99ed9b4dc4dd02aa9f14f15d039af15b45199e6e847e216a92afd14", func := "copyhold/copyholdlaw26.ProtoHears", spec := "protoHears", named := ["copyhold/proto.uses"], apart := false, laid := [("copyhold/proto.uses", laid_copyhold_proto_uses)], narrowed := true }
def ProtoHearsUptoSaid : Prop := protoHearsUptoRow.holds Tryd.pinned (OpenSpec.upto protoHearsSpec)

/-- 'copyholdlaw26.ProtoBack', WHERE WHAT IT READS IS OF BULK AT MOST 1048576: true; the input reads as it did. -/
def protoBackUptoRow : OpenClaim := { program := "ytcobfoiajdbahaadoor", sum := "9def5199f99ed9b4dc4dd02aa9f14f15d039af15b45199e6e847e216a92afd14", func := "copyhold/copyholdlaw26.ProtoBack", spec := "protoBack", named := ["copyhold/proto.uses"], apart := false, laid := [("copyhold/proto.uses", laid_copyhold_proto_uses)], narrowed := true }
def ProtoBackUptoSaid : Prop := protoBackUptoRow.holds Tryd.pinned (OpenSpec.upto protoBackSpec)

/-- 'copyholdlaw26.ProtoShort', WHERE WHAT IT READS IS OF BULK AT MOST 1048576: true; the input reads as it did. -/
def protoShortUptoRow : OpenClaim := { program := "ytcobfoiajdbahaadoor", sum := "9def5199f99ed9b4dc4dd02aa9f14f15d039af15b45199e6e847e216a92afd14", func := "copyhold/copyholdlaw26.ProtoShort", spec := "protoShort", named := ["copyhold/proto.uses"], apart := false, laid := [("copyhold/proto.uses", laid_copyhold_proto_uses)], narrowed := true }
def ProtoShortUptoSaid : Prop := protoShortUptoRow.holds Tryd.pinned (OpenSpec.upto protoShortSpec)

/-- 'copyholdlaw26.ProtoKnown', WHERE WHAT IT READS IS OF BULK AT MOST 1048576: true; the input reads as it did. -/
def protoKnownUptoRow : OpenClaim := { program := "ytcobfoiajdbahaadoor", sum := "9def5199f99ed9b4dc4dd02aa9f14f15d039af15b45199e6e847e216a92afd14", func := "copyhold/copyholdlaw26.ProtoKnown", spec := "protoKnown", named := ["copyhold/proto.uses"], apart := false, laid := [("copyhold/proto.uses", laid_copyhold_proto_uses)], narrowed := true }
def ProtoKnownUptoSaid : Prop := protoKnownUptoRow.holds Tryd.pinned (OpenSpec.upto protoKnownSpec)

/-- 'copyholdlaw26.ProtoOnly', WHERE WHAT IT READS IS OF BULK AT MOST 1048576: true; the input reads as it did. -/
def protoOnlyUptoRow : OpenClaim := { program := "ytcobfoiajdbahaadoor", sum := "9def5199f99ed9b4dc4dd02aa9f14f15d039af15b45199e6e847e216a92afd14", func := "copyhold/copyholdlaw26.ProtoOnly", spec := "protoOnly", named := ["copyhold/proto.uses"], apart := false, laid := [("copyhold/proto.uses", laid_copyhold_proto_uses)], narrowed := true }
def ProtoOnlyUptoSaid : Prop := protoOnlyUptoRow.holds Tryd.pinned (OpenSpec.upto protoOnlySpec)

end Rows
end Go.Proofs.YtcobfoiajdbahaaDoor
