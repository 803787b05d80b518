/-
  NARROWER THAN 'FOR EVERY INPUT', by the rows' own cells (each row's printed sentence says how): FrameKnown: laid · FrameLong: laid · FrameWrites: laid · FrameReads: laid · FrameTail: laid · FrameBack: laid · FrameMore: laid.
  DERIVED. THE GIVEN ROWS OF THIS SEAT. 7 by the template 'for every input the law returns true; each argument reads behind the call as it read before'; 0 by the template 'total and deterministic' (their statements: YtmfabbncoekjhaaDoorTotals.lean).
  GIVEN WITH THE SEED: the statements are not yours to turn. If you find one false, say at which input.
  Laid BY PROGRAM, IN A SANDBOX (cutbox-rows.mjs): the forced cells as the released guide's own fill.sh prints them over the translation 781c047d42cf4c8f… (all of the seat's roots in one cut). By AI agents, Wed Nov 11 2026. No macro, syntax, notation, axiom, sorry.
-/
import Derived.Test.YtmfabbncoekjhaaDoorChecked
import GoSem.Claim
import GoSem.ClaimJoined
import GoSem.ClaimMapViews
import Derived.JoinedTies
import Derived.KernelRfl
namespace Go.Proofs.YtmfabbncoekjhaaDoor
/- THE CELL 'sum', in the pinned program and in every row, IS THE sha256 OF THE DUMP (.gsa) THAT YtmfabbncoekjhaaDoorProg.lean LOADS. Nothing in Lean hashes anything: it is a label: what it is worth is what the hold of that sum in a sandbox is worth. -/
noncomputable def Tryd.pinned : Pinned := { name := "ytmfabbncoekjhaadoor", sum := "781c047d42cf4c8fb11a18a2d8be2e1c7ae9dd7e3126e195514ba2cf76fbf595", checked := Tryd.checked }
namespace Rows
def none {H : Type} : Left H := { results := [], args := [] }

/- WHAT THE LISTED PACKAGE-LEVEL VARIABLES READ AS WHEN THE CALL BEGINS. Each datum BY PROGRAM (the guide's laid-datum.mjs) off the statement by which the dump's own 'gosem.cut.vars' lays the variable. In a bare row this is a premise. The card (YtmfabbncoekjhaaDoorCards.lean) ties it to the program's text. -/
def laid_copyhold_cell_table {H : Type} : DataW H := .agg [.lit (.int .u32 0), .lit (.int .u32 498536548), .lit (.int .u32 997073096), .lit (.int .u32 651767980), .lit (.int .u32 1994146192), .lit (.int .u32 1802195444), .lit (.int .u32 1303535960), .lit (.int .u32 1342533948), .lit (.int .u32 3988292384), .lit (.int .u32 4027552580), .lit (.int .u32 3604390888), .lit (.int .u32 3412177804), .lit (.int .u32 2607071920), .lit (.int .u32 2262029012), .lit (.int .u32 2685067896), .lit (.int .u32 3183342108)]

/-- 'copyholdlaw04.FrameKnown': WHATEVER THE INPUT: true; the input reads as it did. -/
def frameKnownSpec : ChangeSpec := { name := "frameKnown", fn := fun _ => fun
  | [] => { results := [.lit (.bool true)], args := [] }
  | _ => none }
def frameKnownRow : OpenClaim := { program := "ytmfabbncoekjhaadoor", sum := "781c047d42cf4c8fb11a18a2d8be2e1c7ae9dd7e3126e195514ba2cf76fbf595", func := "copyhold/copyholdlaw04.FrameKnown", spec := "frameKnown", inPlace := ["internal/abi.NoEscape"], named := ["copyhold/cell.table"], apart := false, laid := [("copyhold/cell.table", laid_copyhold_cell_table)] }
def FrameKnownSaid : Prop := frameKnownRow.holds Tryd.pinned (OpenSpec.ofChange frameKnownSpec)

/-- ITS FALSE NEIGHBOUR: 'it returns false'. Refute it at one input. -/
def frameKnownWrong : ChangeSpec := { name := "frameKnown", fn := fun _ => fun
  | [] => { results := [.lit (.bool false)], args := [] }
  | _ => none }
def FrameKnownWrongFalsely : Prop := frameKnownRow.holds Tryd.pinned (OpenSpec.ofChange frameKnownWrong)

/-- 'copyholdlaw04.FrameLong': WHATEVER THE INPUT: true; the input reads as it did. -/
def frameLongSpec : ChangeSpec := { name := "frameLong", fn := fun _ => fun
  | [] => { results := [.lit (.bool true)], args := [] }
  | _ => none }
def frameLongRow : OpenClaim := { program := "ytmfabbncoekjhaadoor", sum := "781c047d42cf4c8fb11a18a2d8be2e1c7ae9dd7e3126e195514ba2cf76fbf595", func := "copyhold/copyholdlaw04.FrameLong", spec := "frameLong", inPlace := ["internal/abi.NoEscape"], named := ["copyhold/cell.table"], apart := false, laid := [("copyhold/cell.table", laid_copyhold_cell_table)] }
def FrameLongSaid : Prop := frameLongRow.holds Tryd.pinned (OpenSpec.ofChange frameLongSpec)

/-- ITS FALSE NEIGHBOUR: 'it returns false'. Refute it at one input. -/
def frameLongWrong : ChangeSpec := { name := "frameLong", fn := fun _ => fun
  | [] => { results := [.lit (.bool false)], args := [] }
  | _ => none }
def FrameLongWrongFalsely : Prop := frameLongRow.holds Tryd.pinned (OpenSpec.ofChange frameLongWrong)

/-- 'copyholdlaw04.FrameWrites': WHATEVER THE INPUT: true; the input reads as it did. -/
def frameWritesSpec : ChangeSpec := { name := "frameWrites", fn := fun _ => fun
  | [d] => { results := [.lit (.bool true)], args := [d] }
  | _ => none }
def frameWritesRow : OpenClaim := { program := "ytmfabbncoekjhaadoor", sum := "781c047d42cf4c8fb11a18a2d8be2e1c7ae9dd7e3126e195514ba2cf76fbf595", func := "copyhold/copyholdlaw04.FrameWrites", spec := "frameWrites", inPlace := ["internal/abi.NoEscape"], named := ["copyhold/cell.table"], apart := false, laid := [("copyhold/cell.table", laid_copyhold_cell_table)] }
def FrameWritesSaid : Prop := frameWritesRow.holds Tryd.pinned (OpenSpec.ofChange frameWritesSpec)

/-- ITS FALSE NEIGHBOUR: 'it returns false'. Refute it at one input. -/
def frameWritesWrong : ChangeSpec := { name := "frameWrites", fn := fun _ => fun
  | [d] => { results := [.lit (.bool false)], args := [d] }
  | _ => none }
def FrameWritesWrongFalsely : Prop := frameWritesRow.holds Tryd.pinned (OpenSpec.ofChange frameWritesWrong)

/-- 'copyholdlaw04.FrameReads': WHATEVER THE INPUT: true; the input reads as it did. -/
def frameReadsSpec : ChangeSpec := { name := "frameReads", fn := fun _ => fun
  | [d] => { results := [.lit (.bool true)], args := [d] }
  | _ => none }
def frameReadsRow : OpenClaim := { program := "ytmfabbncoekjhaadoor", sum := "781c047d42cf4c8fb11a18a2d8be2e1c7ae9dd7e3126e195514ba2cf76fbf595", func := "copyhold/copyholdlaw04.FrameReads", spec := "frameReads", inPlace := ["internal/abi.NoEscape"], named := ["copyhold/cell.table"], apart := false, laid := [("copyhold/cell.table", laid_copyhold_cell_table)] }
def FrameReadsSaid : Prop := frameReadsRow.holds Tryd.pinned (OpenSpec.ofChange frameReadsSpec)

/-- ITS FALSE NEIGHBOUR: 'it returns false'. Refute it at one input. -/
def frameReadsWrong : ChangeSpec := { name := "frameReads", fn := fun _ => fun
  | [d] => { results := [.lit (.bool false)], args := [d] }
  | _ => none }
def FrameReadsWrongFalsely : Prop := frameReadsRow.holds Tryd.pinned (OpenSpec.ofChange frameReadsWrong)

/-- 'copyholdlaw04.FrameTail': WHATEVER THE INPUT: true; the input reads as it did. -/
def frameTailSpec : ChangeSpec := { name := "frameTail", fn := fun _ => fun
  | [d1, d2, d3, d4] => { results := [.lit (.bool true)], args := [d1, d2, d3, d4] }
  | _ => none }
def frameTailRow : OpenClaim := { program := "ytmfabbncoekjhaadoor", sum := "781c047d42cf4c8fb11a18a2d8be2e1c7ae9dd7e3126e195514ba2cf76fbf595", func := "copyhold/copyholdlaw04.FrameTail", spec := "frameTail", inPlace := ["internal/abi.NoEscape"], named := ["copyhold/cell.table"], apart := false, laid := [("copyhold/cell.table", laid_copyhold_cell_table)] }
def FrameTailSaid : Prop := frameTailRow.holds Tryd.pinned (OpenSpec.ofChange frameTailSpec)

/-- ITS FALSE NEIGHBOUR: 'it returns false'. Refute it at one input. -/
def frameTailWrong : ChangeSpec := { name := "frameTail", fn := fun _ => fun
  | [d1, d2, d3, d4] => { results := [.lit (.bool false)], args := [d1, d2, d3, d4] }
  | _ => none }
def FrameTailWrongFalsely : Prop := frameTailRow.holds Tryd.pinned (OpenSpec.ofChange frameTailWrong)

/-- 'copyholdlaw04.FrameBack': WHATEVER THE INPUT: true; the input reads as it did. -/
def frameBackSpec : ChangeSpec := { name := "frameBack", fn := fun _ => fun
  | [d] => { results := [.lit (.bool true)], args := [d] }
  | _ => none }
def frameBackRow : OpenClaim := { program := "ytmfabbncoekjhaadoor", sum := "781c047d42cf4c8fb11a18a2d8be2e1c7ae9dd7e3126e195514ba2cf76fbf595", func := "copyhold/copyholdlaw04.FrameBack", spec := "frameBack", inPlace := ["internal/abi.NoEscape"], named := ["copyhold/cell.table"], apart := false, laid := [("copyhold/cell.table", laid_copyhold_cell_table)] }
def FrameBackSaid : Prop := frameBackRow.holds Tryd.pinned (OpenSpec.ofChange frameBackSpec)

/-- ITS FALSE NEIGHBOUR: 'it returns false'. Refute it at one input. -/
def frameBackWrong : ChangeSpec := { name := "frameBack", fn := fun _ => fun
  | [d] => { results := [.lit (.bool false)], args := [d] }
  | _ => none }
def FrameBackWrongFalsely : Prop := frameBackRow.holds Tryd.pinned (OpenSpec.ofChange frameBackWrong)

/-- 'copyholdlaw04.FrameMore': WHATEVER THE INPUT: true; the input reads as it did. -/
def frameMoreSpec : ChangeSpec := { name := "frameMore", fn := fun _ => fun
  | [d1, d2] => { results := [.lit (.bool true)], args := [d1, d2] }
  | _ => none }
def frameMoreRow : OpenClaim := { program := "ytmfabbncoekjhaadoor", sum := "781c047d42cf4c8fb11a18a2d8be2e1c7ae9dd7e3126e195514ba2cf76fbf595", func := "copyhold/copyholdlaw04.FrameMore", spec := "frameMore", inPlace := ["internal/abi.NoEscape"], named := ["copyhold/cell.table"], apart := false, laid := [("copyhold/cell.table", laid_copyhold_cell_table)] }
def FrameMoreSaid : Prop := frameMoreRow.holds Tryd.pinned (OpenSpec.ofChange frameMoreSpec)

/-- ITS FALSE NEIGHBOUR: 'it returns false'. Refute it at one input. -/
def frameMoreWrong : ChangeSpec := { name := "frameMore", fn := fun _ => fun
  | [d1, d2] => { results := [.lit (.bool false)], args := [d1, d2] }
  | _ => none }
def FrameMoreWrongFalsely : Prop := frameMoreRow.holds Tryd.pinned (OpenSpec.ofChange frameMoreWrong)

/- THE SECOND FORM. 'bulk': how many values and letters a reading holds, each counted each time it is reached (what is shared counts as often as it is met; a slice's spare places count too). A statement '..UptoSaid' is the law's where the arguments, and the package variables that the reading takes, are together of bulk at most 1048576: NARROWER than '..Said'. Prove '..Said' where nothing that the law and all that it calls make is longer than what came in: it says more and counts as full. Else prove '..UptoSaid'. A law counts once. -/
mutual
def uptoBulk {H : Type} : DataW H → Nat
  | .lit (.string bytes) => bytes.length + 1
  | .lit _ => 1
  | .nil => 1
  | .ptr d => uptoBulk d + 1
  | .slice elems spare => uptoBulkAll elems + uptoBulkAll spare + 1
  | .agg parts => uptoBulkAll parts + 1
  | .iface _ d => uptoBulk d + 1
  | .map entries => uptoBulkEntries entries + 1
  | .held _ => 1
def uptoBulkAll {H : Type} : List (DataW H) → Nat
  | [] => 0
  | d :: r => uptoBulk d + uptoBulkAll r
def uptoBulkEntries {H : Type} : List (Lit × DataW H) → Nat
  | [] => 0
  | x :: r => uptoBulkEntry x + uptoBulkEntries r
def uptoBulkEntry {H : Type} : Lit × DataW H → Nat
  | (.string bytes, d) => bytes.length + uptoBulk d + 1
  | (_, d) => uptoBulk d + 1
 end
def uptoSmall : (H : Type) → List (DataW H) → Bool := fun _ ds => decide (uptoBulkAll ds ≤ 1048576)
def OpenSpec.upto (s : _root_.Go.ChangeSpec) : _root_.Go.OpenSpec := { _root_.Go.OpenSpec.ofChange s with cond := some uptoSmall }

/-- 'copyholdlaw04.FrameKnown', WHERE WHAT IT READS IS OF BULK AT MOST 1048576: true; the input reads as it did. -/
def frameKnownUptoRow : OpenClaim := { program := "ytmfabbncoekjhaadoor", sum := "781c047d42cf4c8fb11a18a2d8be2e1c7ae9dd7e3126e195514ba2cf76fbf595", func := "copyhold/copyholdlaw04.FrameKnown", spec := "frameKnown", inPlace := ["internal/abi.NoEscape"], named := ["copyhold/cell.table"], apart := false, laid := [("copyhold/cell.table", laid_copyhold_cell_table)], narrowed := true }
def FrameKnownUptoSaid : Prop := frameKnownUptoRow.holds Tryd.pinned (OpenSpec.upto frameKnownSpec)

/-- 'copyholdlaw04.FrameLong', WHERE WHAT IT READS IS OF BULK AT MOST 1048576: true; the input reads as it did. -/
def frameLongUptoRow : OpenClaim := { program := "ytmfabbncoekjhaadoor", sum := "781c047d42cf4c8fb11a18a2d8be2e1c7ae9dd7e3126e195514ba2cf76fbf595", func := "copyhold/copyholdlaw04.FrameLong", spec := "frameLong", inPlace := ["internal/abi.NoEscape"], named := ["copyhold/cell.table"], apart := false, laid := [("copyhold/cell.table", laid_copyhold_cell_table)], narrowed := true }
def FrameLongUptoSaid : Prop := frameLongUptoRow.holds Tryd.pinned (OpenSpec.upto frameLongSpec)

/-- 'copyholdlaw04.FrameWrites', WHERE WHAT IT READS IS OF BULK AT MOST 1048576: true; the input reads as it did. -/
def frameWritesUptoRow : OpenClaim := { program := "ytmfabbncoekjhaadoor", sum := "781c047d42cf4c8fb11a18a2d8be2e1c7ae9dd7e3126e195514ba2cf76fbf595", func := "copyhold/copyholdlaw04.FrameWrites", spec := "frameWrites", inPlace := ["internal/abi.NoEscape"], named := ["copyhold/cell.table"], apart := false, laid := [("copyhold/cell.table", laid_copyhold_cell_table)], narrowed := true }
def FrameWritesUptoSaid : Prop := frameWritesUptoRow.holds Tryd.pinned (OpenSpec.upto frameWritesSpec)

/-- 'copyholdlaw04.FrameReads', WHERE WHAT IT READS IS OF BULK AT MOST 1048576: true; the input reads as it did. -/
def frameReadsUptoRow : OpenClaim := { program := "ytmfabbncoekjhaadoor", sum := "781c047d42cf4c8fb11a18a2d8be2e1c7ae9dd7e3126e195514ba2cf76fbf595", func := "copyhold/copyholdlaw04.FrameReads", spec := "frameReads", inPlace := ["internal/abi.NoEscape"], named := ["copyhold/cell.table"], apart := false, laid := [("copyhold/cell.table", laid_copyhold_cell_table)], narrowed := true }
def FrameReadsUptoSaid : Prop := frameReadsUptoRow.holds Tryd.pinned (OpenSpec.upto frameReadsSpec)

/-- 'copyholdlaw04.FrameTail', WHERE WHAT IT READS IS OF BULK AT MOST 1048576: true; the input reads as it did. -/
def frameTailUptoRow : OpenClaim := { program := "ytmfabbncoekjhaadoor", sum := "781c047d42cf4c8fb11a18a2d8be2e1c7ae9dd7e3126e195514ba2cf76fbf595", func := "copyhold/copyholdlaw04.FrameTail", spec := "frameTail", inPlace := ["internal/abi.NoEscape"], named := ["copyhold/cell.table"], apart := false, laid := [("copyhold/cell.table", laid_copyhold_cell_table)], narrowed := true }
def FrameTailUptoSaid : Prop := frameTailUptoRow.holds Tryd.pinned (OpenSpec.upto frameTailSpec)

/-- 'copyholdlaw04.FrameBack', WHERE WHAT IT READS IS OF BULK AT MOST 1048576: true; the input reads as it did. -/
def frameBackUptoRow : OpenClaim := { program := "ytmfabbncoekjhaadoor", sum := "781c047d42cf4c8fb11a18a2d8be2e1c7ae9dd7e3126e195514ba2cf76fbf595", func := "copyhold/copyholdlaw04.FrameBack", spec := "frameBack", inPlace := ["internal/abi.NoEscape"], named := ["copyhold/cell.table"], apart := false, laid := [("copyhold/cell.table", laid_copyhold_cell_table)], narrowed := true }
def FrameBackUptoSaid : Prop := frameBackUptoRow.holds Tryd.pinned (OpenSpec.upto frameBackSpec)

/-- 'copyholdlaw04.FrameMore', WHERE WHAT IT READS IS OF BULK AT MOST 1048576: true; the input reads as it did. -/
def frameMoreUptoRow : OpenClaim := { program := "ytmfabbncoekjhaadoor", sum := "781c047d42cf4c8fb11a18a2d8be2e1c7ae9dd7e3126e195514ba2cf76fbf595", func := "copyhold/copyholdlaw04.FrameMore", spec := "frameMore", inPlace := ["internal/abi.NoEscape"], named := ["copyhold/cell.table"], apart := false, laid := [("copyhold/cell.table", laid_copyhold_cell_table)], narrowed := true }
def FrameMoreUptoSaid : Prop := frameMoreUptoRow.holds Tryd.pinned (OpenSpec.upto frameMoreSpec)

end Rows
end Go.Proofs.YtmfabbncoekjhaaDoor
