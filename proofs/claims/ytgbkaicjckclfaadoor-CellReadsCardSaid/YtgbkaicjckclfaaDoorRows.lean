/-
  NARROWER THAN 'FOR EVERY INPUT', by the rows' own cells (each row's printed sentence says how): CellKnown: laid · CellSums: laid · CellMakes: laid · CellReads: laid · CellBurst: laid · CellBack: laid · CellBursts: laid.
  DERIVED. THE GIVEN ROWS OF THIS SEAT. 7 by the template 'for every input the law returns true; each argument reads behind the call as it read before'; 0 by the template 'total and deterministic' (their statements: YtgbkaicjckclfaaDoorTotals.lean).
  GIVEN WITH THE SEED: the statements are not yours to turn. If you find one false, say at which input.
  Laid BY PROGRAM, IN A SANDBOX (cutbox-rows.mjs): the forced cells as the released guide's own fill.sh prints them over the translation c0cf4df7128d5495… (all of the seat's roots in one cut). By AI agents, Wed Nov 11 2026. No macro, syntax, notation, axiom, sorry.
-/
import Derived.Test.YtgbkaicjckclfaaDoorChecked
import GoSem.Claim
import GoSem.ClaimJoined
import GoSem.ClaimMapViews
import Derived.JoinedTies
import Derived.KernelRfl
namespace Go.Proofs.YtgbkaicjckclfaaDoor
/- THE CELL 'sum', in the pinned program and in every row, IS THE sha256 OF THE DUMP (.gsa) THAT YtgbkaicjckclfaaDoorProg.lean LOADS. Nothing in Lean hashes anything: it is a label: what it is worth is what the hold of that sum in a sandbox is worth. -/
noncomputable def Tryd.pinned : Pinned := { name := "ytgbkaicjckclfaadoor", sum := "c0cf4df7128d54951bd4c3da38844b2be64a525896e736c814d5e3fcf60b8e7f", checked := Tryd.checked }
namespace Rows
def none {H : Type} : Left H := { results := [], args := [] }

/- WHAT THE LISTED PACKAGE-LEVEL VARIABLES READ AS WHEN THE CALL BEGINS. Each datum BY PROGRAM (the guide's laid-datum.mjs) off the statement by which the dump's own 'gosem.cut.vars' lays the variable. In a bare row this is a premise. The card (YtgbkaicjckclfaaDoorCards.lean) ties it to the program's text. -/
def laid_copyhold_cell_table {H : Type} : DataW H := .agg [.lit (.int .u32 0), .lit (.int .u32 498536548), .lit (.int .u32 997073096), .lit (.int .u32 651767980), .lit (.int .u32 1994146192), .lit (.int .u32 1802195444), .lit (.int .u32 1303535960), .lit (.int .u32 1342533948), .lit (.int .u32 3988292384), .lit (.int .u32 4027552580), .lit (.int .u32 3604390888), .lit (.int .u32 3412177804), .lit (.int .u32 2607071920), .lit (.int .u32 2262029012), .lit (.int .u32 2685067896), .lit (.int .u32 3183342108)]

/-- 'copyholdlaw03.CellKnown': WHATEVER THE INPUT: true; the input reads as it did. -/
def cellKnownSpec : ChangeSpec := { name := "cellKnown", fn := fun _ => fun
  | [] => { results := [.lit (.bool true)], args := [] }
  | _ => none }
def cellKnownRow : OpenClaim := { program := "ytgbkaicjckclfaadoor", sum := "c0cf4df7128d54951bd4c3da38844b2be64a525896e736c814d5e3fcf60b8e7f", func := "copyhold/copyholdlaw03.CellKnown", spec := "cellKnown", named := ["copyhold/cell.table"], apart := false, laid := [("copyhold/cell.table", laid_copyhold_cell_table)] }
def CellKnownSaid : Prop := cellKnownRow.holds Tryd.pinned (OpenSpec.ofChange cellKnownSpec)

/-- ITS FALSE NEIGHBOUR: 'it returns false'. Refute it at one input. -/
def cellKnownWrong : ChangeSpec := { name := "cellKnown", fn := fun _ => fun
  | [] => { results := [.lit (.bool false)], args := [] }
  | _ => none }
def CellKnownWrongFalsely : Prop := cellKnownRow.holds Tryd.pinned (OpenSpec.ofChange cellKnownWrong)

/-- 'copyholdlaw03.CellSums': WHATEVER THE INPUT: true; the input reads as it did. -/
def cellSumsSpec : ChangeSpec := { name := "cellSums", fn := fun _ => fun
  | [d] => { results := [.lit (.bool true)], args := [d] }
  | _ => none }
def cellSumsRow : OpenClaim := { program := "ytgbkaicjckclfaadoor", sum := "c0cf4df7128d54951bd4c3da38844b2be64a525896e736c814d5e3fcf60b8e7f", func := "copyhold/copyholdlaw03.CellSums", spec := "cellSums", named := ["copyhold/cell.table"], apart := false, laid := [("copyhold/cell.table", laid_copyhold_cell_table)] }
def CellSumsSaid : Prop := cellSumsRow.holds Tryd.pinned (OpenSpec.ofChange cellSumsSpec)

/-- ITS FALSE NEIGHBOUR: 'it returns false'. Refute it at one input. -/
def cellSumsWrong : ChangeSpec := { name := "cellSums", fn := fun _ => fun
  | [d] => { results := [.lit (.bool false)], args := [d] }
  | _ => none }
def CellSumsWrongFalsely : Prop := cellSumsRow.holds Tryd.pinned (OpenSpec.ofChange cellSumsWrong)

/-- 'copyholdlaw03.CellMakes': WHATEVER THE INPUT: true; the input reads as it did. -/
def cellMakesSpec : ChangeSpec := { name := "cellMakes", fn := fun _ => fun
  | [d] => { results := [.lit (.bool true)], args := [d] }
  | _ => none }
def cellMakesRow : OpenClaim := { program := "ytgbkaicjckclfaadoor", sum := "c0cf4df7128d54951bd4c3da38844b2be64a525896e736c814d5e3fcf60b8e7f", func := "copyhold/copyholdlaw03.CellMakes", spec := "cellMakes", named := ["copyhold/cell.table"], apart := false, laid := [("copyhold/cell.table", laid_copyhold_cell_table)] }
def CellMakesSaid : Prop := cellMakesRow.holds Tryd.pinned (OpenSpec.ofChange cellMakesSpec)

/-- ITS FALSE NEIGHBOUR: 'it returns false'. Refute it at one input. -/
def cellMakesWrong : ChangeSpec := { name := "cellMakes", fn := fun _ => fun
  | [d] => { results := [.lit (.bool false)], args := [d] }
  | _ => none }
def CellMakesWrongFalsely : Prop := cellMakesRow.holds Tryd.pinned (OpenSpec.ofChange cellMakesWrong)

/-- 'copyholdlaw03.CellReads': WHATEVER THE INPUT: true; the input reads as it did. -/
def cellReadsSpec : ChangeSpec := { name := "cellReads", fn := fun _ => fun
  | [d] => { results := [.lit (.bool true)], args := [d] }
  | _ => none }
def cellReadsRow : OpenClaim := { program := "ytgbkaicjckclfaadoor", sum := "c0cf4df7128d54951bd4c3da38844b2be64a525896e736c814d5e3fcf60b8e7f", func := "copyhold/copyholdlaw03.CellReads", spec := "cellReads", named := ["copyhold/cell.table"], apart := false, laid := [("copyhold/cell.table", laid_copyhold_cell_table)] }
def CellReadsSaid : Prop := cellReadsRow.holds Tryd.pinned (OpenSpec.ofChange cellReadsSpec)

/-- ITS FALSE NEIGHBOUR: 'it returns false'. Refute it at one input. -/
def cellReadsWrong : ChangeSpec := { name := "cellReads", fn := fun _ => fun
  | [d] => { results := [.lit (.bool false)], args := [d] }
  | _ => none }
def CellReadsWrongFalsely : Prop := cellReadsRow.holds Tryd.pinned (OpenSpec.ofChange cellReadsWrong)

/-- 'copyholdlaw03.CellBurst': WHATEVER THE INPUT: true; the input reads as it did. -/
def cellBurstSpec : ChangeSpec := { name := "cellBurst", fn := fun _ => fun
  | [d1, d2, d3] => { results := [.lit (.bool true)], args := [d1, d2, d3] }
  | _ => none }
def cellBurstRow : OpenClaim := { program := "ytgbkaicjckclfaadoor", sum := "c0cf4df7128d54951bd4c3da38844b2be64a525896e736c814d5e3fcf60b8e7f", func := "copyhold/copyholdlaw03.CellBurst", spec := "cellBurst", named := ["copyhold/cell.table"], apart := false, laid := [("copyhold/cell.table", laid_copyhold_cell_table)] }
def CellBurstSaid : Prop := cellBurstRow.holds Tryd.pinned (OpenSpec.ofChange cellBurstSpec)

/-- ITS FALSE NEIGHBOUR: 'it returns false'. Refute it at one input. -/
def cellBurstWrong : ChangeSpec := { name := "cellBurst", fn := fun _ => fun
  | [d1, d2, d3] => { results := [.lit (.bool false)], args := [d1, d2, d3] }
  | _ => none }
def CellBurstWrongFalsely : Prop := cellBurstRow.holds Tryd.pinned (OpenSpec.ofChange cellBurstWrong)

/-- 'copyholdlaw03.CellBack': WHATEVER THE INPUT: true; the input reads as it did. -/
def cellBackSpec : ChangeSpec := { name := "cellBack", fn := fun _ => fun
  | [d1, d2] => { results := [.lit (.bool true)], args := [d1, d2] }
  | _ => none }
def cellBackRow : OpenClaim := { program := "ytgbkaicjckclfaadoor", sum := "c0cf4df7128d54951bd4c3da38844b2be64a525896e736c814d5e3fcf60b8e7f", func := "copyhold/copyholdlaw03.CellBack", spec := "cellBack", named := ["copyhold/cell.table"], apart := false, laid := [("copyhold/cell.table", laid_copyhold_cell_table)] }
def CellBackSaid : Prop := cellBackRow.holds Tryd.pinned (OpenSpec.ofChange cellBackSpec)

/-- ITS FALSE NEIGHBOUR: 'it returns false'. Refute it at one input. -/
def cellBackWrong : ChangeSpec := { name := "cellBack", fn := fun _ => fun
  | [d1, d2] => { results := [.lit (.bool false)], args := [d1, d2] }
  | _ => none }
def CellBackWrongFalsely : Prop := cellBackRow.holds Tryd.pinned (OpenSpec.ofChange cellBackWrong)

/-- 'copyholdlaw03.CellBursts': WHATEVER THE INPUT: true; the input reads as it did. -/
def cellBurstsSpec : ChangeSpec := { name := "cellBursts", fn := fun _ => fun
  | [d1, d2, d3, d4] => { results := [.lit (.bool true)], args := [d1, d2, d3, d4] }
  | _ => none }
def cellBurstsRow : OpenClaim := { program := "ytgbkaicjckclfaadoor", sum := "c0cf4df7128d54951bd4c3da38844b2be64a525896e736c814d5e3fcf60b8e7f", func := "copyhold/copyholdlaw03.CellBursts", spec := "cellBursts", named := ["copyhold/cell.table"], apart := false, laid := [("copyhold/cell.table", laid_copyhold_cell_table)] }
def CellBurstsSaid : Prop := cellBurstsRow.holds Tryd.pinned (OpenSpec.ofChange cellBurstsSpec)

/-- ITS FALSE NEIGHBOUR: 'it returns false'. Refute it at one input. -/
def cellBurstsWrong : ChangeSpec := { name := "cellBursts", fn := fun _ => fun
  | [d1, d2, d3, d4] => { results := [.lit (.bool false)], args := [d1, d2, d3, d4] }
  | _ => none }
def CellBurstsWrongFalsely : Prop := cellBurstsRow.holds Tryd.pinned (OpenSpec.ofChange cellBurstsWrong)

/- THE SECOND FORM. 'bulk': how many values and letters a reading holds, each counted each time it is reached (what is shared counts as often as it is met; a slice's spare places count too). A statement '..UptoSaid' is the law's where the arguments, and the package variables that the reading takes, are together of bulk at most 1048576: NARROWER than '..Said'. Prove '..Said' where nothing that the law and all that it calls make is longer than what came in: it says more and counts as full. Else prove '..UptoSaid'. A law counts once. -/
mutual
def uptoBulk {H : Type} : DataW H → Nat
  | .lit (.string bytes) => bytes.length + 1
  | .lit _ => 1
  | .nil => 1
  | .ptr d => uptoBulk d + 1
  | .slice elems spare => uptoBulkAll elems + uptoBulkAll spare + 1
  | .agg parts => uptoBulkAll parts + 1
  | .iface _ d => uptoBulk d + 1
  | .map entries => uptoBulkEntries entries + 1
  | .held _ => 1
def uptoBulkAll {H : Type} : List (DataW H) → Nat
  | [] => 0
  | d :: r => uptoBulk d + uptoBulkAll r
def uptoBulkEntries {H : Type} : List (Lit × DataW H) → Nat
  | [] => 0
  | x :: r => uptoBulkEntry x + uptoBulkEntries r
def uptoBulkEntry {H : Type} : Lit × DataW H → Nat
  | (.string bytes, d) => bytes.length + uptoBulk d + 1
  | (_, d) => uptoBulk d + 1
 end
def uptoSmall : (H : Type) → List (DataW H) → Bool := fun _ ds => decide (uptoBulkAll ds ≤ 1048576)
def OpenSpec.upto (s : _root_.Go.ChangeSpec) : _root_.Go.OpenSpec := { _root_.Go.OpenSpec.ofChange s with cond := some uptoSmall }

/-- 'copyholdlaw03.CellKnown', WHERE WHAT IT READS IS OF BULK AT MOST 1048576: true; the input reads as it did. -/
def cellKnownUptoRow : OpenClaim := { program := "ytgbkaicjckclfaadoor", sum := "c0cf4df7128d54951bd4c3da38844b2be64a525896e736c814d5e3fcf60b8e7f", func := "copyhold/copyholdlaw03.CellKnown", spec := "cellKnown", named := ["copyhold/cell.table"], apart := false, laid := [("copyhold/cell.table", laid_copyhold_cell_table)], narrowed := true }
def CellKnownUptoSaid : Prop := cellKnownUptoRow.holds Tryd.pinned (OpenSpec.upto cellKnownSpec)

/-- 'copyholdlaw03.CellSums', WHERE WHAT IT READS IS OF BULK AT MOST 1048576: true; the input reads as it did. -/
def cellSumsUptoRow : OpenClaim := { program := "ytgbkaicjckclfaadoor", sum := "c0cf4df7128d54951bd4c3da38844b2be64a525896e736c814d5e3fcf60b8e7f", func := "copyhold/copyholdlaw03.CellSums", spec := "cellSums", named := ["copyhold/cell.table"], apart := false, laid := [("copyhold/cell.table", laid_copyhold_cell_table)], narrowed := true }
def CellSumsUptoSaid : Prop := cellSumsUptoRow.holds Tryd.pinned (OpenSpec.upto cellSumsSpec)

/-- 'copyholdlaw03.CellMakes', WHERE WHAT IT READS IS OF BULK AT MOST 1048576: true; the input reads as it did. -/
def cellMakesUptoRow : OpenClaim := { program := "ytgbkaicjckclfaadoor", sum := "c0cf4df7128d54951bd4c3da38844b2be64a525896e736c814d5e3fcf60b8e7f", func := "copyhold/copyholdlaw03.CellMakes", spec := "cellMakes", named := ["copyhold/cell.table"], apart := false, laid := [("copyhold/cell.table", laid_copyhold_cell_table)], narrowed := true }
def CellMakesUptoSaid : Prop := cellMakesUptoRow.holds Tryd.pinned (OpenSpec.upto cellMakesSpec)

/-- 'copyholdlaw03.CellReads', WHERE WHAT IT READS IS OF BULK AT MOST 1048576: true; the input reads as it did. -/
def cellReadsUptoRow : OpenClaim := { program := "ytgbkaicjckclfaadoor", sum := "c0cf4df7128d54951bd4c3da38844b2be64a525896e736c814d5e3fcf60b8e7f", func := "copyhold/copyholdlaw03.CellReads", spec := "cellReads", named := ["copyhold/cell.table"], apart := false, laid := [("copyhold/cell.table", laid_copyhold_cell_table)], narrowed := true }
def CellReadsUptoSaid : Prop := cellReadsUptoRow.holds Tryd.pinned (OpenSpec.upto cellReadsSpec)

/-- 'copyholdlaw03.CellBurst', WHERE WHAT IT READS IS OF BULK AT MOST 1048576: true; the input reads as it did. -/
def cellBurstUptoRow : OpenClaim := { program := "ytgbkaicjckclfaadoor", sum := "c0cf4df7128d54951bd4c3da38844b2be64a525896e736c814d5e3fcf60b8e7f", func := "copyhold/copyholdlaw03.CellBurst", spec := "cellBurst", named := ["copyhold/cell.table"], apart := false, laid := [("copyhold/cell.table", laid_copyhold_cell_table)], narrowed := true }
def CellBurstUptoSaid : Prop := cellBurstUptoRow.holds Tryd.pinned (OpenSpec.upto cellBurstSpec)

/-- 'copyholdlaw03.CellBack', WHERE WHAT IT READS IS OF BULK AT MOST 1048576: true; the input reads as it did. -/
def cellBackUptoRow : OpenClaim := { program := "ytgbkaicjckclfaadoor", sum := "c0cf4df7128d54951bd4c3da38844b2be64a525896e736c814d5e3fcf60b8e7f", func := "copyhold/copyholdlaw03.CellBack", spec := "cellBack", named := ["copyhold/cell.table"], apart := false, laid := [("copyhold/cell.table", laid_copyhold_cell_table)], narrowed := true }
def CellBackUptoSaid : Prop := cellBackUptoRow.holds Tryd.pinned (OpenSpec.upto cellBackSpec)

/-- 'copyholdlaw03.CellBursts', WHERE WHAT IT READS IS OF BULK AT MOST 1048576: true; the input reads as it did. -/
def cellBurstsUptoRow : OpenClaim := { program := "ytgbkaicjckclfaadoor", sum := "c0cf4df7128d54951bd4c3da38844b2be64a525896e736c814d5e3fcf60b8e7f", func := "copyhold/copyholdlaw03.CellBursts", spec := "cellBursts", named := ["copyhold/cell.table"], apart := false, laid := [("copyhold/cell.table", laid_copyhold_cell_table)], narrowed := true }
def CellBurstsUptoSaid : Prop := cellBurstsUptoRow.holds Tryd.pinned (OpenSpec.upto cellBurstsSpec)

end Rows
end Go.Proofs.YtgbkaicjckclfaaDoor
