/-
  NARROWER THAN 'FOR EVERY INPUT', by the rows' own cells (each row's printed sentence says how): ScriptKnown: laid · ScriptPuts: laid · ScriptReads: laid · ScriptBack: laid · ScriptOnly: laid · ScriptEach: laid.
  DERIVED. THE GIVEN ROWS OF THIS SEAT. 6 by the template 'for every input the law returns true; each argument reads behind the call as it read before'; 0 by the template 'total and deterministic' (their statements: YtnflbgindcejjaaDoorTotals.lean).
  GIVEN WITH THE SEED: the statements are not yours to turn. If you find one false, say at which input.
  Laid BY PROGRAM, IN A SANDBOX (cutbox-rows.mjs): the forced cells as the released guide's own fill.sh prints them over the translation 6e1e9896816b0e7d… (all of the seat's roots in one cut). By AI agents, Wed Nov 11 2026. No macro, syntax, notation, axiom, sorry.
-/
import Derived.Test.YtnflbgindcejjaaDoorChecked
import GoSem.Claim
import GoSem.ClaimJoined
import GoSem.ClaimMapViews
import Derived.JoinedTies
import Derived.KernelRfl
namespace Go.Proofs.YtnflbgindcejjaaDoor
/- THE CELL 'sum', in the pinned program and in every row, IS THE sha256 OF THE DUMP (.gsa) THAT YtnflbgindcejjaaDoorProg.lean LOADS. Nothing in Lean hashes anything: it is a label: what it is worth is what the hold of that sum in a sandbox is worth. -/
noncomputable def Tryd.pinned : Pinned := { name := "ytnflbgindcejjaadoor", sum := "6e1e9896816b0e7d2e6aa63d3fb5ac82f8173affc31de8ffa37ab67a179cad59", checked := Tryd.checked }
namespace Rows
def none {H : Type} : Left H := { results := [], args := [] }

/- WHAT THE LISTED PACKAGE-LEVEL VARIABLES READ AS WHEN THE CALL BEGINS. Each datum BY PROGRAM (the guide's laid-datum.mjs) off the statement by which the dump's own 'gosem.cut.vars' lays the variable. In a bare row this is a premise. The card (YtnflbgindcejjaaDoorCards.lean) ties it to the program's text. -/
def laid_bytes_ErrTooLarge {H : Type} : DataW H := .iface "*errors.errorString" (.ptr (.agg [.lit (.string [98, 121, 116, 101, 115, 46, 66, 117, 102, 102, 101, 114, 58, 32, 116, 111, 111, 32, 108, 97, 114, 103, 101])]))

/-- 'copyholdlaw29.ScriptKnown': WHATEVER THE INPUT: true; the input reads as it did. -/
def scriptKnownSpec : ChangeSpec := { name := "scriptKnown", fn := fun _ => fun
  | [] => { results := [.lit (.bool true)], args := [] }
  | _ => none }
def scriptKnownRow : OpenClaim := { program := "ytnflbgindcejjaadoor", sum := "6e1e9896816b0e7d2e6aa63d3fb5ac82f8173affc31de8ffa37ab67a179cad59", func := "copyhold/copyholdlaw29.ScriptKnown", spec := "scriptKnown", named := ["bytes.ErrTooLarge"], apart := false, laid := [("bytes.ErrTooLarge", laid_bytes_ErrTooLarge)] }
def ScriptKnownSaid : Prop := scriptKnownRow.holds Tryd.pinned (OpenSpec.ofChange scriptKnownSpec)

/-- ITS FALSE NEIGHBOUR: 'it returns false'. Refute it at one input. -/
def scriptKnownWrong : ChangeSpec := { name := "scriptKnown", fn := fun _ => fun
  | [] => { results := [.lit (.bool false)], args := [] }
  | _ => none }
def ScriptKnownWrongFalsely : Prop := scriptKnownRow.holds Tryd.pinned (OpenSpec.ofChange scriptKnownWrong)

/-- 'copyholdlaw29.ScriptPuts': WHATEVER THE INPUT: true; the input reads as it did. -/
def scriptPutsSpec : ChangeSpec := { name := "scriptPuts", fn := fun _ => fun
  | [d] => { results := [.lit (.bool true)], args := [d] }
  | _ => none }
def scriptPutsRow : OpenClaim := { program := "ytnflbgindcejjaadoor", sum := "6e1e9896816b0e7d2e6aa63d3fb5ac82f8173affc31de8ffa37ab67a179cad59", func := "copyhold/copyholdlaw29.ScriptPuts", spec := "scriptPuts", named := ["bytes.ErrTooLarge"], apart := false, laid := [("bytes.ErrTooLarge", laid_bytes_ErrTooLarge)] }
def ScriptPutsSaid : Prop := scriptPutsRow.holds Tryd.pinned (OpenSpec.ofChange scriptPutsSpec)

/-- ITS FALSE NEIGHBOUR: 'it returns false'. Refute it at one input. -/
def scriptPutsWrong : ChangeSpec := { name := "scriptPuts", fn := fun _ => fun
  | [d] => { results := [.lit (.bool false)], args := [d] }
  | _ => none }
def ScriptPutsWrongFalsely : Prop := scriptPutsRow.holds Tryd.pinned (OpenSpec.ofChange scriptPutsWrong)

/-- 'copyholdlaw29.ScriptReads': WHATEVER THE INPUT: true; the input reads as it did. -/
def scriptReadsSpec : ChangeSpec := { name := "scriptReads", fn := fun _ => fun
  | [d] => { results := [.lit (.bool true)], args := [d] }
  | _ => none }
def scriptReadsRow : OpenClaim := { program := "ytnflbgindcejjaadoor", sum := "6e1e9896816b0e7d2e6aa63d3fb5ac82f8173affc31de8ffa37ab67a179cad59", func := "copyhold/copyholdlaw29.ScriptReads", spec := "scriptReads", named := ["bytes.ErrTooLarge"], apart := false, laid := [("bytes.ErrTooLarge", laid_bytes_ErrTooLarge)] }
def ScriptReadsSaid : Prop := scriptReadsRow.holds Tryd.pinned (OpenSpec.ofChange scriptReadsSpec)

/-- ITS FALSE NEIGHBOUR: 'it returns false'. Refute it at one input. -/
def scriptReadsWrong : ChangeSpec := { name := "scriptReads", fn := fun _ => fun
  | [d] => { results := [.lit (.bool false)], args := [d] }
  | _ => none }
def ScriptReadsWrongFalsely : Prop := scriptReadsRow.holds Tryd.pinned (OpenSpec.ofChange scriptReadsWrong)

/-- 'copyholdlaw29.ScriptBack': WHATEVER THE INPUT: true; the input reads as it did. -/
def scriptBackSpec : ChangeSpec := { name := "scriptBack", fn := fun _ => fun
  | [d1, d2, d3] => { results := [.lit (.bool true)], args := [d1, d2, d3] }
  | _ => none }
def scriptBackRow : OpenClaim := { program := "ytnflbgindcejjaadoor", sum := "6e1e9896816b0e7d2e6aa63d3fb5ac82f8173affc31de8ffa37ab67a179cad59", func := "copyhold/copyholdlaw29.ScriptBack", spec := "scriptBack", named := ["bytes.ErrTooLarge"], apart := false, laid := [("bytes.ErrTooLarge", laid_bytes_ErrTooLarge)] }
def ScriptBackSaid : Prop := scriptBackRow.holds Tryd.pinned (OpenSpec.ofChange scriptBackSpec)

/-- ITS FALSE NEIGHBOUR: 'it returns false'. Refute it at one input. -/
def scriptBackWrong : ChangeSpec := { name := "scriptBack", fn := fun _ => fun
  | [d1, d2, d3] => { results := [.lit (.bool false)], args := [d1, d2, d3] }
  | _ => none }
def ScriptBackWrongFalsely : Prop := scriptBackRow.holds Tryd.pinned (OpenSpec.ofChange scriptBackWrong)

/-- 'copyholdlaw29.ScriptOnly': WHATEVER THE INPUT: true; the input reads as it did. -/
def scriptOnlySpec : ChangeSpec := { name := "scriptOnly", fn := fun _ => fun
  | [d] => { results := [.lit (.bool true)], args := [d] }
  | _ => none }
def scriptOnlyRow : OpenClaim := { program := "ytnflbgindcejjaadoor", sum := "6e1e9896816b0e7d2e6aa63d3fb5ac82f8173affc31de8ffa37ab67a179cad59", func := "copyhold/copyholdlaw29.ScriptOnly", spec := "scriptOnly", named := ["bytes.ErrTooLarge"], apart := false, laid := [("bytes.ErrTooLarge", laid_bytes_ErrTooLarge)] }
def ScriptOnlySaid : Prop := scriptOnlyRow.holds Tryd.pinned (OpenSpec.ofChange scriptOnlySpec)

/-- ITS FALSE NEIGHBOUR: 'it returns false'. Refute it at one input. -/
def scriptOnlyWrong : ChangeSpec := { name := "scriptOnly", fn := fun _ => fun
  | [d] => { results := [.lit (.bool false)], args := [d] }
  | _ => none }
def ScriptOnlyWrongFalsely : Prop := scriptOnlyRow.holds Tryd.pinned (OpenSpec.ofChange scriptOnlyWrong)

/-- 'copyholdlaw29.ScriptEach': WHATEVER THE INPUT: true; the input reads as it did. -/
def scriptEachSpec : ChangeSpec := { name := "scriptEach", fn := fun _ => fun
  | [d] => { results := [.lit (.bool true)], args := [d] }
  | _ => none }
def scriptEachRow : OpenClaim := { program := "ytnflbgindcejjaadoor", sum := "6e1e9896816b0e7d2e6aa63d3fb5ac82f8173affc31de8ffa37ab67a179cad59", func := "copyhold/copyholdlaw29.ScriptEach", spec := "scriptEach", named := ["bytes.ErrTooLarge"], apart := false, laid := [("bytes.ErrTooLarge", laid_bytes_ErrTooLarge)] }
def ScriptEachSaid : Prop := scriptEachRow.holds Tryd.pinned (OpenSpec.ofChange scriptEachSpec)

/-- ITS FALSE NEIGHBOUR: 'it returns false'. Refute it at one input. -/
def scriptEachWrong : ChangeSpec := { name := "scriptEach", fn := fun _ => fun
  | [d] => { results := [.lit (.bool false)], args := [d] }
  | _ => none }
def ScriptEachWrongFalsely : Prop := scriptEachRow.holds Tryd.pinned (OpenSpec.ofChange scriptEachWrong)

/- THE SECOND FORM. 'bulk': how many values and letters a reading holds, each counted each time it is reached (what is shared counts as often as it is met; a slice's spare places count too). A statement '..UptoSaid' is the law's where the arguments, and the package variables that the reading takes, are together of bulk at most 1048576: NARROWER than '..Said'. Prove '..Said' where nothing that the law and all that it calls make is longer than what came in: it says more and counts as full. Else prove '..UptoSaid'. A law counts once. -/
mutual
def uptoBulk {H : Type} : DataW H → Nat
  | .lit (.string bytes) => bytes.length + 1
  | .lit _ => 1
  | .nil => 1
  | .ptr d => uptoBulk d + 1
  | .slice elems spare => uptoBulkAll elems + uptoBulkAll spare + 1
  | .agg parts => uptoBulkAll parts + 1
  | .iface _ d => uptoBulk d + 1
  | .map entries => uptoBulkEntries entries + 1
  | .held _ => 1
def uptoBulkAll {H : Type} : List (DataW H) → Nat
  | [] => 0
  | d :: r => uptoBulk d + uptoBulkAll r
def uptoBulkEntries {H : Type} : List (Lit × DataW H) → Nat
  | [] => 0
  | x :: r => uptoBulkEntry x + uptoBulkEntries r
def uptoBulkEntry {H : Type} : Lit × DataW H → Nat
  | (.string bytes, d) => bytes.length + uptoBulk d + 1
  | (_, d) => uptoBulk d + 1
 end
def uptoSmall : (H : Type) → List (DataW H) → Bool := fun _ ds => decide (uptoBulkAll ds ≤ 1048576)
def OpenSpec.upto (s : _root_.Go.ChangeSpec) : _root_.Go.OpenSpec := { _root_.Go.OpenSpec.ofChange s with cond := some uptoSmall }

/-- 'copyholdlaw29.ScriptKnown', WHERE WHAT IT READS IS OF BULK AT MOST 1048576: true; the input reads as it did. -/
def scriptKnownUptoRow : OpenClaim := { program := "ytnflbgindcejjaadoor", sum := "6e1e9896816b0e7d2e6aa63d3fb5ac82f8173affc31de8ffa37ab67a179cad59", func := "copyhold/copyholdlaw29.ScriptKnown", spec := "scriptKnown", named := ["bytes.ErrTooLarge"], apart := false, laid := [("bytes.ErrTooLarge", laid_bytes_ErrTooLarge)], narrowed := true }
def ScriptKnownUptoSaid : Prop := scriptKnownUptoRow.holds Tryd.pinned (OpenSpec.upto scriptKnownSpec)

/-- 'copyholdlaw29.ScriptPuts', WHERE WHAT IT READS IS OF BULK AT MOST 1048576: true; the input reads as it did. -/
def scriptPutsUptoRow : OpenClaim := { program := "ytnflbgindcejjaadoor", sum := "6e1e9896816b0e7d2e6aa63d3fb5ac82f8173affc31de8ffa37ab67a179cad59", func := "copyhold/copyholdlaw29.ScriptPuts", spec := "scriptPuts", named := ["bytes.ErrTooLarge"], apart := false, laid := [("bytes.ErrTooLarge", laid_bytes_ErrTooLarge)], narrowed := true }
def ScriptPutsUptoSaid : Prop := scriptPutsUptoRow.holds Tryd.pinned (OpenSpec.upto scriptPutsSpec)

/-- 'copyholdlaw29.ScriptReads', WHERE WHAT IT READS IS OF BULK AT MOST 1048576: true; the input reads as it did. -/
def scriptReadsUptoRow : OpenClaim := { program := "ytnflbgindcejjaadoor", sum := "6e1e9896816b0e7d2e6aa63d3fb5ac82f8173affc31de8ffa37ab67a179cad59", func := "copyhold/copyholdlaw29.ScriptReads", spec := "scriptReads", named := ["bytes.ErrTooLarge"], apart := false, laid := [("bytes.ErrTooLarge", laid_bytes_ErrTooLarge)], narrowed := true }
def ScriptReadsUptoSaid : Prop := scriptReadsUptoRow.holds Tryd.pinned (OpenSpec.upto scriptReadsSpec)

/-- 'copyholdlaw29.ScriptBack', WHERE WHAT IT READS IS OF BULK AT MOST 1048576: true; the input reads as it did. -/
def scriptBackUptoRow : OpenClaim := { program := "ytnflbgindcejjaadoor", sum := "6e1e9896816b0e7d2e6aa63d3fb5ac82f8173affc31de8ffa37ab67a179cad59", func := "copyhold/copyholdlaw29.ScriptBack", spec := "scriptBack", named := ["bytes.ErrTooLarge"], apart := false, laid := [("bytes.ErrTooLarge", laid_bytes_ErrTooLarge)], narrowed := true }
def ScriptBackUptoSaid : Prop := scriptBackUptoRow.holds Tryd.pinned (OpenSpec.upto scriptBackSpec)

/-- 'copyholdlaw29.ScriptOnly', WHERE WHAT IT READS IS OF BULK AT MOST 1048576: true; the input reads as it did. -/
def scriptOnlyUptoRow : OpenClaim := { program := "ytnflbgindcejjaadoor", sum := "6e1e9896816b0e7d2e6aa63d3fb5ac82f8173affc31de8ffa37ab67a179cad59", func := "copyhold/copyholdlaw29.ScriptOnly", spec := "scriptOnly", named := ["bytes.ErrTooLarge"], apart := false, laid := [("bytes.ErrTooLarge", laid_bytes_ErrTooLarge)], narrowed := true }
def ScriptOnlyUptoSaid : Prop := scriptOnlyUptoRow.holds Tryd.pinned (OpenSpec.upto scriptOnlySpec)

/-- 'copyholdlaw29.ScriptEach', WHERE WHAT IT READS IS OF BULK AT MOST 1048576: true; the input reads as it did. -/
def scriptEachUptoRow : OpenClaim := { program := "ytnflbgindcejjaadoor", sum := "6e1e9896816b0e7d2e6aa63d3fb5ac82f8173affc31de8ffa37ab67a179cad59", func := "copyhold/copyholdlaw29.ScriptEach", spec := "scriptEach", named := ["bytes.ErrTooLarge"], apart := false, laid := [("bytes.ErrTooLarge", laid_bytes_ErrTooLarge)], narrowed := true }
def ScriptEachUptoSaid : Prop := scriptEachUptoRow.holds Tryd.pinned (OpenSpec.upto scriptEachSpec)

end Rows
end Go.Proofs.YtnflbgindcejjaaDoor
