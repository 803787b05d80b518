/- Laws for the walks: two operations, two entries, held against each other. -/
import Derived.Test.YtoaecmaphpnolaaWEnts
import Derived.Laws.StructEq
namespace Go.Proofs.Ytoaecmaphpnolaa
open Go.RowKit

theorem fieldsOp : Try.prog.underlying 24 = some (.struct (Try.prog.fieldsOf 24)) := by kernel_rfl
theorem fieldsOpL : (Try.prog.fieldsOf 24).toList.map (fun f => (f.name == "_", f.type, f.offset)) = [(false, 9, 0), (false, 9, 1), (false, 4, 2)] := by kernel_rfl
theorem stoodOp : Try.prog.stoodInHeld 24 = false := by kernel_rfl
theorem guardOp : Try.prog.eqGuardType Try.prog.depth 24 = false := by kernel_rfl
theorem fieldsEnt : Try.prog.underlying 48 = some (.struct (Try.prog.fieldsOf 48)) := by kernel_rfl
theorem fieldsEntL : (Try.prog.fieldsOf 48).toList.map (fun f => (f.name == "_", f.type, f.offset)) = [(false, 9, 0), (false, 9, 1), (false, 25, 2), (false, 4, 3)] := by kernel_rfl
theorem stoodEnt : Try.prog.stoodInHeld 48 = false := by kernel_rfl
theorem guardEnt : Try.prog.eqGuardType Try.prog.depth 48 = false := by kernel_rfl

/-- Are they one? (Not to be unfolded in a walk.) -/
def P.opEq (k v : List UInt8) (g : Bool) (k' v' : List UInt8) (g' : Bool) : Bool := decide (k = k') && (decide (v = v') && (g == g'))
def P.entEq (k v : List UInt8) (n : Int) (g : Bool) (k' v' : List UInt8) (n' : Int) (g' : Bool) : Bool := decide (k = k') && (decide (v = v') && ((n == n') && (g == g')))
theorem P.opEq_iff (k v : List UInt8) (g : Bool) (k' v' : List UInt8) (g' : Bool) : P.opEq k v g k' v' g' = decide (k = k' ∧ v = v' ∧ g = g') := by
  unfold P.opEq
  by_cases h : k = k' <;> by_cases h' : v = v' <;> cases g <;> cases g' <;> simp [h, h']
theorem P.entEq_iff (k v : List UInt8) (n : Int) (g : Bool) (k' v' : List UInt8) (n' : Int) (g' : Bool) : P.entEq k v n g k' v' n' g' = decide (k = k' ∧ v = v' ∧ n = n' ∧ g = g') := by
  unfold P.entEq
  by_cases h : k = k' <;> by_cases h' : v = v' <;> by_cases h2 : n = n' <;> cases g <;> cases g' <;> simp [h, h', h2]

theorem eq_op (k v k' v' : List UInt8) (g g' : Bool) (w : World) :
    (Op.equalIn 10000 24 (.agg #[S k, S v, .bool g]) (.agg #[S k', S v', .bool g'])).run Try.prog w = .ok (P.opEq k v g k' v' g') w := by
  have hf := fieldsOpL
  rw [run_equalIn_struct w 9999 _ _ _ fieldsOp stoodOp]
  have hl := congrArg List.length hf
  generalize (Try.prog.fieldsOf 24).toList = fs at hf hl
  match fs, (by simpa using hl : fs.length = 3) with
  | [f0, f1, f2], _ =>
    simp only [List.map_cons, List.map_nil, List.cons.injEq, Prod.mk.injEq, and_true, beq_eq_false_iff_ne] at hf
    obtain ⟨⟨n0, t0, o0⟩, ⟨n1, t1, o1⟩, n2, t2, o2⟩ := hf
    simp only [Op.eqFields, t0, t1, t2, o0, o1, o2]
    simp [go_sem, part, n0, n1, n2]
    unfold P.opEq
    by_cases h : k = k' <;> by_cases h' : v = v' <;> cases g <;> cases g' <;> simp [h, h']
theorem eq_ent (k v k' v' : List UInt8) (n n' : Int) (g g' : Bool) (w : World) :
    (Op.equalIn 10000 48 (.agg #[S k, S v, .int .u64 n, .bool g]) (.agg #[S k', S v', .int .u64 n', .bool g'])).run Try.prog w = .ok (P.entEq k v n g k' v' n' g') w := by
  have hf := fieldsEntL
  rw [run_equalIn_struct w 9999 _ _ _ fieldsEnt stoodEnt]
  have hl := congrArg List.length hf
  generalize (Try.prog.fieldsOf 48).toList = fs at hf hl
  match fs, (by simpa using hl : fs.length = 4) with
  | [f0, f1, f2, f3], _ =>
    simp only [List.map_cons, List.map_nil, List.cons.injEq, Prod.mk.injEq, and_true, beq_eq_false_iff_ne] at hf
    obtain ⟨⟨n0, t0, o0⟩, ⟨n1, t1, o1⟩, ⟨n2, t2, o2⟩, n3, t3, o3⟩ := hf
    simp only [Op.eqFields, t0, t1, t2, t3, o0, o1, o2, o3]
    simp [go_sem, part, n0, n1, n2, n3]
    unfold P.entEq
    by_cases h : k = k' <;> by_cases h' : v = v' <;> by_cases h2 : n = n' <;> cases g <;> cases g' <;> simp [h, h', h2]
end Go.Proofs.Ytoaecmaphpnolaa
