/- The walks of calls: two calls, held against each other, field by field. -/
import Derived.Test.YtcobfoiajdbahaaDoorWQPx
namespace Go.Proofs.YtcobfoiajdbahaaDoor
open Go.RowKit
set_option linter.unusedVariables false
set_option linter.unusedSimpArgs false
/-- Are numbers and texts the same? (Not to be unfolded in a walk.) -/
def P.eqI (l m : List Int) (s t : List (List UInt8)) : Bool := decide (l = m) && decide (s = t)
theorem ite_okQ (p : Prop) [Decidable p] (b : Bool) (w : World) : (if p then Result.ok b w else Result.ok false w) = Result.ok (decide p && b) w := by
  by_cases h : p <;> simp [h]
theorem fieldsCall : Tryd.prog.underlying 28 = some (.struct (Tryd.prog.fieldsOf 28)) := by kernel_rfl
theorem fieldsCallL : (Tryd.prog.fieldsOf 28).toList.map (fun f => (f.name == "_", f.type, f.offset)) = [(false, 5, 0), (false, 5, 1), (false, 22, 2), (false, 26, 3), (false, 24, 7), (false, 9, 10), (false, 9, 11), (false, 22, 12), (false, 22, 13), (false, 3, 14)] := by kernel_rfl
theorem stoodCall : Tryd.prog.stoodInHeld 28 = false := by kernel_rfl
theorem guardCall : Tryd.prog.eqGuardType Tryd.prog.depth 28 = false := by kernel_rfl
set_option maxRecDepth 100000 in
set_option maxHeartbeats 4000000 in
theorem eq_Call (a0 b0 a1 b1 a2 b2 a3 b3 a4 b4 a5 b5 a6 b6 a7 b7 a8 b8 a9 b9 a12 b12 a13 b13 a14 b14 : Int) (a10 b10 a11 b11 : ByteArray) (w : World) : (Op.equalIn 10000 28 (.agg #[.int .u8 a0, .int .u8 a1, .int .u64 a2, .int .u8 a3, .int .u64 a4, .int .u64 a5, .int .i64 a6, .int .u8 a7, .int .u64 a8, .int .u64 a9, .string a10, .string a11, .int .u64 a12, .int .u64 a13, .int .i64 a14]) (.agg #[.int .u8 b0, .int .u8 b1, .int .u64 b2, .int .u8 b3, .int .u64 b4, .int .u64 b5, .int .i64 b6, .int .u8 b7, .int .u64 b8, .int .u64 b9, .string b10, .string b11, .int .u64 b12, .int .u64 b13, .int .i64 b14])).run Tryd.prog w = .ok (P.eqI [a0, a1, a2, a3, a4, a5, a6, a7, a8, a9, a12, a13, a14] [b0, b1, b2, b3, b4, b5, b6, b7, b8, b9, b12, b13, b14] [a10.toList, a11.toList] [b10.toList, b11.toList]) w := by
  have hf := fieldsCallL
  rw [run_equalIn_struct w 9999 _ _ _ fieldsCall stoodCall]
  have hl := congrArg List.length hf
  generalize (Tryd.prog.fieldsOf 28).toList = fs at hf hl
  match fs, (by simpa using hl : fs.length = 10) with
  | [f0, f1, f2, f3, f4, f5, f6, f7, f8, f9], _ =>
    simp only [List.map_cons, List.map_nil, List.cons.injEq, Prod.mk.injEq, and_true, beq_eq_false_iff_ne] at hf
    obtain ⟨⟨n0, t0, o0⟩, ⟨n1, t1, o1⟩, ⟨n2, t2, o2⟩, ⟨n3, t3, o3⟩, ⟨n4, t4, o4⟩, ⟨n5, t5, o5⟩, ⟨n6, t6, o6⟩, ⟨n7, t7, o7⟩, ⟨n8, t8, o8⟩, n9, t9, o9⟩ := hf
    simp only [Op.eqFields, t0, o0, t1, o1, t2, o2, t3, o3, t4, o4, t5, o5, t6, o6, t7, o7, t8, o8, t9, o9]
    simp [go_sem, part, n0, n1, n2, n3, n4, n5, n6, n7, n8, n9]
    simp only [ite_okQ]
    congr 1
    unfold P.eqI
    rw [Bool.eq_iff_iff]
    simp only [Bool.and_eq_true, decide_eq_true_eq, List.cons.injEq, and_true]
    try (constructor <;> (intro h; simp [h]))
theorem fieldsRefA : Tryd.prog.underlying 42 = some (.struct (Tryd.prog.fieldsOf 42)) := by kernel_rfl
theorem fieldsRefAL : (Tryd.prog.fieldsOf 42).toList.map (fun f => (f.name == "_", f.type, f.offset)) = [(false, 5, 0), (false, 22, 1), (false, 22, 2)] := by kernel_rfl
theorem stoodRefA : Tryd.prog.stoodInHeld 42 = false := by kernel_rfl
theorem guardRefA : Tryd.prog.eqGuardType Tryd.prog.depth 42 = false := by kernel_rfl
theorem fieldsRefX : Tryd.prog.underlying 44 = some (.struct (Tryd.prog.fieldsOf 44)) := by kernel_rfl
theorem fieldsRefXL : (Tryd.prog.fieldsOf 44).toList.map (fun f => (f.name == "_", f.type, f.offset)) = [(false, 42, 0), (false, 3, 3)] := by kernel_rfl
theorem stoodRefX : Tryd.prog.stoodInHeld 44 = false := by kernel_rfl
theorem guardRefX : Tryd.prog.eqGuardType Tryd.prog.depth 44 = false := by kernel_rfl
theorem fieldsRefCall : Tryd.prog.underlying 46 = some (.struct (Tryd.prog.fieldsOf 46)) := by kernel_rfl
theorem fieldsRefCallL : (Tryd.prog.fieldsOf 46).toList.map (fun f => (f.name == "_", f.type, f.offset)) = [(false, 5, 0), (false, 5, 1), (false, 22, 2), (false, 44, 3), (false, 42, 7), (false, 9, 10), (false, 9, 11), (false, 22, 12), (false, 22, 13), (false, 3, 14)] := by kernel_rfl
theorem stoodRefCall : Tryd.prog.stoodInHeld 46 = false := by kernel_rfl
theorem guardRefCall : Tryd.prog.eqGuardType Tryd.prog.depth 46 = false := by kernel_rfl
set_option maxRecDepth 100000 in
set_option maxHeartbeats 4000000 in
theorem eq_RefCall (a0 b0 a1 b1 a2 b2 a3 b3 a4 b4 a5 b5 a6 b6 a7 b7 a8 b8 a9 b9 a12 b12 a13 b13 a14 b14 : Int) (a10 b10 a11 b11 : ByteArray) (w : World) : (Op.equalIn 10000 46 (.agg #[.int .u8 a0, .int .u8 a1, .int .u64 a2, .int .u8 a3, .int .u64 a4, .int .u64 a5, .int .i64 a6, .int .u8 a7, .int .u64 a8, .int .u64 a9, .string a10, .string a11, .int .u64 a12, .int .u64 a13, .int .i64 a14]) (.agg #[.int .u8 b0, .int .u8 b1, .int .u64 b2, .int .u8 b3, .int .u64 b4, .int .u64 b5, .int .i64 b6, .int .u8 b7, .int .u64 b8, .int .u64 b9, .string b10, .string b11, .int .u64 b12, .int .u64 b13, .int .i64 b14])).run Tryd.prog w = .ok (P.eqI [a0, a1, a2, a3, a4, a5, a6, a7, a8, a9, a12, a13, a14] [b0, b1, b2, b3, b4, b5, b6, b7, b8, b9, b12, b13, b14] [a10.toList, a11.toList] [b10.toList, b11.toList]) w := by
  have hf := fieldsRefCallL
  rw [run_equalIn_struct w 9999 _ _ _ fieldsRefCall stoodRefCall]
  have hl := congrArg List.length hf
  generalize (Tryd.prog.fieldsOf 46).toList = fs at hf hl
  match fs, (by simpa using hl : fs.length = 10) with
  | [f0, f1, f2, f3, f4, f5, f6, f7, f8, f9], _ =>
    simp only [List.map_cons, List.map_nil, List.cons.injEq, Prod.mk.injEq, and_true, beq_eq_false_iff_ne] at hf
    obtain ⟨⟨n0, t0, o0⟩, ⟨n1, t1, o1⟩, ⟨n2, t2, o2⟩, ⟨n3, t3, o3⟩, ⟨n4, t4, o4⟩, ⟨n5, t5, o5⟩, ⟨n6, t6, o6⟩, ⟨n7, t7, o7⟩, ⟨n8, t8, o8⟩, n9, t9, o9⟩ := hf
    simp only [Op.eqFields, t0, o0, t1, o1, t2, o2, t3, o3, t4, o4, t5, o5, t6, o6, t7, o7, t8, o8, t9, o9]
    simp [go_sem, part, n0, n1, n2, n3, n4, n5, n6, n7, n8, n9]
    simp only [ite_okQ]
    congr 1
    unfold P.eqI
    rw [Bool.eq_iff_iff]
    simp only [Bool.and_eq_true, decide_eq_true_eq, List.cons.injEq, and_true]
    try (constructor <;> (intro h; simp [h]))
set_option maxRecDepth 100000 in
set_option maxHeartbeats 4000000 in
theorem eq_RefX (a0 b0 a1 b1 a2 b2 a3 b3 : Int) (w : World) : (Op.equalIn 10000 44 (.agg #[.int .u8 a0, .int .u64 a1, .int .u64 a2, .int .i64 a3]) (.agg #[.int .u8 b0, .int .u64 b1, .int .u64 b2, .int .i64 b3])).run Tryd.prog w = .ok (P.eqI [a0, a1, a2, a3] [b0, b1, b2, b3] [] []) w := by
  have hf := fieldsRefXL
  rw [run_equalIn_struct w 9999 _ _ _ fieldsRefX stoodRefX]
  have hl := congrArg List.length hf
  generalize (Tryd.prog.fieldsOf 44).toList = fs at hf hl
  match fs, (by simpa using hl : fs.length = 2) with
  | [f0, f1], _ =>
    simp only [List.map_cons, List.map_nil, List.cons.injEq, Prod.mk.injEq, and_true, beq_eq_false_iff_ne] at hf
    obtain ⟨⟨n0, t0, o0⟩, n1, t1, o1⟩ := hf
    simp only [Op.eqFields, t0, o0, t1, o1]
    simp [go_sem, part, n0, n1]
    simp only [ite_okQ]
    congr 1
    unfold P.eqI
    rw [Bool.eq_iff_iff]
    simp only [Bool.and_eq_true, decide_eq_true_eq, List.cons.injEq, and_true]
    try (constructor <;> (intro h; simp [h]))
set_option maxRecDepth 100000 in
set_option maxHeartbeats 4000000 in
theorem eq_RefA (a0 b0 a1 b1 a2 b2 : Int) (w : World) : (Op.equalIn 10000 42 (.agg #[.int .u8 a0, .int .u64 a1, .int .u64 a2]) (.agg #[.int .u8 b0, .int .u64 b1, .int .u64 b2])).run Tryd.prog w = .ok (P.eqI [a0, a1, a2] [b0, b1, b2] [] []) w := by
  have hf := fieldsRefAL
  rw [run_equalIn_struct w 9999 _ _ _ fieldsRefA stoodRefA]
  have hl := congrArg List.length hf
  generalize (Tryd.prog.fieldsOf 42).toList = fs at hf hl
  match fs, (by simpa using hl : fs.length = 3) with
  | [f0, f1, f2], _ =>
    simp only [List.map_cons, List.map_nil, List.cons.injEq, Prod.mk.injEq, and_true, beq_eq_false_iff_ne] at hf
    obtain ⟨⟨n0, t0, o0⟩, ⟨n1, t1, o1⟩, n2, t2, o2⟩ := hf
    simp only [Op.eqFields, t0, o0, t1, o1, t2, o2]
    simp [go_sem, part, n0, n1, n2]
    simp only [ite_okQ]
    congr 1
    unfold P.eqI
    rw [Bool.eq_iff_iff]
    simp only [Bool.and_eq_true, decide_eq_true_eq, List.cons.injEq, and_true]
    try (constructor <;> (intro h; simp [h]))
theorem fieldsRefL : Tryd.prog.underlying 57 = some (.struct (Tryd.prog.fieldsOf 57)) := by kernel_rfl
theorem fieldsRefLL : (Tryd.prog.fieldsOf 57).toList.map (fun f => (f.name == "_", f.type, f.offset)) = [(false, 42, 0), (false, 9, 3), (false, 22, 4)] := by kernel_rfl
theorem stoodRefL : Tryd.prog.stoodInHeld 57 = false := by kernel_rfl
theorem guardRefL : Tryd.prog.eqGuardType Tryd.prog.depth 57 = false := by kernel_rfl
set_option maxRecDepth 100000 in
set_option maxHeartbeats 4000000 in
theorem eq_RefL (a0 b0 a1 b1 a2 b2 a4 b4 : Int) (a3 b3 : ByteArray) (w : World) : (Op.equalIn 10000 57 (.agg #[.int .u8 a0, .int .u64 a1, .int .u64 a2, .string a3, .int .u64 a4]) (.agg #[.int .u8 b0, .int .u64 b1, .int .u64 b2, .string b3, .int .u64 b4])).run Tryd.prog w = .ok (P.eqI [a0, a1, a2, a4] [b0, b1, b2, b4] [a3.toList] [b3.toList]) w := by
  have hf := fieldsRefLL
  rw [run_equalIn_struct w 9999 _ _ _ fieldsRefL stoodRefL]
  have hl := congrArg List.length hf
  generalize (Tryd.prog.fieldsOf 57).toList = fs at hf hl
  match fs, (by simpa using hl : fs.length = 3) with
  | [f0, f1, f2], _ =>
    simp only [List.map_cons, List.map_nil, List.cons.injEq, Prod.mk.injEq, and_true, beq_eq_false_iff_ne] at hf
    obtain ⟨⟨n0, t0, o0⟩, ⟨n1, t1, o1⟩, n2, t2, o2⟩ := hf
    simp only [Op.eqFields, t0, o0, t1, o1, t2, o2]
    simp [go_sem, part, n0, n1, n2]
    simp only [ite_okQ]
    congr 1
    unfold P.eqI
    rw [Bool.eq_iff_iff]
    simp only [Bool.and_eq_true, decide_eq_true_eq, List.cons.injEq, and_true]
    try (constructor <;> (intro h; simp [h]))
theorem fieldsRefE : Tryd.prog.underlying 126 = some (.struct (Tryd.prog.fieldsOf 126)) := by kernel_rfl
theorem fieldsRefEL : (Tryd.prog.fieldsOf 126).toList.map (fun f => (f.name == "_", f.type, f.offset)) = [(false, 42, 0), (false, 3, 3), (false, 9, 4), (false, 22, 5), (false, 22, 6)] := by kernel_rfl
theorem stoodRefE : Tryd.prog.stoodInHeld 126 = false := by kernel_rfl
theorem guardRefE : Tryd.prog.eqGuardType Tryd.prog.depth 126 = false := by kernel_rfl
set_option maxRecDepth 100000 in
set_option maxHeartbeats 4000000 in
theorem eq_RefE (a0 b0 a1 b1 a2 b2 a3 b3 a5 b5 a6 b6 : Int) (a4 b4 : ByteArray) (w : World) : (Op.equalIn 10000 126 (.agg #[.int .u8 a0, .int .u64 a1, .int .u64 a2, .int .i64 a3, .string a4, .int .u64 a5, .int .u64 a6]) (.agg #[.int .u8 b0, .int .u64 b1, .int .u64 b2, .int .i64 b3, .string b4, .int .u64 b5, .int .u64 b6])).run Tryd.prog w = .ok (P.eqI [a0, a1, a2, a3, a5, a6] [b0, b1, b2, b3, b5, b6] [a4.toList] [b4.toList]) w := by
  have hf := fieldsRefEL
  rw [run_equalIn_struct w 9999 _ _ _ fieldsRefE stoodRefE]
  have hl := congrArg List.length hf
  generalize (Tryd.prog.fieldsOf 126).toList = fs at hf hl
  match fs, (by simpa using hl : fs.length = 5) with
  | [f0, f1, f2, f3, f4], _ =>
    simp only [List.map_cons, List.map_nil, List.cons.injEq, Prod.mk.injEq, and_true, beq_eq_false_iff_ne] at hf
    obtain ⟨⟨n0, t0, o0⟩, ⟨n1, t1, o1⟩, ⟨n2, t2, o2⟩, ⟨n3, t3, o3⟩, n4, t4, o4⟩ := hf
    simp only [Op.eqFields, t0, o0, t1, o1, t2, o2, t3, o3, t4, o4]
    simp [go_sem, part, n0, n1, n2, n3, n4]
    simp only [ite_okQ]
    congr 1
    unfold P.eqI
    rw [Bool.eq_iff_iff]
    simp only [Bool.and_eq_true, decide_eq_true_eq, List.cons.injEq, and_true]
    try (constructor <;> (intro h; simp [h]))
theorem Bx.cells15 {w : World} {g : Nat} {t : TypeId} {a0 a1 a2 a3 a4 a5 a6 a7 a8 a9 a10 a11 a12 a13 a14 : Value} (h : Bx w g t #[a0, a1, a2, a3, a4, a5, a6, a7, a8, a9, a10, a11, a12, a13, a14]) :
    (w.cell? ⟨g, 0, none⟩ = some a0 ∧ w.cell? ⟨g, 1, none⟩ = some a1 ∧ w.cell? ⟨g, 2, none⟩ = some a2 ∧ w.cell? ⟨g, 3, none⟩ = some a3 ∧ w.cell? ⟨g, 4, none⟩ = some a4 ∧ w.cell? ⟨g, 5, none⟩ = some a5 ∧ w.cell? ⟨g, 6, none⟩ = some a6 ∧ w.cell? ⟨g, 7, none⟩ = some a7 ∧ w.cell? ⟨g, 8, none⟩ = some a8 ∧ w.cell? ⟨g, 9, none⟩ = some a9 ∧ w.cell? ⟨g, 10, none⟩ = some a10 ∧ w.cell? ⟨g, 11, none⟩ = some a11 ∧ w.cell? ⟨g, 12, none⟩ = some a12 ∧ w.cell? ⟨g, 13, none⟩ = some a13 ∧ w.cell? ⟨g, 14, none⟩ = some a14) ∧ (w.frozen? ⟨g, 0, none⟩ = false ∧ w.frozen? ⟨g, 1, none⟩ = false ∧ w.frozen? ⟨g, 2, none⟩ = false ∧ w.frozen? ⟨g, 3, none⟩ = false ∧ w.frozen? ⟨g, 4, none⟩ = false ∧ w.frozen? ⟨g, 5, none⟩ = false ∧ w.frozen? ⟨g, 6, none⟩ = false ∧ w.frozen? ⟨g, 7, none⟩ = false ∧ w.frozen? ⟨g, 8, none⟩ = false ∧ w.frozen? ⟨g, 9, none⟩ = false ∧ w.frozen? ⟨g, 10, none⟩ = false ∧ w.frozen? ⟨g, 11, none⟩ = false ∧ w.frozen? ⟨g, 12, none⟩ = false ∧ w.frozen? ⟨g, 13, none⟩ = false ∧ w.frozen? ⟨g, 14, none⟩ = false) :=
  ⟨⟨h.cell 0, h.cell 1, h.cell 2, h.cell 3, h.cell 4, h.cell 5, h.cell 6, h.cell 7, h.cell 8, h.cell 9, h.cell 10, h.cell 11, h.cell 12, h.cell 13, h.cell 14⟩, h.frozen 0, h.frozen 1, h.frozen 2, h.frozen 3, h.frozen 4, h.frozen 5, h.frozen 6, h.frozen 7, h.frozen 8, h.frozen 9, h.frozen 10, h.frozen 11, h.frozen 12, h.frozen 13, h.frozen 14⟩
end Go.Proofs.YtcobfoiajdbahaaDoor
