/- ProtoBack: a request is read as it was written, and as nothing else: cut anywhere, or with anything behind it, it is none. The walk of the law. -/
import Derived.Test.YtcobfoiajdbahaaDoorWQAwake
import Derived.Test.YtcobfoiajdbahaaDoorOpenR
import Derived.Test.YtcobfoiajdbahaaDoorWQWr
import Derived.Lib.SmallJoins

namespace Go.Proofs.YtcobfoiajdbahaaDoor
open Go.RowKit
set_option linter.unusedVariables false
set_option linter.unusedSimpArgs false
abbrev noAnV : Value := .agg #[.int .u8 0, .int .u64 0, .int .u64 0, .string ⟨#[]⟩, .int .u64 0, .int .u8 0, .int .u64 0, .int .u64 0, .int .i64 0, .bool false, .bool false, .bool false, .int .u64 0, .slice none 0 0, .slice none 0 0, .slice none 0 0]
def P.greatC (x : P.Ca) : Bool := decide (2000 < x.owner.length) || decide (2000 < x.to.length)
theorem P.greatC_no {x : P.Ca} (h : P.greatC x = false) : x.owner.length ≤ 2000 ∧ x.to.length ≤ 2000 := by
  unfold P.greatC at h
  simp only [Bool.or_eq_false_iff, decide_eq_false_iff_not] at h
  omega
set_option maxRecDepth 100000 in
set_option maxHeartbeats 8000000 in
theorem greatC_any (x : P.Ca) (ho : x.owner.length ≤ 9223372036854775807) (hto : x.to.length ≤ 9223372036854775807) (w : World) :
    Calls Tryd.prog 11 #[caV x, noAnV] w fun e w' => e = .returned (.bool (P.greatC x)) ∧ Below w.heap.size w w' := by
  obtain ⟨h1, h2, hA⟩ := two_bx w #[.int .u8 (x.op : Nat), .int .u8 (x.client : Nat), V64 x.number, .int .u8 (x.p.a.fam : Nat), V64 x.p.a.hi, V64 x.p.a.lo, .int .i64 x.p.bits, .int .u8 (x.a.fam : Nat), V64 x.a.hi, V64 x.a.lo, S x.owner, S x.to, V64 x.d, V64 x.fr, .int .i64 x.n] #[.int .u8 0, .int .u64 0, .int .u64 0, .string ⟨#[]⟩, .int .u64 0, .int .u8 0, .int .u64 0, .int .u64 0, .int .i64 0, .bool false, .bool false, .bool false, .int .u64 0, .slice none 0 0, .slice none 0 0, .slice none 0 0] 28 36
  have hre : P.greatC x = (decide (2000 < x.owner.length) || decide (2000 < x.to.length)) := rfl
  by_cases ha : 2000 < x.owner.length
  · have hi : (2000 : Int) < (x.owner.length : Int) := by omega
    have hg : P.greatC x = true := by rw [hre, decide_eq_true ha]; rfl
    have Hg := Lib.hid hg
    clear hg hre ha
    go_enter Tryd.func11, Tryd.ntmps11
    go_upto_region 1 with fail
    generalize hW : (w.alloc (.cells #[.int .u8 (x.op : Nat), .int .u8 (x.client : Nat), V64 x.number, .int .u8 (x.p.a.fam : Nat), V64 x.p.a.hi, V64 x.p.a.lo, .int .i64 x.p.bits, .int .u8 (x.a.fam : Nat), V64 x.a.hi, V64 x.a.lo, S x.owner, S x.to, V64 x.d, V64 x.fr, .int .i64 x.n] 28)).alloc (.cells #[.int .u8 0, .int .u64 0, .int .u64 0, .string ⟨#[]⟩, .int .u64 0, .int .u8 0, .int .u64 0, .int .u64 0, .int .i64 0, .bool false, .bool false, .bool false, .int .u64 0, .slice none 0 0, .slice none 0 0, .slice none 0 0] 36) = w2 at *
    clear hW
    obtain ⟨⟨c0, c1, c2, c3, c4, c5, c6, c7, c8, c9, c10, c11, c12, c13, c14⟩, -⟩ := h1.cells15
    obtain ⟨⟨a0, a1, a2, a3, a4, a5, a6, a7, a8, a9, a10, a11, a12, a13, a14, a15⟩, -⟩ := h2.cells16
    go_wp2_with fail
    all_goals (go_ret; exact ⟨by rw [Hg.out]; rfl, hA⟩)
  · have hi : ¬ (2000 : Int) < (x.owner.length : Int) := by omega
    by_cases hb : 2000 < x.to.length
    · have hj : (2000 : Int) < (x.to.length : Int) := by omega
      have hg : P.greatC x = true := by rw [hre, decide_eq_false ha, decide_eq_true hb]; rfl
      have Hg := Lib.hid hg
      clear hg hre ha hb
      go_enter Tryd.func11, Tryd.ntmps11
      go_upto_region 1 with fail
      generalize hW : (w.alloc (.cells #[.int .u8 (x.op : Nat), .int .u8 (x.client : Nat), V64 x.number, .int .u8 (x.p.a.fam : Nat), V64 x.p.a.hi, V64 x.p.a.lo, .int .i64 x.p.bits, .int .u8 (x.a.fam : Nat), V64 x.a.hi, V64 x.a.lo, S x.owner, S x.to, V64 x.d, V64 x.fr, .int .i64 x.n] 28)).alloc (.cells #[.int .u8 0, .int .u64 0, .int .u64 0, .string ⟨#[]⟩, .int .u64 0, .int .u8 0, .int .u64 0, .int .u64 0, .int .i64 0, .bool false, .bool false, .bool false, .int .u64 0, .slice none 0 0, .slice none 0 0, .slice none 0 0] 36) = w2 at *
      clear hW
      obtain ⟨⟨c0, c1, c2, c3, c4, c5, c6, c7, c8, c9, c10, c11, c12, c13, c14⟩, -⟩ := h1.cells15
      obtain ⟨⟨a0, a1, a2, a3, a4, a5, a6, a7, a8, a9, a10, a11, a12, a13, a14, a15⟩, -⟩ := h2.cells16
      go_wp2_with fail
      all_goals (go_ret; exact ⟨by rw [Hg.out]; rfl, hA⟩)
    · have hj : ¬ (2000 : Int) < (x.to.length : Int) := by omega
      have hg : P.greatC x = false := by rw [hre, decide_eq_false ha, decide_eq_false hb]; rfl
      have Hg := Lib.hid hg
      clear hg hre ha hb
      go_enter Tryd.func11, Tryd.ntmps11
      go_upto_region 1 with fail
      generalize hW : (w.alloc (.cells #[.int .u8 (x.op : Nat), .int .u8 (x.client : Nat), V64 x.number, .int .u8 (x.p.a.fam : Nat), V64 x.p.a.hi, V64 x.p.a.lo, .int .i64 x.p.bits, .int .u8 (x.a.fam : Nat), V64 x.a.hi, V64 x.a.lo, S x.owner, S x.to, V64 x.d, V64 x.fr, .int .i64 x.n] 28)).alloc (.cells #[.int .u8 0, .int .u64 0, .int .u64 0, .string ⟨#[]⟩, .int .u64 0, .int .u8 0, .int .u64 0, .int .u64 0, .int .i64 0, .bool false, .bool false, .bool false, .int .u64 0, .slice none 0 0, .slice none 0 0, .slice none 0 0] 36) = w2 at *
      clear hW
      obtain ⟨⟨c0, c1, c2, c3, c4, c5, c6, c7, c8, c9, c10, c11, c12, c13, c14⟩, -⟩ := h1.cells15
      obtain ⟨⟨a0, a1, a2, a3, a4, a5, a6, a7, a8, a9, a10, a11, a12, a13, a14, a15⟩, -⟩ := h2.cells16
      go_wp2_with fail
      go_loopw [5] (fun i wr => i = .int .i64 0 ∧ Bx wr (w.heap.size + 1) 36 #[.int .u8 0, .int .u64 0, .int .u64 0, .string ⟨#[]⟩, .int .u64 0, .int .u8 0, .int .u64 0, .int .u64 0, .int .i64 0, .bool false, .bool false, .bool false, .int .u64 0, .slice none 0 0, .slice none 0 0, .slice none 0 0] ∧ Below w.heap.size w wr) (fun _ _ => 0)
      case atStart => exact ⟨rfl, h2, hA⟩
      case round =>
        clear a0 a1 a2 a3 a4 a5 a6 a7 a8 a9 a10 a11 a12 a13 a14 a15 h2 hA
        obtain ⟨rfl, h2, hA⟩ := hrel
        obtain ⟨⟨a0, a1, a2, a3, a4, a5, a6, a7, a8, a9, a10, a11, a12, a13, a14, a15⟩, -⟩ := h2.cells16
        go_wp2_with fail
        go_loopw [6] (fun i wr => i = .int .i64 0 ∧ Bx wr (w.heap.size + 1) 36 #[.int .u8 0, .int .u64 0, .int .u64 0, .string ⟨#[]⟩, .int .u64 0, .int .u8 0, .int .u64 0, .int .u64 0, .int .i64 0, .bool false, .bool false, .bool false, .int .u64 0, .slice none 0 0, .slice none 0 0, .slice none 0 0] ∧ Below w.heap.size w wr) (fun _ _ => 0)
        case atStart => exact ⟨rfl, h2, hA⟩
        case round =>
          clear a0 a1 a2 a3 a4 a5 a6 a7 a8 a9 a10 a11 a12 a13 a14 a15 h2 hA
          obtain ⟨rfl, h2, hA⟩ := hrel
          obtain ⟨⟨a0, a1, a2, a3, a4, a5, a6, a7, a8, a9, a10, a11, a12, a13, a14, a15⟩, -⟩ := h2.cells16
          go_wp2_with fail
          go_ret
          exact ⟨by rw [Hg.out]; rfl, hA⟩
theorem str_takeN (s : List UInt8) (m : Nat) : (ByteArray.mk s.toArray).extract 0 m = ⟨(s.take m).toArray⟩ := by
  rw [ByteArray.extract_mk, List.drop_zero, Nat.sub_zero]
theorem P.eqI_self (l : List Int) (s : List (List UInt8)) : P.eqI l l s s = true := by unfold P.eqI; simp
theorem P.read_cut {d : P.Ca} (h : P.rightC d = true) (ht : P.tyC d) (k : Nat) (hk : k < (P.bytesC d).length) : P.readOk ((P.bytesC d).take k) = false := by
  cases hq : P.readOk ((P.bytesC d).take k) with
  | false => rfl
  | true =>
    obtain ⟨r1, r2⟩ := P.read_is hq
    have e : P.bytesC d = P.bytesC (P.readC ((P.bytesC d).take k)) ++ (P.bytesC d).drop k := by rw [r2, List.take_append_drop]
    have h1 := (P.read_app r1 (P.readC_ty _).1 ((P.bytesC d).drop k)).1
    rw [← e, (P.read_right h ht).1] at h1
    have h2 : (P.bytesC d).drop k = [] := by simpa using h1.symm
    have h3 := congrArg List.length h2
    rw [List.length_drop] at h3
    simp at h3
    omega
end Go.Proofs.YtcobfoiajdbahaaDoor

namespace Go.Proofs.YtcobfoiajdbahaaDoor
open Go.RowKit Go.ChangeShapes Go.WideShapes Go.Deep Go.Joins

theorem u64_bdQ {x : Int} (h : (Lit.int .u64 x).wf = true) : 0 ≤ x ∧ x < 18446744073709551616 := by
  simp [Lit.wf, IntKind.min, IntKind.max, IntKind.signed, IntKind.bits] at h
  omega
theorem u8_bdQ {z : Int} (h : (Lit.int .u8 z).wf = true) : 0 ≤ z ∧ z < 256 := by
  simp [Lit.wf, IntKind.min, IntKind.max, IntKind.signed, IntKind.bits] at h
  omega
theorem i64_bdQ {x : Int} (h : (Lit.int .i64 x).wf = true) : -9223372036854775808 ≤ x ∧ x ≤ 9223372036854775807 := by
  simp [Lit.wf, IntKind.min, IntKind.max, IntKind.signed, IntKind.bits] at h
  omega
section
variable {H : Type} {enc : TypeId × Value → H} {W : World} {base : Nat} {sp : Nat → Bool} {held : Bool}
theorem cell_u8 {n : Nat} {u : Value} {y : DataW H × List MemPlace} (h : DataW.trod enc Tryd.prog W base sp held n 5 [u] = some y) : ∃ q : Nat, q < 256 ∧ u = .int .u8 (q : Int) := by
  obtain ⟨z, e, _, b⟩ := DataW.trod_int Tryd.underlying5 h
  have hb := u8_bdQ b
  exact ⟨z.toNat, by omega, by rw [show ((z.toNat : Nat) : Int) = z by omega]; simpa using e⟩
theorem cell_u64 {n : Nat} {u : Value} {y : DataW H × List MemPlace} (h : DataW.trod enc Tryd.prog W base sp held n 22 [u] = some y) : ∃ q : Nat, q < 18446744073709551616 ∧ u = V64 q := by
  obtain ⟨z, e, _, b⟩ := DataW.trod_int Tryd.underlying22 h
  have hb := u64_bdQ b
  exact ⟨z.toNat, by omega, by show u = .int .u64 _; rw [show ((z.toNat : Nat) : Int) = z by omega]; simpa using e⟩
theorem cell_int {n : Nat} {u : Value} {y : DataW H × List MemPlace} (h : DataW.trod enc Tryd.prog W base sp held n 3 [u] = some y) : ∃ z : Int, (-9223372036854775808 ≤ z ∧ z ≤ 9223372036854775807) ∧ u = .int .i64 z := by
  obtain ⟨z, e, _, b⟩ := DataW.trod_int Tryd.underlying3 h
  exact ⟨z, i64_bdQ b, by simpa using e⟩
theorem cell_str {n : Nat} {u : Value} {y : DataW H × List MemPlace} (h : DataW.trod enc Tryd.prog W base sp held n 9 [u] = some y) : ∃ s : List UInt8, s.length ≤ 9223372036854775807 ∧ u = S s := by
  obtain ⟨⟨⟨s⟩⟩, e, _, b⟩ := DataW.trod_string Tryd.underlying9 h
  exact ⟨s, by have h := b; unfold maxLen at h; exact h, by simpa using e⟩
set_option maxRecDepth 100000 in
theorem cells_ad {n : Nat} {a b c : Value} {y : DataW H × List MemPlace} (h : DataW.trod enc Tryd.prog W base sp held n 24 [a, b, c] = some y) : ∃ x : P.Ad, P.tyA x ∧ a = .int .u8 (x.fam : Nat) ∧ b = V64 x.hi ∧ c = V64 x.lo := by
  obtain ⟨ys, n', _, _, _, hyl, hfl⟩ := DataW.trod_struct (show Tryd.prog.underlying 24 = some (.struct (Tryd.prog.fieldsOf 24)) by kernel_rfl) h
  have g0 := hfl 0 _ rfl
  have g1 := hfl 1 _ rfl
  have g2 := hfl 2 _ rfl
  have hy : ys.length = 3 := hyl
  obtain ⟨q0, q1, q2, rfl⟩ : ∃ q0 q1 q2, ys = [q0, q1, q2] := by
    match ys, hy with
    | [q0, q1, q2], _ => exact ⟨q0, q1, q2, rfl⟩
  have g0 : DataW.trod enc Tryd.prog W base sp held n' 5 [a] = some q0 := g0
  have g1 : DataW.trod enc Tryd.prog W base sp held n' 22 [b] = some q1 := g1
  have g2 : DataW.trod enc Tryd.prog W base sp held n' 22 [c] = some q2 := g2
  obtain ⟨f, hf, e0⟩ := cell_u8 g0
  obtain ⟨i, hi, e1⟩ := cell_u64 g1
  obtain ⟨l, hl, e2⟩ := cell_u64 g2
  exact ⟨⟨f, i, l⟩, ⟨hf, hi, hl⟩, e0, e1, e2⟩
set_option maxRecDepth 100000 in
theorem cells_px {n : Nat} {a b c d : Value} {y : DataW H × List MemPlace} (h : DataW.trod enc Tryd.prog W base sp held n 26 [a, b, c, d] = some y) : ∃ x : P.Px, P.tyX x ∧ a = .int .u8 (x.a.fam : Nat) ∧ b = V64 x.a.hi ∧ c = V64 x.a.lo ∧ d = .int .i64 x.bits := by
  obtain ⟨ys, n', _, _, _, hyl, hfl⟩ := DataW.trod_struct (show Tryd.prog.underlying 26 = some (.struct (Tryd.prog.fieldsOf 26)) by kernel_rfl) h
  have g0 := hfl 0 _ rfl
  have g1 := hfl 1 _ rfl
  have hy : ys.length = 2 := hyl
  obtain ⟨q0, q1, rfl⟩ : ∃ q0 q1, ys = [q0, q1] := by
    match ys, hy with
    | [q0, q1], _ => exact ⟨q0, q1, rfl⟩
  have g0 : DataW.trod enc Tryd.prog W base sp held n' 24 [a, b, c] = some q0 := g0
  have g1 : DataW.trod enc Tryd.prog W base sp held n' 3 [d] = some q1 := g1
  obtain ⟨x, hx, e0, e1, e2⟩ := cells_ad g0
  obtain ⟨z, hz, e3⟩ := cell_int g1
  exact ⟨⟨x, z⟩, ⟨hx, hz.1, hz.2⟩, e0, e1, e2, e3⟩
end
set_option maxRecDepth 100000 in
/-- A call's reading. -/
theorem open_call {H : Type} {enc : TypeId × Value → H} {W : World} {base b0 : Nat} {r : Reach} {sp : Nat → Bool} {held : Bool} {v : Value} {d : DataW H} {p : List MemPlace}
    (hv : Value.okWide Tryd.prog W r b0 28 v) (h : DataW.Trod enc Tryd.prog W base sp held 28 v d p) :
    ∃ x : P.Ca, v = caV x ∧ P.tyC x ∧ x.owner.length ≤ 9223372036854775807 ∧ x.to.length ≤ 9223372036854775807 := by
  have hs : Tryd.prog.underlying 28 = some (.struct (Tryd.prog.fieldsOf 28)) := by kernel_rfl
  have hC : Tryd.prog.cellsOf 28 = 15 := by kernel_rfl
  obtain ⟨cs, rfl, hsz⟩ := okWide_struct hs hv
  obtain ⟨fuel, hf⟩ := h
  obtain ⟨ys, n, _, _, _, hyl, hfl⟩ := DataW.trod_struct hs hf
  have hcl : cs.toList.length = 15 := by rw [hC] at hsz; simpa using hsz
  obtain ⟨v0, v1, v2, v3, v4, v5, v6, v7, v8, v9, v10, v11, v12, v13, v14, hcs⟩ : ∃ v0 v1 v2 v3 v4 v5 v6 v7 v8 v9 v10 v11 v12 v13 v14, cs.toList = [v0, v1, v2, v3, v4, v5, v6, v7, v8, v9, v10, v11, v12, v13, v14] := by
    match cs.toList, hcl with
    | [v0, v1, v2, v3, v4, v5, v6, v7, v8, v9, v10, v11, v12, v13, v14], _ => exact ⟨v0, v1, v2, v3, v4, v5, v6, v7, v8, v9, v10, v11, v12, v13, v14, rfl⟩
  obtain rfl : cs = #[v0, v1, v2, v3, v4, v5, v6, v7, v8, v9, v10, v11, v12, v13, v14] := by rw [← Array.toArray_toList (xs := cs), hcs]
  clear hcs hcl hsz
  have hy : ys.length = 10 := hyl
  obtain ⟨q0, q1, q2, q3, q4, q5, q6, q7, q8, q9, rfl⟩ : ∃ q0 q1 q2 q3 q4 q5 q6 q7 q8 q9, ys = [q0, q1, q2, q3, q4, q5, q6, q7, q8, q9] := by
    match ys, hy with
    | [q0, q1, q2, q3, q4, q5, q6, q7, q8, q9], _ => exact ⟨q0, q1, q2, q3, q4, q5, q6, q7, q8, q9, rfl⟩
  have g0 : DataW.trod enc Tryd.prog W base sp held n 5 [v0] = some q0 := hfl 0 _ rfl
  have g1 : DataW.trod enc Tryd.prog W base sp held n 5 [v1] = some q1 := hfl 1 _ rfl
  have g2 : DataW.trod enc Tryd.prog W base sp held n 22 [v2] = some q2 := hfl 2 _ rfl
  have g3 : DataW.trod enc Tryd.prog W base sp held n 26 [v3, v4, v5, v6] = some q3 := hfl 3 _ rfl
  have g4 : DataW.trod enc Tryd.prog W base sp held n 24 [v7, v8, v9] = some q4 := hfl 4 _ rfl
  have g5 : DataW.trod enc Tryd.prog W base sp held n 9 [v10] = some q5 := hfl 5 _ rfl
  have g6 : DataW.trod enc Tryd.prog W base sp held n 9 [v11] = some q6 := hfl 6 _ rfl
  have g7 : DataW.trod enc Tryd.prog W base sp held n 22 [v12] = some q7 := hfl 7 _ rfl
  have g8 : DataW.trod enc Tryd.prog W base sp held n 22 [v13] = some q8 := hfl 8 _ rfl
  have g9 : DataW.trod enc Tryd.prog W base sp held n 3 [v14] = some q9 := hfl 9 _ rfl
  obtain ⟨op, h0, rfl⟩ := cell_u8 g0
  obtain ⟨cl, h1, rfl⟩ := cell_u8 g1
  obtain ⟨nu, h2, rfl⟩ := cell_u64 g2
  obtain ⟨px, h3, rfl, rfl, rfl, rfl⟩ := cells_px g3
  obtain ⟨ad, h4, rfl, rfl, rfl⟩ := cells_ad g4
  obtain ⟨o, h5, rfl⟩ := cell_str g5
  obtain ⟨t, h6, rfl⟩ := cell_str g6
  obtain ⟨d', h7, rfl⟩ := cell_u64 g7
  obtain ⟨f, h8, rfl⟩ := cell_u64 g8
  obtain ⟨z, h9, rfl⟩ := cell_int g9
  exact ⟨⟨op, cl, nu, px, ad, o, t, d', f, z⟩, rfl, ⟨h0, h1, h2, h3, h4, h7, h8, h9.1, h9.2⟩, h5, h6⟩
end Go.Proofs.YtcobfoiajdbahaaDoor

namespace Go.Proofs.YtcobfoiajdbahaaDoor
open Go.RowKit
set_option linter.unusedVariables false
set_option linter.unusedSimpArgs false
attribute [local go_sem high] eq_Call guardCall P.eqI_self
set_option maxRecDepth 100000 in
set_option maxHeartbeats 8000000 in
theorem back_great (x : P.Ca) (z : Nat) (t : List UInt8) (w : World) (ht : P.tyC x) (ho : x.owner.length ≤ 9223372036854775807) (hto : x.to.length ≤ 9223372036854775807) (hz : z < 65536) (hg : P.greatC x = true ∨ 100 < t.length) (hu : UsesOk w) :
    Calls Tryd.prog 7 #[caV x, .int .u16 (z : Int), S t] w fun e w' => e = .returned (.bool true) ∧ Below w.heap.size w w' := by
  have hbx := Bx.fresh w 28 #[.int .u8 (x.op : Nat), .int .u8 (x.client : Nat), V64 x.number, .int .u8 (x.p.a.fam : Nat), V64 x.p.a.hi, V64 x.p.a.lo, .int .i64 x.p.bits, .int .u8 (x.a.fam : Nat), V64 x.a.hi, V64 x.a.lo, S x.owner, S x.to, V64 x.d, V64 x.fr, .int .i64 x.n]
  have hA := (Below.refl w.heap.size w).alloc (Nat.le_refl _) (.cells #[.int .u8 (x.op : Nat), .int .u8 (x.client : Nat), V64 x.number, .int .u8 (x.p.a.fam : Nat), V64 x.p.a.hi, V64 x.p.a.lo, .int .i64 x.p.bits, .int .u8 (x.a.fam : Nat), V64 x.a.hi, V64 x.a.lo, S x.owner, S x.to, V64 x.d, V64 x.fr, .int .i64 x.n] 28)
  have HG := Lib.hid (fun wx => greatC_any x (by omega) (by omega) wx)
  cases hgr : P.greatC x with
  | true =>
    rw [hgr] at HG
    clear hg hgr
    go_enter Tryd.func7, Tryd.ntmps7
    go_wp2_with (first
      | (refine wpList_ldB (by rfl) _ _ (by rfl) hbx (by rfl) structCall 15 infoCall (by rfl) ?_)
      | (go_at_call 11; (with_reducible refine (HG.out _).mono ?_); rintro e w1 ⟨rfl, hb1⟩; have hc1 := Chain.up hA hb1; have hbx1 := hbx.up hb1)
      | (go_at_call 12; (with_reducible refine (awake_any _ (hu.up hc1)).mono ?_); rintro e w2 ⟨rfl, hb2⟩; have hc2 := Chain.up hc1 hb2))
    go_ret
    exact ⟨rfl, hc2⟩
  | false =>
    have hl : (100 : Int) < (t.length : Int) := by rcases hg with h | h; (rw [hgr] at h; cases h); omega
    rw [hgr] at HG
    clear hg hgr
    go_enter Tryd.func7, Tryd.ntmps7
    go_wp2_with (first
      | (refine wpList_ldB (by rfl) _ _ (by rfl) hbx (by rfl) structCall 15 infoCall (by rfl) ?_)
      | (go_at_call 11; (with_reducible refine (HG.out _).mono ?_); rintro e w1 ⟨rfl, hb1⟩; have hc1 := Chain.up hA hb1; have hbx1 := hbx.up hb1)
      | (go_at_call 12; (with_reducible refine (awake_any _ (hu.up hc1)).mono ?_); rintro e w2 ⟨rfl, hb2⟩; have hc2 := Chain.up hc1 hb2))
    go_ret
    exact ⟨rfl, hc2⟩
set_option maxRecDepth 100000 in
set_option maxHeartbeats 8000000 in
theorem back_not (x : P.Ca) (z : Nat) (t : List UInt8) (w : World) (ht : P.tyC x) (ho : x.owner.length ≤ 9223372036854775807) (hto : x.to.length ≤ 9223372036854775807) (hz : z < 65536) (hg : P.greatC x = false) (hl : t.length ≤ 100) (hr : P.rightC x = false) (hu : UsesOk w) :
    Calls Tryd.prog 7 #[caV x, .int .u16 (z : Int), S t] w fun e w' => e = .returned (.bool true) ∧ Below w.heap.size w w' := by
  have hbx := Bx.fresh w 28 #[.int .u8 (x.op : Nat), .int .u8 (x.client : Nat), V64 x.number, .int .u8 (x.p.a.fam : Nat), V64 x.p.a.hi, V64 x.p.a.lo, .int .i64 x.p.bits, .int .u8 (x.a.fam : Nat), V64 x.a.hi, V64 x.a.lo, S x.owner, S x.to, V64 x.d, V64 x.fr, .int .i64 x.n]
  have hA := (Below.refl w.heap.size w).alloc (Nat.le_refl _) (.cells #[.int .u8 (x.op : Nat), .int .u8 (x.client : Nat), V64 x.number, .int .u8 (x.p.a.fam : Nat), V64 x.p.a.hi, V64 x.p.a.lo, .int .i64 x.p.bits, .int .u8 (x.a.fam : Nat), V64 x.a.hi, V64 x.a.lo, S x.owner, S x.to, V64 x.d, V64 x.fr, .int .i64 x.n] 28)
  have HG := Lib.hid (fun wx => greatC_any x (by omega) (by omega) wx)
  have hsh := P.greatC_no hg
  have HW := Lib.hid (fun wx (hu : UsesOk wx) => write_any x ht (by omega) (by omega) wx hu)
  have HR := Lib.hid (fun wx => right_any x ht (by omega) (by omega) wx)
  rw [hr] at HW HR
  rw [if_neg (by simp)] at HW
  rw [hg] at HG
  have hli : ¬ (100 : Int) < (t.length : Int) := by omega
  clear hg hr hl hsh
  go_enter Tryd.func7, Tryd.ntmps7
  go_wp2_with (first
    | (refine wpList_ldB (by rfl) _ _ (by rfl) hbx (by rfl) structCall 15 infoCall (by rfl) ?_)
    | (go_at_call 11; (with_reducible refine (HG.out _).mono ?_); rintro e w1 ⟨rfl, hb1⟩; have hc1 := Chain.up hA hb1; have hbx1 := hbx.up hb1)
    | (refine wpList_ldB (by rfl) _ _ (by rfl) hbx1 (by rfl) structCall 15 infoCall (by rfl) ?_)
    | (go_at_call 13; (with_reducible refine (HW.out _ (hu.up hc1)).mono ?_); rintro e w2 ⟨rfl, hb2⟩; have hc2 := Chain.up hc1 hb2; have hbx2 := hbx1.up hb2; obtain ⟨⟨c0, c1, c2, c3, c4, c5, c6, c7, c8, c9, c10, c11, c12, c13, c14⟩, -⟩ := hbx2.cells15)
    | (go_at_call 27; (with_reducible refine (HR.out _).mono ?_); rintro e w3 ⟨rfl, hb3⟩; have hc3 := Chain.up hc2 hb3)
    | (go_at_call 12; (with_reducible refine (awake_any _ (hu.up hc3)).mono ?_); rintro e w4 ⟨rfl, hb4⟩; have hc4 := Chain.up hc3 hb4))
  go_ret
  exact ⟨rfl, hc4⟩
set_option maxRecDepth 100000 in
set_option maxHeartbeats 8000000 in
theorem back_ok (x : P.Ca) (z : Nat) (t : List UInt8) (w : World) (ht : P.tyC x) (ho : x.owner.length ≤ 9223372036854775807) (hto : x.to.length ≤ 9223372036854775807) (hz : z < 65536) (hg : P.greatC x = false) (hl : t.length ≤ 100) (hr : P.rightC x = true) (hu : UsesOk w) :
    Calls Tryd.prog 7 #[caV x, .int .u16 (z : Int), S t] w fun e w' => e = .returned (.bool true) ∧ Below w.heap.size w w' := by
  have hbx := Bx.fresh w 28 #[.int .u8 (x.op : Nat), .int .u8 (x.client : Nat), V64 x.number, .int .u8 (x.p.a.fam : Nat), V64 x.p.a.hi, V64 x.p.a.lo, .int .i64 x.p.bits, .int .u8 (x.a.fam : Nat), V64 x.a.hi, V64 x.a.lo, S x.owner, S x.to, V64 x.d, V64 x.fr, .int .i64 x.n]
  have hA := (Below.refl w.heap.size w).alloc (Nat.le_refl _) (.cells #[.int .u8 (x.op : Nat), .int .u8 (x.client : Nat), V64 x.number, .int .u8 (x.p.a.fam : Nat), V64 x.p.a.hi, V64 x.p.a.lo, .int .i64 x.p.bits, .int .u8 (x.a.fam : Nat), V64 x.a.hi, V64 x.a.lo, S x.owner, S x.to, V64 x.d, V64 x.fr, .int .i64 x.n] 28)
  have HG := Lib.hid (fun wx => greatC_any x (by omega) (by omega) wx)
  have hsh := P.greatC_no hg
  have HW := Lib.hid (fun wx (hu : UsesOk wx) => write_any x ht (by omega) (by omega) wx hu)
  have HR := Lib.hid (fun wx => right_any x ht (by omega) (by omega) wx)
  have hlen : (P.bytesC x).length ≤ 430 := by
    have h := P.fsB_len x hr 7 (by omega)
    unfold P.bytesC
    rw [List.length_append, P.headB_len]
    omega
  have hlen0 : 10 ≤ (P.bytesC x).length := by unfold P.bytesC; rw [List.length_append, P.headB_len]; omega
  have hm : z % (P.bytesC x).length < (P.bytesC x).length := Nat.mod_lt _ (by omega)
  have r1 := P.read_right hr ht
  have r2 := P.read_cut hr ht _ hm
  have r3 := (P.read_app hr ht t).1
  rw [hr] at HW HR
  rw [if_pos rfl] at HW
  rw [hg] at HG
  have HD1 := Lib.hid (fun wx (hu : UsesOk wx) => read_any (P.bytesC x) (by omega) wx hu)
  rw [r1.1, r1.2] at HD1
  have HD2 := Lib.hid (fun wx (hu : UsesOk wx) => read_any ((P.bytesC x).take (z % (P.bytesC x).length)) (by rw [List.length_take]; omega) wx hu)
  rw [r2, P.readC_no r2] at HD2
  have HD3 := Lib.hid (fun wx (hu : UsesOk wx) => read_any (P.bytesC x ++ t) (by rw [List.length_append]; omega) wx hu)
  rw [r3] at HD3
  generalize P.readC (P.bytesC x ++ t) = y at *
  have hli : ¬ (100 : Int) < (t.length : Int) := by omega
  clear hg hr hsh r1 r2 r3
  generalize P.bytesC x = s at *
  have hzz : (z : Int) % (s.length : Int) = ((z % s.length : Nat) : Int) := by omega
  have hcut := str_takeN s (z % s.length)
  have hadd : ¬ 9223372036854775807 < s.length + t.length := by omega
  have hzi : (z : Int) ≤ 65535 := by omega
  have hsi : ¬ (s.length : Int) < (10 : Int) := by omega
  have hnb : ((s.length : Int) == 0) = false := beq_eq_false_iff_ne.2 (by omega)
  generalize z % s.length = m at *
  have hmi : (m : Int) ≤ (s.length : Int) := by omega
  have hm0 : (0 : Int) ≤ (m : Int) := by omega
  have hml : m ≤ s.length := by omega
  have hcat : (ByteArray.mk s.toArray ++ ByteArray.mk t.toArray) = ByteArray.mk (s ++ t).toArray := by simp [ByteArray.ext_iff, ByteArray.data_append]
  have HD4 := Lib.hid (fun wx (hu : UsesOk wx) => show Calls Tryd.prog 17 #[.string (ByteArray.mk s.toArray ++ ByteArray.mk t.toArray)] wx fun e w' => e = .returned (.tuple #[caV y, .bool (decide (t = []))]) ∧ Below wx.heap.size wx w' from by rw [hcat]; exact HD3.out wx hu)
  clear HD3 hcat
  go_enter Tryd.func7, Tryd.ntmps7
  go_upto_region 11 with (first
    | (refine wpList_ldB (by rfl) _ _ (by rfl) hbx (by rfl) structCall 15 infoCall (by rfl) ?_)
    | (go_at_call 11; (with_reducible refine (HG.out _).mono ?_); rintro e w1 ⟨rfl, hb1⟩; have hc1 := Chain.up hA hb1; have hbx1 := hbx.up hb1)
    | (refine wpList_ldB (by rfl) _ _ (by rfl) hbx1 (by rfl) structCall 15 infoCall (by rfl) ?_)
    | (go_at_call 13; (with_reducible refine (HW.out _ (hu.up hc1)).mono ?_); rintro e w2 ⟨rfl, hb2⟩; have hc2 := Chain.up hc1 hb2; have hbx2 := hbx1.up hb2; obtain ⟨⟨c0, c1, c2, c3, c4, c5, c6, c7, c8, c9, c10, c11, c12, c13, c14⟩, -⟩ := hbx2.cells15)
    | (go_at_call 17; (with_reducible refine (HD1.out _ (hu.up hc2)).mono ?_); rintro e w3 ⟨rfl, hb3⟩; have hc3 := Chain.up hc2 hb3; have hbx3 := hbx2.up hb3; have h40 := Bx.fresh w3 28 #[.int .u8 0, .int .u8 0, .int .u64 0, .int .u8 0, .int .u64 0, .int .u64 0, .int .i64 0, .int .u8 0, .int .u64 0, .int .u64 0, .string ⟨#[]⟩, .string ⟨#[]⟩, .int .u64 0, .int .u64 0, .int .i64 0]; have hB4 := (Below.refl w3.heap.size w3).alloc (Nat.le_refl _) (.cells #[.int .u8 0, .int .u8 0, .int .u64 0, .int .u8 0, .int .u64 0, .int .u64 0, .int .i64 0, .int .u8 0, .int .u64 0, .int .u64 0, .string ⟨#[]⟩, .string ⟨#[]⟩, .int .u64 0, .int .u64 0, .int .i64 0] 28))
    | (refine wpList_stB (by rfl) _ _ _ (by rfl) h40 _ _ (by rfl) (by rfl) 15 15 (by rfl) (by rfl) (by decide) infoCall (by rfl) (by rfl) ?_; intro w4 hz' hs4; have h4 : Bx w4 w3.heap.size 28 #[.int .u8 (x.op : Nat), .int .u8 (x.client : Nat), V64 x.number, .int .u8 (x.p.a.fam : Nat), V64 x.p.a.hi, V64 x.p.a.lo, .int .i64 x.p.bits, .int .u8 (x.a.fam : Nat), V64 x.a.hi, V64 x.a.lo, S x.owner, S x.to, V64 x.d, V64 x.fr, .int .i64 x.n] := hz'; clear hz'; have hbs4 := hB4.trans (hs4.below (Nat.le_refl _) hB4.size); skip)
    | (go_at_call 17; (with_reducible refine (HD2.out _ (hu.up (hc3.trans (hbs4.mono hc3.size)))).mono ?_); rintro e w5 ⟨rfl, hb5⟩; have h60 := Bx.fresh w5 28 #[.int .u8 0, .int .u8 0, .int .u64 0, .int .u8 0, .int .u64 0, .int .u64 0, .int .i64 0, .int .u8 0, .int .u64 0, .int .u64 0, .string ⟨#[]⟩, .string ⟨#[]⟩, .int .u64 0, .int .u64 0, .int .i64 0]; have hB6 := (Below.refl w5.heap.size w5).alloc (Nat.le_refl _) (.cells #[.int .u8 0, .int .u8 0, .int .u64 0, .int .u8 0, .int .u64 0, .int .u64 0, .int .i64 0, .int .u8 0, .int .u64 0, .int .u64 0, .string ⟨#[]⟩, .string ⟨#[]⟩, .int .u64 0, .int .u64 0, .int .i64 0] 28))
    | (refine wpList_stB (by rfl) _ _ _ (by rfl) h60 _ _ (by rfl) (by rfl) 15 15 (by rfl) (by rfl) (by decide) infoCall (by rfl) (by rfl) ?_; intro w6 hz' hs6; have h6 : Bx w6 w5.heap.size 28 #[.int .u8 0, .int .u8 0, .int .u64 0, .int .u8 0, .int .u64 0, .int .u64 0, .int .i64 0, .int .u8 0, .int .u64 0, .int .u64 0, .string ⟨#[]⟩, .string ⟨#[]⟩, .int .u64 0, .int .u64 0, .int .i64 0] := hz'; clear hz'; have hbs6 := hB6.trans (hs6.below (Nat.le_refl _) hB6.size); skip)
    | (go_at_call 17; (with_reducible refine (HD4.out _ (hu.up ((hc3.trans (hbs4.mono hc3.size)).trans ((Chain.up hb5 hbs6).mono (by have := hc3.size; have := hbs4.size; omega))))).mono ?_); rintro e w7 ⟨rfl, hb7⟩; have h80 := Bx.fresh w7 28 #[.int .u8 0, .int .u8 0, .int .u64 0, .int .u8 0, .int .u64 0, .int .u64 0, .int .i64 0, .int .u8 0, .int .u64 0, .int .u64 0, .string ⟨#[]⟩, .string ⟨#[]⟩, .int .u64 0, .int .u64 0, .int .i64 0]; have hB8 := (Below.refl w7.heap.size w7).alloc (Nat.le_refl _) (.cells #[.int .u8 0, .int .u8 0, .int .u64 0, .int .u8 0, .int .u64 0, .int .u64 0, .int .i64 0, .int .u8 0, .int .u64 0, .int .u64 0, .string ⟨#[]⟩, .string ⟨#[]⟩, .int .u64 0, .int .u64 0, .int .i64 0] 28))
    | (refine wpList_stB (by rfl) _ _ _ (by rfl) h80 _ _ (by rfl) (by rfl) 15 15 (by rfl) (by rfl) (by decide) infoCall (by rfl) (by rfl) ?_; intro w8 hz' hs8; have h8 : Bx w8 w7.heap.size 28 #[.int .u8 (y.op : Nat), .int .u8 (y.client : Nat), V64 y.number, .int .u8 (y.p.a.fam : Nat), V64 y.p.a.hi, V64 y.p.a.lo, .int .i64 y.p.bits, .int .u8 (y.a.fam : Nat), V64 y.a.hi, V64 y.a.lo, S y.owner, S y.to, V64 y.d, V64 y.fr, .int .i64 y.n] := hz'; clear hz'; have hbs8 := hB8.trans (hs8.below (Nat.le_refl _) hB8.size); skip))
  have b48 := Chain.up (Chain.up (Chain.up hb5 hbs6) hb7) hbs8
  have hc8 := Chain.up (Chain.up hc3 hbs4) b48
  have hbx8 := (hbx3.up hbs4).up b48
  have h48 := h4.up b48
  clear hbx hA HG HW HD1 HD2 HD4 hb1 hc1 hbx1 hb2 hc2 hbx2 c0 c1 c2 c3 c4 c5 c6 c7 c8 c9 c10 c11 c12 c13 c14 hb3 hc3 hbx3 h40 hB4 hs4 hbs4 h4 hb5 h60 hB6 hs6 h6 hbs6 hb7 h80 hB8 hs8 h8 hbs8 b48
  generalize w3.heap.size = g4 at *
  obtain ⟨⟨c0, c1, c2, c3, c4, c5, c6, c7, c8, c9, c10, c11, c12, c13, c14⟩, -⟩ := hbx8.cells15
  obtain ⟨⟨d0, d1, d2, d3, d4, d5, d6, d7, d8, d9, d10, d11, d12, d13, d14⟩, -⟩ := h48.cells15
  cases hte : decide (t = []) with
  | true =>
    have he1 : t = [] := of_decide_eq_true hte
    have he2 : t.isEmpty = true := by rw [he1]; rfl
    clear hte
    go_wp2_with (first
      | (go_at_call 27; (with_reducible refine (HR.out _).mono ?_); rintro e w9 ⟨rfl, hb9⟩; have hc9 := Chain.up hc8 hb9)
      | (go_at_call 12; (with_reducible refine (awake_any _ (hu.up hc9)).mono ?_); rintro e w10 ⟨rfl, hb10⟩; have hc10 := Chain.up hc9 hb10))
    go_ret
    exact ⟨rfl, hc10⟩
  | false =>
    have he1 : ¬ t = [] := of_decide_eq_false hte
    have he2 : t.isEmpty = false := by cases t with | nil => exact absurd rfl he1 | cons _ _ => rfl
    clear hte
    go_wp2_with (first
      | (go_at_call 27; (with_reducible refine (HR.out _).mono ?_); rintro e w9 ⟨rfl, hb9⟩; have hc9 := Chain.up hc8 hb9)
      | (go_at_call 12; (with_reducible refine (awake_any _ (hu.up hc9)).mono ?_); rintro e w10 ⟨rfl, hb10⟩; have hc10 := Chain.up hc9 hb10))
    go_ret
    exact ⟨rfl, hc10⟩
/-- The law. -/
theorem law_back (x : P.Ca) (z : Nat) (t : List UInt8) (w : World) (ht : P.tyC x) (ho : x.owner.length ≤ 9223372036854775807) (hto : x.to.length ≤ 9223372036854775807) (hz : z < 65536) (hb : t.length ≤ 9223372036854775807) (hu : UsesOk w) :
    Calls Tryd.prog 7 #[caV x, .int .u16 (z : Int), S t] w fun e w' => e = .returned (.bool true) ∧ Below w.heap.size w w' := by
  by_cases hg : P.greatC x = true ∨ 100 < t.length
  · exact back_great x z t w ht ho hto hz hg hu
  · have hgn : P.greatC x = false := by
      cases h : P.greatC x with
      | false => rfl
      | true => exact absurd (.inl h) hg
    have hl : t.length ≤ 100 := Nat.le_of_not_lt (fun h => hg (.inr h))
    cases hr : P.rightC x with
    | true => exact back_ok x z t w ht ho hto hz hgn hl hr hu
    | false => exact back_not x z t w ht ho hto hz hgn hl hr hu
end Go.Proofs.YtcobfoiajdbahaaDoor
