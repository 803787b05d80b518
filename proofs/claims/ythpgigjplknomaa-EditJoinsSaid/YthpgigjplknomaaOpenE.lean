/- An argument that is an edit, opened; a struct of any number of one-cell fields, by value. -/
import Derived.Test.YthpgigjplknomaaOpenR
import Derived.Test.YthpgigjplknomaaOpenU
import Derived.Test.YthpgigjplknomaaWEdOps
import Derived.Lib.SmallJoins
namespace Go.Proofs.Ythpgigjplknomaa
open Go.RowKit Go.ChangeShapes Go.WideShapes Go.Deep Go.Joins

theorem open_flat {H : Type} {enc : TypeId × Value → H} {P : Program} {W : World} {base b0 : Nat} {r : Reach} {sp : Nat → Bool} {held : Bool} {t : TypeId} {fs : Array Field} {v : Value} {d : DataW H} {p : List MemPlace}
    (hs : P.underlying t = some (.struct fs)) (hone : oneCellFields P fs = true) (hC : P.cellsOf t = fs.size) (hv : Value.okWide P W r b0 t v) (h : DataW.Trod enc P W base sp held t v d p) :
    ∃ (cs : List Value) (n : Nat), v = .agg cs.toArray ∧ cs.length = fs.size ∧ ∀ (j : Nat) (f : Field), fs[j]? = some f → ∃ y, DataW.trod enc P W base sp held n f.type [cs.getD j default] = some y := by
  obtain ⟨cs, rfl, hsz⟩ := okWide_struct hs hv
  obtain ⟨fuel, hf⟩ := h
  obtain ⟨ys, n, _, _, _, hyl, hfl⟩ := DataW.trod_struct hs hf
  have hcl : cs.toList.length = fs.size := by simp; omega
  refine ⟨cs.toList, n, by simp, hcl, fun j f hj => ?_⟩
  obtain ⟨ho, hk⟩ := hone_of hone j f hj
  have hjl : j < fs.size := (Array.getElem?_eq_some_iff.1 hj).1
  have h1 := hfl j f hj
  rw [ho, hk] at h1
  have hone' : ((Value.agg cs).cells.toList.drop j).take 1 = [cs.toList.getD j default] := by
    show (cs.toList.drop j).take 1 = _
    rw [List.drop_eq_getElem_cons (by omega), List.getD_eq_getElem?_getD, List.getElem?_eq_getElem (by omega)]
    rfl
  rw [hone'] at h1
  have hys : ys[j]? = some (ys[j]'(by omega)) := List.getElem?_eq_getElem (by omega)
  exact ⟨_, h1.trans hys⟩
/-- One cell that holds a slice of numbers. -/
theorem open_nums1 {H : Type} {enc : TypeId × Value → H} {P : Program} {W : World} {base : Nat} {sp : Nat → Bool} {held : Bool} {t e : TypeId} {fuel : Nat} {u : Value} {y : DataW H × List MemPlace}
    (ht : P.underlying t = some (.slice e)) (he : P.underlying e = some (.int .u64)) (hc : P.cellsOf e = 1) (h : DataW.trod enc P W base sp held fuel t [u] = some y) :
    ∃ (a : Option Addr) (c : Nat) (l : List Nat), u = .slice a l.length c ∧ l.length ≤ 9223372036854775807 ∧ (∀ x ∈ l, x < 18446744073709551616) ∧ NumsAt W a l := by
  have hu : ∃ a n c, u = .slice a n c := by
    rcases open_slice ht h with ⟨hcs, _⟩ | ⟨a', len, cap, m, mm, D, Pl, hcs, _⟩
    · exact ⟨none, 0, 0, by simpa using hcs⟩
    · exact ⟨_, _, _, by simpa using hcs⟩
  obtain ⟨a, n, c, rfl⟩ := hu
  obtain ⟨l, h1, h2, h3, h4⟩ := open_nums (a := a) (n := n) (c := c) (d := y.1) (p := y.2) ht he hc ⟨fuel, by simpa [Value.cells] using h⟩
  subst h1
  exact ⟨a, c, l, rfl, h2, h3, h4⟩
/-- A table's reading. -/
theorem tab_ex {H : Type} {enc : TypeId × Value → H} {W : World} {base : Nat} {sp : Nat → Bool} {held : Bool} (vs : Nat → Value)
    (hf : ∀ (j : Nat) (f : Field), (Try.prog.fieldsOf 31)[j]? = some f → ∃ m y, DataW.trod enc Try.prog W base sp held m f.type [vs j] = some y) : ∃ x : P.Tab, (P.tyT x ∧ x.first.length ≤ 9223372036854775807 ∧ x.last.length ≤ 9223372036854775807) ∧ ∀ j, j < 8 → (tabCells x)[j]? = some (vs j) := by
  obtain ⟨m0, x0, t0⟩ := hf 0 _ rfl
  obtain ⟨m1, x1, t1⟩ := hf 1 _ rfl
  obtain ⟨m2, x2, t2⟩ := hf 2 _ rfl
  obtain ⟨m3, x3, t3⟩ := hf 3 _ rfl
  obtain ⟨m4, x4, t4⟩ := hf 4 _ rfl
  obtain ⟨m5, x5, t5⟩ := hf 5 _ rfl
  obtain ⟨m6, x6, t6⟩ := hf 6 _ rfl
  obtain ⟨m7, x7, t7⟩ := hf 7 _ rfl
  obtain ⟨z0, e0, _, w0⟩ := DataW.trod_int Try.underlying27 t0
  obtain ⟨z1, e1, _, w1⟩ := DataW.trod_int Try.underlying3 t1
  obtain ⟨z2, e2, _, w2⟩ := DataW.trod_int Try.underlying3 t2
  obtain ⟨z3, e3, _, w3⟩ := DataW.trod_int Try.underlying3 t3
  obtain ⟨⟨⟨s4⟩⟩, e4, _, b4⟩ := DataW.trod_string Try.underlying9 t4
  obtain ⟨⟨⟨s5⟩⟩, e5, _, b5⟩ := DataW.trod_string Try.underlying9 t5
  obtain ⟨z6, e6, _, w6⟩ := DataW.trod_int Try.underlying27 t6
  obtain ⟨z7, e7, _, w7⟩ := DataW.trod_int Try.underlying27 t7
  have h0 := u64_bd w0
  have h1 := i64_bd w1
  have h2 := i64_bd w2
  have h3 := i64_bd w3
  have h6 := u64_bd w6
  have h7 := u64_bd w7
  obtain ⟨n0, rfl⟩ : ∃ q : Nat, z0 = (q : Int) := ⟨z0.toNat, by omega⟩
  obtain ⟨n6, rfl⟩ : ∃ q : Nat, z6 = (q : Int) := ⟨z6.toNat, by omega⟩
  obtain ⟨n7, rfl⟩ : ∃ q : Nat, z7 = (q : Int) := ⟨z7.toNat, by omega⟩
  have f0 : vs 0 = .int .u64 (n0 : Int) := by simpa using e0
  have f1 : vs 1 = .int .i64 z1 := by simpa using e1
  have f2 : vs 2 = .int .i64 z2 := by simpa using e2
  have f3 : vs 3 = .int .i64 z3 := by simpa using e3
  have f4 : vs 4 = S s4 := by simpa using e4
  have f5 : vs 5 = S s5 := by simpa using e5
  have f6 : vs 6 = .int .u64 (n6 : Int) := by simpa using e6
  have f7 : vs 7 = .int .u64 (n7 : Int) := by simpa using e7
  refine ⟨⟨n0, z1, z2, z3, s4, s5, n6, n7⟩, ⟨⟨by show n0 < _; omega, by show z1 ≤ _; omega, by show z2 ≤ _; omega, by show z3 ≤ _; omega, by show n6 < _; omega, by show n7 < _; omega⟩, by have h := b4; unfold maxLen at h; exact h, by have h := b5; unfold maxLen at h; exact h⟩, fun j hj => ?_⟩
  match j, hj with
  | 0, _ => rw [f0]; rfl
  | 1, _ => rw [f1]; rfl
  | 2, _ => rw [f2]; rfl
  | 3, _ => rw [f3]; rfl
  | 4, _ => rw [f4]; rfl
  | 5, _ => rw [f5]; rfl
  | 6, _ => rw [f6]; rfl
  | 7, _ => rw [f7]; rfl
/-- An edit's reading. -/
theorem open_edit {H : Type} {enc : TypeId × Value → H} {W : World} {base b0 : Nat} {r : Reach} {sp : Nat → Bool} {held : Bool} {v : Value} {d : DataW H} {p : List MemPlace}
    (hv : Value.okWide Try.prog W r b0 29 v) (h : DataW.Trod enc Try.prog W base sp held 29 v d p) :
    ∃ (e : P.Ed) (a b : Option Addr) (c d : Nat), v = edV a e.add.length c b e.drop.length d e.log e.seq e.next ∧ e.add.length ≤ 9223372036854775807 ∧ e.drop.length ≤ 9223372036854775807 ∧ (∀ t ∈ e.add, t.first.length ≤ 9223372036854775807 ∧ t.last.length ≤ 9223372036854775807) ∧ P.tyE e ∧ EdAt W a b e := by
  obtain ⟨cs, n, rfl, hcl, hf⟩ := open_flat Try.underlying29 (by kernel_rfl) (by kernel_rfl) hv h
  obtain ⟨y0, t0⟩ := hf 0 _ rfl
  obtain ⟨y1, t1⟩ := hf 1 _ rfl
  obtain ⟨y2, t2⟩ := hf 2 _ rfl
  obtain ⟨y3, t3⟩ := hf 3 _ rfl
  obtain ⟨y4, t4⟩ := hf 4 _ rfl
  have hc5 : cs.length = 5 := hcl
  obtain ⟨v0, v1, v2, v3, v4, rfl⟩ : ∃ v0 v1 v2 v3 v4, cs = [v0, v1, v2, v3, v4] := by
    match cs, hc5 with
    | [v0, v1, v2, v3, v4], _ => exact ⟨v0, v1, v2, v3, v4, rfl⟩
  simp only [List.getD_cons_zero, List.getD_cons_succ] at t0 t1 t2 t3 t4
  obtain ⟨a, c, l, rfl, k1, k2, k3, _⟩ := open_rows1 tabCells (fun x => P.tyT x ∧ x.first.length ≤ 9223372036854775807 ∧ x.last.length ≤ 9223372036854775807) Try.underlying25 Try.underlying31 (by kernel_rfl) (by kernel_rfl) rfl (by decide) (fun vs hf => tab_ex vs hf) t0
  obtain ⟨b, d', m, rfl, j1, j2, j3⟩ := open_nums1 Try.underlying26 Try.underlying27 (by kernel_rfl) t1
  obtain ⟨z2, e2, _, w2⟩ := DataW.trod_int Try.underlying27 t2
  obtain ⟨z3, e3, _, w3⟩ := DataW.trod_int Try.underlying27 t3
  obtain ⟨z4, e4, _, w4⟩ := DataW.trod_int Try.underlying27 t4
  have h2 := u64_bd w2
  have h3 := u64_bd w3
  have h4 := u64_bd w4
  obtain ⟨n2, rfl⟩ : ∃ q : Nat, z2 = (q : Int) := ⟨z2.toNat, by omega⟩
  obtain ⟨n3, rfl⟩ : ∃ q : Nat, z3 = (q : Int) := ⟨z3.toNat, by omega⟩
  obtain ⟨n4, rfl⟩ : ∃ q : Nat, z4 = (q : Int) := ⟨z4.toNat, by omega⟩
  obtain rfl : v2 = .int .u64 (n2 : Int) := by simpa using e2
  obtain rfl : v3 = .int .u64 (n3 : Int) := by simpa using e3
  obtain rfl : v4 = .int .u64 (n4 : Int) := by simpa using e4
  exact ⟨⟨l, m, n2, n3, n4⟩, a, b, c, d', rfl, k1, j1, fun t ht => (k2 t ht).2, ⟨fun t ht => (k2 t ht).1, by show l.length < _; omega, by show m.length < _; omega, j2, by show n2 < _; omega, by show n3 < _; omega, by show n4 < _; omega⟩, k3, j3⟩
end Go.Proofs.Ythpgigjplknomaa
