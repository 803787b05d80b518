/- An argument that is a slice of edits, opened; one that is a slice of tables. -/
import Derived.Test.YthpgigjplknomaaOpenE
import Derived.Test.YthpgigjplknomaaWEdList
namespace Go.Proofs.Ythpgigjplknomaa
open Go.RowKit Go.ChangeShapes Go.WideShapes Go.Deep Go.Joins

/-- What an opened edit is known for. -/
def EdOk (W : World) (r : EdR) : Prop := r.e.add.length ≤ 9223372036854775807 ∧ r.e.drop.length ≤ 9223372036854775807 ∧ (∀ t ∈ r.e.add, t.first.length ≤ 9223372036854775807 ∧ t.last.length ≤ 9223372036854775807) ∧ P.tyE r.e ∧ EdAt W r.a r.b r.e
theorem ed_ex {H : Type} {enc : TypeId × Value → H} {W : World} {base : Nat} {sp : Nat → Bool} {held : Bool} (vs : Nat → Value)
    (hf : ∀ (j : Nat) (f : Field), (Try.prog.fieldsOf 29)[j]? = some f → ∃ m y, DataW.trod enc Try.prog W base sp held m f.type [vs j] = some y) : ∃ x : EdR, EdOk W x ∧ ∀ j, j < 5 → (edRCells x)[j]? = some (vs j) := by
  obtain ⟨m0, y0, t0⟩ := hf 0 _ rfl
  obtain ⟨m1, y1, t1⟩ := hf 1 _ rfl
  obtain ⟨m2, y2, t2⟩ := hf 2 _ rfl
  obtain ⟨m3, y3, t3⟩ := hf 3 _ rfl
  obtain ⟨m4, y4, t4⟩ := hf 4 _ rfl
  obtain ⟨a, c, l, f0, k1, k2, k3, _⟩ := open_rows1 tabCells (fun x => P.tyT x ∧ x.first.length ≤ 9223372036854775807 ∧ x.last.length ≤ 9223372036854775807) Try.underlying25 Try.underlying31 (by kernel_rfl) (by kernel_rfl) rfl (by decide) (fun vs hf => tab_ex vs hf) t0
  obtain ⟨b, d', m, f1, j1, j2, j3⟩ := open_nums1 Try.underlying26 Try.underlying27 (by kernel_rfl) t1
  obtain ⟨z2, e2, _, w2⟩ := DataW.trod_int Try.underlying27 t2
  obtain ⟨z3, e3, _, w3⟩ := DataW.trod_int Try.underlying27 t3
  obtain ⟨z4, e4, _, w4⟩ := DataW.trod_int Try.underlying27 t4
  have h2 := u64_bd w2
  have h3 := u64_bd w3
  have h4 := u64_bd w4
  obtain ⟨n2, rfl⟩ : ∃ q : Nat, z2 = (q : Int) := ⟨z2.toNat, by omega⟩
  obtain ⟨n3, rfl⟩ : ∃ q : Nat, z3 = (q : Int) := ⟨z3.toNat, by omega⟩
  obtain ⟨n4, rfl⟩ : ∃ q : Nat, z4 = (q : Int) := ⟨z4.toNat, by omega⟩
  have f2 : vs 2 = .int .u64 (n2 : Int) := by simpa using e2
  have f3 : vs 3 = .int .u64 (n3 : Int) := by simpa using e3
  have f4 : vs 4 = .int .u64 (n4 : Int) := by simpa using e4
  refine ⟨⟨⟨l, m, n2, n3, n4⟩, a, c, b, d'⟩, ⟨k1, j1, fun t ht => (k2 t ht).2, ⟨fun t ht => (k2 t ht).1, by show l.length < _; omega, by show m.length < _; omega, j2, by show n2 < _; omega, by show n3 < _; omega, by show n4 < _; omega⟩, k3, j3⟩, fun j hj => ?_⟩
  match j, hj with
  | 0, _ => rw [f0]; rfl
  | 1, _ => rw [f1]; rfl
  | 2, _ => rw [f2]; rfl
  | 3, _ => rw [f3]; rfl
  | 4, _ => rw [f4]; rfl
theorem open_eds {H : Type} {enc : TypeId × Value → H} {W : World} {base : Nat} {sp : Nat → Bool} {held : Bool} {a : Option Addr} {n c : Nat} {d : DataW H} {p : List MemPlace}
    (h : DataW.Trod enc Try.prog W base sp held 33 (.slice a n c) d p) :
    ∃ l : List P.Ed, l.length = n ∧ l.length ≤ 9223372036854775807 ∧ (∀ e ∈ l, e.add.length ≤ 9223372036854775807 ∧ e.drop.length ≤ 9223372036854775807 ∧ (∀ t ∈ e.add, t.first.length ≤ 9223372036854775807 ∧ t.last.length ≤ 9223372036854775807) ∧ P.tyE e) ∧ EdsAt W a l := by
  obtain ⟨l, h1, h2, h3, h4, _⟩ := open_rows edRCells (EdOk W) Try.underlying33 Try.underlying29 (by kernel_rfl) (by kernel_rfl) rfl (by decide) (fun vs hf => ed_ex vs hf) h
  refine ⟨l.map EdR.e, by simpa using h1, by simpa using h2, fun e he => ?_, fun i hi => ?_⟩
  · obtain ⟨r, hr, rfl⟩ := List.mem_map.1 he
    obtain ⟨q1, q2, q3, q4, _⟩ := h3 r hr
    exact ⟨q1, q2, q3, q4⟩
  · have hil : i < l.length := by simpa using hi
    obtain ⟨b, o, rfl, hlt, hc⟩ := h4 i hil
    have hok := (h3 _ (List.getElem_mem hil)).2.2.2.2
    rw [List.getElem_map]
    exact ⟨b, o, rfl, hlt, l[i].a, l[i].c, l[i].b, l[i].d, hc 0 (by decide), hc 1 (by decide), hc 2 (by decide), hc 3 (by decide), hc 4 (by decide), hok⟩
theorem open_tabs {H : Type} {enc : TypeId × Value → H} {W : World} {base : Nat} {sp : Nat → Bool} {held : Bool} {a : Option Addr} {n c : Nat} {d : DataW H} {p : List MemPlace}
    (h : DataW.Trod enc Try.prog W base sp held 25 (.slice a n c) d p) :
    ∃ l : List P.Tab, l.length = n ∧ l.length ≤ 9223372036854775807 ∧ (∀ t ∈ l, P.tyT t ∧ t.first.length ≤ 9223372036854775807 ∧ t.last.length ≤ 9223372036854775807) ∧ TabsAt W a l := by
  obtain ⟨l, h1, h2, h3, h4, _⟩ := open_rows tabCells (fun x => P.tyT x ∧ x.first.length ≤ 9223372036854775807 ∧ x.last.length ≤ 9223372036854775807) Try.underlying25 Try.underlying31 (by kernel_rfl) (by kernel_rfl) rfl (by decide) (fun vs hf => tab_ex vs hf) h
  exact ⟨l, h1, h2, h3, h4⟩
end Go.Proofs.Ythpgigjplknomaa
