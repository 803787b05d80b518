/- An argument that is a slice of acts, opened. -/
import Derived.Test.YtnflbgindcejjaaDoorOpenR
import Derived.Test.YtnflbgindcejjaaDoorWSEnc
import Derived.ChangeSlices
namespace Go.Proofs.YtnflbgindcejjaaDoor
open Go.RowKit Go.ChangeShapes Go.WideShapes Go.Deep

theorem u64_bdA {x : Int} (h : (Lit.int .u64 x).wf = true) : 0 ≤ x ∧ x < 18446744073709551616 := by
  simp [Lit.wf, IntKind.min, IntKind.max, IntKind.signed, IntKind.bits] at h
  omega
theorem u8_bd {z : Int} (h : (Lit.int .u8 z).wf = true) : 0 ≤ z ∧ z < 256 := by
  simp [Lit.wf, IntKind.min, IntKind.max, IntKind.signed, IntKind.bits] at h
  omega
theorem u32_bd {z : Int} (h : (Lit.int .u32 z).wf = true) : 0 ≤ z ∧ z < 4294967296 := by
  simp [Lit.wf, IntKind.min, IntKind.max, IntKind.signed, IntKind.bits] at h
  omega
/-- One cell that holds a slice of integers. -/
theorem open_ints1 {H : Type} {enc : TypeId × Value → H} {P : Program} {W : World} {base : Nat} {sp : Nat → Bool} {held : Bool} {t e : TypeId} {kk : IntKind} {fuel : Nat} {u : Value} {y : DataW H × List MemPlace}
    (ht : P.underlying t = some (.slice e)) (he : P.underlying e = some (.int kk)) (hc : P.cellsOf e = 1) (h : DataW.trod enc P W base sp held fuel t [u] = some y) :
    ∃ (a : Option Addr) (c : Nat) (l : List Int), u = .slice a l.length c ∧ (a = none → c = 0) ∧ l.length ≤ 9223372036854775807 ∧ (∀ x ∈ l, (Lit.int kk x).wf = true) ∧
      ∀ (i : Nat) (h : i < l.length), ∃ b o, a = some ⟨b, o, none⟩ ∧ b < W.heap.size ∧ W.cell? ⟨b, o + i, none⟩ = some (.int kk l[i]) := by
  rcases Go.ChangeShapes.open_ints ht he hc h with ⟨hcs, _⟩ | ⟨a', len, cap, zs, hcs, _, hle, hm, hss, _, hcell, hws⟩
  · obtain rfl : u = .slice none 0 0 := by simpa using hcs
    exact ⟨none, 0, [], rfl, fun _ => rfl, by simp, fun x hx => by simp at hx, fun i hi => by simp at hi⟩
  · obtain rfl : u = .slice (some a') len cap := by simpa using hcs
    have hsl : len ≤ zs.length := by rw [hss]; split <;> omega
    have hlt : (zs.take len).length = len := by rw [List.length_take]; omega
    refine ⟨some a', cap, zs.take len, by rw [hlt], (fun h => by cases h), by unfold maxLen at hm; omega, fun x hx => hws x (List.mem_of_mem_take hx), fun i hi => ?_⟩
    have hin : i < len := by omega
    have h0 := hcell 0 (by omega)
    have ha0 : a'.add 0 = a' := by simp [Addr.add]
    rw [ha0] at h0
    have hpl := addr_plain h0
    have hi' := hcell i (by omega)
    rw [hpl, addr_add] at hi'
    refine ⟨a'.block, a'.off, by rw [← hpl], World.block_lt_of_cell? W a' h0, ?_⟩
    rw [hi']
    have hi2 : i < zs.length := by omega
    simp [List.getD_eq_getElem?_getD, hi2]
/-- A slice of structs of any fields: 'ex' is told each field's cells. -/
theorem open_rowsW {α : Type} {H : Type} {enc : TypeId × Value → H} {P : Program} {W : World} {base : Nat} {sp : Nat → Bool} {held : Bool} {t e : TypeId} {fs : Array Field} {k : Nat} {a : Option Addr} {n c : Nat} {d : DataW H} {p : List MemPlace}
    (cs : α → List Value) (Q : α → Prop) (ht : P.underlying t = some (.slice e)) (he : P.underlying e = some (.struct fs)) (hC : P.cellsOf e = k) (hk0 : 0 < k)
    (ex : ∀ vs : List Value, vs.length = k → (∀ (j : Nat) (f : Field), fs[j]? = some f → ∃ m y, DataW.trod enc P W base sp held m f.type ((vs.drop f.offset).take (P.cellsOf f.type)) = some y) → ∃ x : α, Q x ∧ ∀ j, j < k → (cs x)[j]? = vs[j]?)
    (h : DataW.Trod enc P W base sp held t (.slice a n c) d p) :
    ∃ l : List α, l.length = n ∧ l.length ≤ 9223372036854775807 ∧ (∀ x ∈ l, Q x) ∧ RowsAt k cs W a l ∧ n ≤ c ∧ (a = none → c = 0) := by
  obtain ⟨fuel, hf⟩ := h
  rcases open_slice ht hf with ⟨hcs, _⟩ | ⟨a', len, cap, m, mm, D, Pl, hcs, hb, hle, hm, hmm, hx, hi⟩
  · simp [Value.cells] at hcs
    obtain ⟨rfl, rfl, rfl⟩ := hcs
    exact ⟨[], rfl, by simp, fun x hx => by simp at hx, fun i hi => by simp at hi, Nat.le_refl _, fun _ => rfl⟩
  · simp [Value.cells] at hcs
    obtain ⟨rfl, rfl, rfl⟩ := hcs
    have hlm : n ≤ m := by rw [hmm]; split <;> omega
    have hcell : ∀ i, i < n → ∃ cs' : List Value, cs'.length = k ∧ (∀ j (hj : j < k), W.cell? (a'.add (i * k + j)) = cs'[j]?) ∧ ∀ (j : Nat) (f : Field), fs[j]? = some f → ∃ m y, DataW.trod enc P W base sp held m f.type ((cs'.drop f.offset).take (P.cellsOf f.type)) = some y := by
      intro i hin
      obtain ⟨cs', hc, ht'⟩ := hi i (by omega)
      rw [hC] at hc
      obtain ⟨ys, n', hn', hy, hlen, hyl, hfl⟩ := DataW.trod_struct he ht'
      obtain ⟨_, hcl, hat⟩ := World.cells?_some hc
      refine ⟨cs', hcl, fun j hj => by rw [← Go.Deep.add_add]; exact hat j hj, fun j f hj => ?_⟩
      have hjl : j < fs.size := (Array.getElem?_eq_some_iff.1 hj).1
      have h1 := hfl j f hj
      have hys : ys[j]? = some (ys[j]'(by omega)) := List.getElem?_eq_getElem (by omega)
      exact ⟨n', _, h1.trans hys⟩
    have each : ∀ i, i < n → ∃ x : α, Q x ∧ ∃ b o, a' = ⟨b, o, none⟩ ∧ b < W.heap.size ∧ ∀ j, j < k → W.cell? ⟨b, o + i * k + j, none⟩ = (cs x)[j]? := by
      intro i hin
      obtain ⟨c0, hl0, hc0, _⟩ := hcell 0 (by omega)
      have h00 := hc0 0 hk0
      rw [Nat.zero_mul, Nat.add_zero, List.getElem?_eq_getElem (by omega), show a'.add 0 = a' by simp [Addr.add]] at h00
      have hspot := addr_plain h00
      obtain ⟨cs', hcl, hat, hfl⟩ := hcell i hin
      obtain ⟨x, hQ, hxc⟩ := ex cs' hcl hfl
      refine ⟨x, hQ, a'.block, a'.off, hspot, World.block_lt_of_cell? W _ h00, fun j hj => ?_⟩
      have := hat j hj
      rw [hspot, addr_add] at this
      rw [Nat.add_assoc, this, hxc j hj]
    refine ⟨List.ofFn (n := n) fun i => (each i i.2).choose, by simp, by unfold maxLen at hm; simp; omega, fun x hx => ?_, fun i hi => ?_, hle, fun h => by cases h⟩
    · obtain ⟨i, hi⟩ := (List.mem_ofFn ..).1 hx
      rw [← hi]
      exact (each i i.2).choose_spec.1
    · have hin : i < n := by simpa using hi
      obtain ⟨b, o, ha, hlt, hc⟩ := (each i hin).choose_spec.2
      refine ⟨b, o, by rw [ha], hlt, fun j hj => ?_⟩
      rw [hc j hj]
      simp
/-- What an opened act is known for. -/
def ActOk (W : World) (r : AcR) : Prop := AcAt W r ∧ P.tyAc r.x ∧ r.x.text.length ≤ 9223372036854775807 ∧ r.x.draws.length ≤ 9223372036854775807 ∧ r.x.cr.keep.length ≤ 9223372036854775807 ∧ r.x.cr.spoil.length ≤ 9223372036854775807
set_option maxRecDepth 100000 in
theorem spot_ex {H : Type} {enc : TypeId × Value → H} {W : World} {base : Nat} {sp : Nat → Bool} {held : Bool} (vs : Nat → Value)
    (hf : ∀ (j : Nat) (f : Field), (Tryd.prog.fieldsOf 26)[j]? = some f → ∃ m y, DataW.trod enc Tryd.prog W base sp held m f.type [vs j] = some y) : ∃ x : Int × Nat, x.2 < 4294967296 ∧ ∀ j, j < 2 → (spotCells x)[j]? = some (vs j) := by
  obtain ⟨m0, x0, t0⟩ := hf 0 _ rfl
  obtain ⟨m1, x1, t1⟩ := hf 1 _ rfl
  obtain ⟨z0, e0, _, w0⟩ := DataW.trod_int Tryd.underlying3 t0
  obtain ⟨z1, e1, _, w1⟩ := DataW.trod_int Tryd.underlying24 t1
  have h1 := u32_bd w1
  obtain ⟨n1, rfl⟩ : ∃ q : Nat, z1 = (q : Int) := ⟨z1.toNat, by omega⟩
  have f0 : vs 0 = .int .i64 z0 := by simpa using e0
  have f1 : vs 1 = .int .u32 (n1 : Int) := by simpa using e1
  refine ⟨⟨z0, n1⟩, by show n1 < _; omega, fun j hj => ?_⟩
  match j, hj with
  | 0, _ => rw [f0]; rfl
  | 1, _ => rw [f1]; rfl
set_option maxRecDepth 100000 in
theorem act_ex {H : Type} {enc : TypeId × Value → H} {W : World} {base : Nat} {sp : Nat → Bool} {held : Bool} (vs : List Value) (hl : vs.length = 7)
    (hf : ∀ (j : Nat) (f : Field), (Tryd.prog.fieldsOf 32)[j]? = some f → ∃ m y, DataW.trod enc Tryd.prog W base sp held m f.type ((vs.drop f.offset).take (Tryd.prog.cellsOf f.type)) = some y) : ∃ x : AcR, ActOk W x ∧ ∀ j, j < 7 → (acCells x)[j]? = vs[j]? := by
  obtain ⟨v0, v1, v2, v3, v4, v5, v6, rfl⟩ : ∃ v0 v1 v2 v3 v4 v5 v6, vs = [v0, v1, v2, v3, v4, v5, v6] := by
    match vs, hl with
    | [v0, v1, v2, v3, v4, v5, v6], _ => exact ⟨v0, v1, v2, v3, v4, v5, v6, rfl⟩
  obtain ⟨m0, y0, t0⟩ := hf 0 _ rfl
  obtain ⟨m1, y1, t1⟩ := hf 1 _ rfl
  obtain ⟨m2, y2, t2⟩ := hf 2 _ rfl
  obtain ⟨m3, y3, t3⟩ := hf 3 _ rfl
  obtain ⟨m4, y4, t4⟩ := hf 4 _ rfl
  have t0 : DataW.trod enc Tryd.prog W base sp held m0 5 [v0] = some y0 := t0
  have t1 : DataW.trod enc Tryd.prog W base sp held m1 22 [v1] = some y1 := t1
  have t2 : DataW.trod enc Tryd.prog W base sp held m2 9 [v2] = some y2 := t2
  have t3 : DataW.trod enc Tryd.prog W base sp held m3 30 [v3] = some y3 := t3
  have t4 : DataW.trod enc Tryd.prog W base sp held m4 29 [v4, v5, v6] = some y4 := t4
  obtain ⟨z0, e0, _, w0⟩ := DataW.trod_int Tryd.underlying5 t0
  obtain ⟨z1, e1, _, w1⟩ := DataW.trod_int Tryd.underlying22 t1
  obtain ⟨⟨⟨s2⟩⟩, e2, _, b2⟩ := DataW.trod_string Tryd.underlying9 t2
  obtain ⟨a3, c3, l3, rfl, n3, k3, w3, d3⟩ := open_ints1 Tryd.underlying30 Tryd.underlying5 (by kernel_rfl) t3
  obtain ⟨ys, n', _, _, _, hyl, hfl⟩ := DataW.trod_struct (show Tryd.prog.underlying 29 = some (.struct (Tryd.prog.fieldsOf 29)) by kernel_rfl) t4
  have g0 := hfl 0 _ rfl
  have g1 := hfl 1 _ rfl
  have g2 := hfl 2 _ rfl
  have hy3 : ys.length = 3 := hyl
  obtain ⟨q0, q1, q2, rfl⟩ : ∃ q0 q1 q2, ys = [q0, q1, q2] := by
    match ys, hy3 with
    | [q0, q1, q2], _ => exact ⟨q0, q1, q2, rfl⟩
  have g0 : DataW.trod enc Tryd.prog W base sp held n' 3 [v4] = some q0 := g0
  have g1 : DataW.trod enc Tryd.prog W base sp held n' 23 [v5] = some q1 := g1
  have g2 : DataW.trod enc Tryd.prog W base sp held n' 27 [v6] = some q2 := g2
  obtain ⟨z4, e4, _, w4⟩ := DataW.trod_int Tryd.underlying3 g0
  obtain ⟨a5, c5, l5, rfl, n5, k5, w5, d5⟩ := open_ints1 Tryd.underlying23 Tryd.underlying3 (by kernel_rfl) g1
  obtain ⟨a6, c6, l6, rfl, k6, w6, d6, _, _⟩ := open_rows1 spotCells (fun x => x.2 < 4294967296) Tryd.underlying27 (show Tryd.prog.underlying 26 = some (.struct (Tryd.prog.fieldsOf 26)) by kernel_rfl) (by kernel_rfl) (by kernel_rfl) rfl (by decide) (fun vs hf => spot_ex vs hf) g2
  have h0 := u8_bd w0
  have h1 := u64_bdA w1
  obtain ⟨n0, rfl⟩ : ∃ q : Nat, z0 = (q : Int) := ⟨z0.toNat, by omega⟩
  obtain ⟨n1, rfl⟩ : ∃ q : Nat, z1 = (q : Int) := ⟨z1.toNat, by omega⟩
  obtain rfl : v0 = .int .u8 (n0 : Int) := by simpa using e0
  obtain rfl : v1 = .int .u64 (n1 : Int) := by simpa using e1
  obtain rfl : v2 = S s2 := by simpa using e2
  obtain rfl : v4 = .int .i64 z4 := by simpa using e4
  have hdl : (l3.map fun z => P.byt z.toNat).length = l3.length := List.length_map ..
  have hdraws : DrawsAt W a3 (l3.map fun z => P.byt z.toNat) := by
    rcases l3 with _ | ⟨z, l⟩
    · exact .inl rfl
    · obtain ⟨b, o, ha, hb, _⟩ := d3 0 (by simp)
      refine .inr ⟨b, o, ha, hb, fun j hj => ?_⟩
      rw [hdl] at hj
      obtain ⟨b', o', ha', _, hc⟩ := d3 j hj
      rw [ha] at ha'
      injection ha' with ha'
      injection ha' with hb1 ho1
      subst hb1 ho1
      rw [hc, List.getElem_map]
      have hw := u8_bd (w3 _ (List.getElem_mem hj))
      generalize (z :: l)[j] = zz at *
      obtain ⟨q, rfl⟩ : ∃ q : Nat, zz = (q : Int) := ⟨zz.toNat, by omega⟩
      rw [Int.toNat_natCast, u8V_byt (by omega)]
  have hints : IntsAt W a5 l5 := by
    intro i hi
    obtain ⟨b, o, ha, hb, hc⟩ := d5 i hi
    refine ⟨b, o, ha, hb, fun j hj => ?_⟩
    obtain rfl : j = 0 := by omega
    rw [Nat.mul_one, Nat.add_zero, hc]
    rfl
  refine ⟨⟨⟨n0, n1, s2, l3.map fun z => P.byt z.toNat, ⟨z4, l5, l6⟩⟩, a3, c3, a5, c5, a6, c6⟩, ⟨⟨hdraws, n3, hints, d6⟩, ⟨by show n0 < _; omega, by show n1 < _; omega, w6⟩, by have h := b2; unfold maxLen at h; exact h, by rw [hdl]; exact k3, k5, k6⟩, fun j hj => ?_⟩
  have hc3 : acCells ⟨⟨n0, n1, s2, l3.map fun z => P.byt z.toNat, ⟨z4, l5, l6⟩⟩, a3, c3, a5, c5, a6, c6⟩ = [.int .u8 n0, V64 n1, S s2, .slice a3 l3.length c3, .int .i64 z4, .slice a5 l5.length c5, .slice a6 l6.length c6] := by unfold acCells; rw [hdl]
  rw [hc3]
set_option maxRecDepth 100000 in
theorem open_acts {H : Type} {enc : TypeId × Value → H} {W : World} {base : Nat} {sp : Nat → Bool} {held : Bool} {a : Option Addr} {n c : Nat} {d : DataW H} {p : List MemPlace}
    (h : DataW.Trod enc Tryd.prog W base sp held 36 (.slice a n c) d p) :
    ∃ rs : List AcR, n = rs.length ∧ n ≤ 9223372036854775807 ∧ ActsAt W a rs ∧ (∀ r ∈ rs, r.x.text.length ≤ 9223372036854775807 ∧ r.x.draws.length ≤ 9223372036854775807 ∧ r.x.cr.keep.length ≤ 9223372036854775807 ∧ r.x.cr.spoil.length ≤ 9223372036854775807) ∧ n ≤ c := by
  obtain ⟨l, h1, h2, h3, h4, h5, _⟩ := open_rowsW acCells (ActOk W) Tryd.underlying36 (show Tryd.prog.underlying 32 = some (.struct (Tryd.prog.fieldsOf 32)) by kernel_rfl) (show Tryd.prog.cellsOf 32 = 7 by kernel_rfl) (by decide) (fun vs hl hf => act_ex vs hl hf) h
  exact ⟨l, h1.symm, by omega, ⟨h4, fun r hr => (h3 r hr).1, fun r hr => (h3 r hr).2.1⟩, fun r hr => (h3 r hr).2.2, h5⟩
end Go.Proofs.YtnflbgindcejjaaDoor
