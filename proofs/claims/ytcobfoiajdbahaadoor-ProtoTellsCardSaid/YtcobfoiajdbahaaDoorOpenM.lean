/- An argument that is an answer, opened. -/
import Derived.Test.YtcobfoiajdbahaaDoorLift
import Derived.Test.YtcobfoiajdbahaaDoorWBaseQ
import Derived.SliceStrings
import Derived.Deep.Slices
import Derived.Deep.Fields
import Derived.Test.YtcobfoiajdbahaaDoorWQWr
import Derived.Lib.SmallJoins
import Derived.Test.YtcobfoiajdbahaaDoorWQAnsAt
import Derived.ChangeSlices
namespace Go.Proofs.YtcobfoiajdbahaaDoor
open Go.RowKit Go.ChangeShapes Go.WideShapes
theorem addr_plain {w : World} {a : Addr} {v : Value} (h : w.cell? a = some v) : a = ⟨a.block, a.off, none⟩ := by
  obtain ⟨b, o, s⟩ := a
  cases s with
  | none => rfl
  | some x =>
    unfold World.cell? at h
    split at h
    · simp at h
    · cases h
theorem addr_add (b o i : Nat) : (⟨b, o, none⟩ : Addr).add i = ⟨b, o + i, none⟩ := by
  unfold Addr.add
  split
  · rename_i h; subst h; rfl
  · rfl
end Go.Proofs.YtcobfoiajdbahaaDoor
namespace Go.Proofs.YtcobfoiajdbahaaDoor
open Go.RowKit Go.ChangeShapes Go.WideShapes Go.Deep
end Go.Proofs.YtcobfoiajdbahaaDoor
namespace Go.Proofs.YtcobfoiajdbahaaDoor
open Go.RowKit Go.ChangeShapes Go.WideShapes Go.Deep Go.Joins
theorem u64_bdQ {x : Int} (h : (Lit.int .u64 x).wf = true) : 0 ≤ x ∧ x < 18446744073709551616 := by
  simp [Lit.wf, IntKind.min, IntKind.max, IntKind.signed, IntKind.bits] at h
  omega
theorem u8_bdQ {z : Int} (h : (Lit.int .u8 z).wf = true) : 0 ≤ z ∧ z < 256 := by
  simp [Lit.wf, IntKind.min, IntKind.max, IntKind.signed, IntKind.bits] at h
  omega
theorem i64_bdQ {x : Int} (h : (Lit.int .i64 x).wf = true) : -9223372036854775808 ≤ x ∧ x ≤ 9223372036854775807 := by
  simp [Lit.wf, IntKind.min, IntKind.max, IntKind.signed, IntKind.bits] at h
  omega
section
variable {H : Type} {enc : TypeId × Value → H} {W : World} {base : Nat} {sp : Nat → Bool} {held : Bool}
theorem cell_u8 {n : Nat} {u : Value} {y : DataW H × List MemPlace} (h : DataW.trod enc Tryd.prog W base sp held n 5 [u] = some y) : ∃ q : Nat, q < 256 ∧ u = .int .u8 (q : Int) := by
  obtain ⟨z, e, _, b⟩ := DataW.trod_int Tryd.underlying5 h
  have hb := u8_bdQ b
  exact ⟨z.toNat, by omega, by rw [show ((z.toNat : Nat) : Int) = z by omega]; simpa using e⟩
theorem cell_u64 {n : Nat} {u : Value} {y : DataW H × List MemPlace} (h : DataW.trod enc Tryd.prog W base sp held n 22 [u] = some y) : ∃ q : Nat, q < 18446744073709551616 ∧ u = V64 q := by
  obtain ⟨z, e, _, b⟩ := DataW.trod_int Tryd.underlying22 h
  have hb := u64_bdQ b
  exact ⟨z.toNat, by omega, by show u = .int .u64 _; rw [show ((z.toNat : Nat) : Int) = z by omega]; simpa using e⟩
theorem cell_int {n : Nat} {u : Value} {y : DataW H × List MemPlace} (h : DataW.trod enc Tryd.prog W base sp held n 3 [u] = some y) : ∃ z : Int, (-9223372036854775808 ≤ z ∧ z ≤ 9223372036854775807) ∧ u = .int .i64 z := by
  obtain ⟨z, e, _, b⟩ := DataW.trod_int Tryd.underlying3 h
  exact ⟨z, i64_bdQ b, by simpa using e⟩
theorem cell_str {n : Nat} {u : Value} {y : DataW H × List MemPlace} (h : DataW.trod enc Tryd.prog W base sp held n 9 [u] = some y) : ∃ s : List UInt8, s.length ≤ 9223372036854775807 ∧ u = S s := by
  obtain ⟨⟨⟨s⟩⟩, e, _, b⟩ := DataW.trod_string Tryd.underlying9 h
  exact ⟨s, by have h := b; unfold maxLen at h; exact h, by simpa using e⟩
set_option maxRecDepth 100000 in
theorem cells_ad {n : Nat} {a b c : Value} {y : DataW H × List MemPlace} (h : DataW.trod enc Tryd.prog W base sp held n 24 [a, b, c] = some y) : ∃ x : P.Ad, P.tyA x ∧ a = .int .u8 (x.fam : Nat) ∧ b = V64 x.hi ∧ c = V64 x.lo := by
  obtain ⟨ys, n', _, _, _, hyl, hfl⟩ := DataW.trod_struct (show Tryd.prog.underlying 24 = some (.struct (Tryd.prog.fieldsOf 24)) by kernel_rfl) h
  have g0 := hfl 0 _ rfl
  have g1 := hfl 1 _ rfl
  have g2 := hfl 2 _ rfl
  have hy : ys.length = 3 := hyl
  obtain ⟨q0, q1, q2, rfl⟩ : ∃ q0 q1 q2, ys = [q0, q1, q2] := by
    match ys, hy with
    | [q0, q1, q2], _ => exact ⟨q0, q1, q2, rfl⟩
  have g0 : DataW.trod enc Tryd.prog W base sp held n' 5 [a] = some q0 := g0
  have g1 : DataW.trod enc Tryd.prog W base sp held n' 22 [b] = some q1 := g1
  have g2 : DataW.trod enc Tryd.prog W base sp held n' 22 [c] = some q2 := g2
  obtain ⟨f, hf, e0⟩ := cell_u8 g0
  obtain ⟨i, hi, e1⟩ := cell_u64 g1
  obtain ⟨l, hl, e2⟩ := cell_u64 g2
  exact ⟨⟨f, i, l⟩, ⟨hf, hi, hl⟩, e0, e1, e2⟩
set_option maxRecDepth 100000 in
theorem cells_px {n : Nat} {a b c d : Value} {y : DataW H × List MemPlace} (h : DataW.trod enc Tryd.prog W base sp held n 26 [a, b, c, d] = some y) : ∃ x : P.Px, P.tyX x ∧ a = .int .u8 (x.a.fam : Nat) ∧ b = V64 x.a.hi ∧ c = V64 x.a.lo ∧ d = .int .i64 x.bits := by
  obtain ⟨ys, n', _, _, _, hyl, hfl⟩ := DataW.trod_struct (show Tryd.prog.underlying 26 = some (.struct (Tryd.prog.fieldsOf 26)) by kernel_rfl) h
  have g0 := hfl 0 _ rfl
  have g1 := hfl 1 _ rfl
  have hy : ys.length = 2 := hyl
  obtain ⟨q0, q1, rfl⟩ : ∃ q0 q1, ys = [q0, q1] := by
    match ys, hy with
    | [q0, q1], _ => exact ⟨q0, q1, rfl⟩
  have g0 : DataW.trod enc Tryd.prog W base sp held n' 24 [a, b, c] = some q0 := g0
  have g1 : DataW.trod enc Tryd.prog W base sp held n' 3 [d] = some q1 := g1
  obtain ⟨x, hx, e0, e1, e2⟩ := cells_ad g0
  obtain ⟨z, hz, e3⟩ := cell_int g1
  exact ⟨⟨x, z⟩, ⟨hx, hz.1, hz.2⟩, e0, e1, e2, e3⟩
end
set_option maxRecDepth 100000 in
/-- A call's reading. -/
theorem open_call {H : Type} {enc : TypeId × Value → H} {W : World} {base b0 : Nat} {r : Reach} {sp : Nat → Bool} {held : Bool} {v : Value} {d : DataW H} {p : List MemPlace}
    (hv : Value.okWide Tryd.prog W r b0 28 v) (h : DataW.Trod enc Tryd.prog W base sp held 28 v d p) :
    ∃ x : P.Ca, v = caV x ∧ P.tyC x ∧ x.owner.length ≤ 9223372036854775807 ∧ x.to.length ≤ 9223372036854775807 := by
  have hs : Tryd.prog.underlying 28 = some (.struct (Tryd.prog.fieldsOf 28)) := by kernel_rfl
  have hC : Tryd.prog.cellsOf 28 = 15 := by kernel_rfl
  obtain ⟨cs, rfl, hsz⟩ := okWide_struct hs hv
  obtain ⟨fuel, hf⟩ := h
  obtain ⟨ys, n, _, _, _, hyl, hfl⟩ := DataW.trod_struct hs hf
  have hcl : cs.toList.length = 15 := by rw [hC] at hsz; simpa using hsz
  obtain ⟨v0, v1, v2, v3, v4, v5, v6, v7, v8, v9, v10, v11, v12, v13, v14, hcs⟩ : ∃ v0 v1 v2 v3 v4 v5 v6 v7 v8 v9 v10 v11 v12 v13 v14, cs.toList = [v0, v1, v2, v3, v4, v5, v6, v7, v8, v9, v10, v11, v12, v13, v14] := by
    match cs.toList, hcl with
    | [v0, v1, v2, v3, v4, v5, v6, v7, v8, v9, v10, v11, v12, v13, v14], _ => exact ⟨v0, v1, v2, v3, v4, v5, v6, v7, v8, v9, v10, v11, v12, v13, v14, rfl⟩
  obtain rfl : cs = #[v0, v1, v2, v3, v4, v5, v6, v7, v8, v9, v10, v11, v12, v13, v14] := by rw [← Array.toArray_toList (xs := cs), hcs]
  clear hcs hcl hsz
  have hy : ys.length = 10 := hyl
  obtain ⟨q0, q1, q2, q3, q4, q5, q6, q7, q8, q9, rfl⟩ : ∃ q0 q1 q2 q3 q4 q5 q6 q7 q8 q9, ys = [q0, q1, q2, q3, q4, q5, q6, q7, q8, q9] := by
    match ys, hy with
    | [q0, q1, q2, q3, q4, q5, q6, q7, q8, q9], _ => exact ⟨q0, q1, q2, q3, q4, q5, q6, q7, q8, q9, rfl⟩
  have g0 : DataW.trod enc Tryd.prog W base sp held n 5 [v0] = some q0 := hfl 0 _ rfl
  have g1 : DataW.trod enc Tryd.prog W base sp held n 5 [v1] = some q1 := hfl 1 _ rfl
  have g2 : DataW.trod enc Tryd.prog W base sp held n 22 [v2] = some q2 := hfl 2 _ rfl
  have g3 : DataW.trod enc Tryd.prog W base sp held n 26 [v3, v4, v5, v6] = some q3 := hfl 3 _ rfl
  have g4 : DataW.trod enc Tryd.prog W base sp held n 24 [v7, v8, v9] = some q4 := hfl 4 _ rfl
  have g5 : DataW.trod enc Tryd.prog W base sp held n 9 [v10] = some q5 := hfl 5 _ rfl
  have g6 : DataW.trod enc Tryd.prog W base sp held n 9 [v11] = some q6 := hfl 6 _ rfl
  have g7 : DataW.trod enc Tryd.prog W base sp held n 22 [v12] = some q7 := hfl 7 _ rfl
  have g8 : DataW.trod enc Tryd.prog W base sp held n 22 [v13] = some q8 := hfl 8 _ rfl
  have g9 : DataW.trod enc Tryd.prog W base sp held n 3 [v14] = some q9 := hfl 9 _ rfl
  obtain ⟨op, h0, rfl⟩ := cell_u8 g0
  obtain ⟨cl, h1, rfl⟩ := cell_u8 g1
  obtain ⟨nu, h2, rfl⟩ := cell_u64 g2
  obtain ⟨px, h3, rfl, rfl, rfl, rfl⟩ := cells_px g3
  obtain ⟨ad, h4, rfl, rfl, rfl⟩ := cells_ad g4
  obtain ⟨o, h5, rfl⟩ := cell_str g5
  obtain ⟨t, h6, rfl⟩ := cell_str g6
  obtain ⟨d', h7, rfl⟩ := cell_u64 g7
  obtain ⟨f, h8, rfl⟩ := cell_u64 g8
  obtain ⟨z, h9, rfl⟩ := cell_int g9
  exact ⟨⟨op, cl, nu, px, ad, o, t, d', f, z⟩, rfl, ⟨h0, h1, h2, h3, h4, h7, h8, h9.1, h9.2⟩, h5, h6⟩
end Go.Proofs.YtcobfoiajdbahaaDoor
namespace Go.Proofs.YtcobfoiajdbahaaDoor
open Go.RowKit Go.ChangeShapes Go.WideShapes Go.Deep Go.Joins
/-- A slice of structs of any fields in one cell: 'ex' is told each field's cells. -/
theorem open_rowsW1 {α : Type} {H : Type} {enc : TypeId × Value → H} {P : Program} {W : World} {base : Nat} {sp : Nat → Bool} {held : Bool} {t e : TypeId} {fs : Array Field} {k fuel : Nat} {u : Value} {y : DataW H × List MemPlace}
    (cs : α → List Value) (Q : α → Prop) (ht : P.underlying t = some (.slice e)) (he : P.underlying e = some (.struct fs)) (hC : P.cellsOf e = k) (hk0 : 0 < k)
    (ex : ∀ vs : List Value, vs.length = k → (∀ (j : Nat) (f : Field), fs[j]? = some f → ∃ m y, DataW.trod enc P W base sp held m f.type ((vs.drop f.offset).take (P.cellsOf f.type)) = some y) → ∃ x : α, Q x ∧ ∀ j, j < k → (cs x)[j]? = vs[j]?)
    (hf : DataW.trod enc P W base sp held fuel t [u] = some y) :
    ∃ (a : Option Addr) (c : Nat) (l : List α), u = .slice a l.length c ∧ (∀ x ∈ l, Q x) ∧ RowsAt k cs W a l := by
  rcases open_slice ht hf with ⟨hcs, _⟩ | ⟨a', len, cap, m, mm, D, Pl, hcs, hb, hle, hm, hmm, hx, hi⟩
  · obtain rfl : u = .slice none 0 0 := by simpa using hcs
    exact ⟨none, 0, [], rfl, fun x hx => (by simp at hx), fun i hi => (by simp at hi)⟩
  · obtain rfl : u = .slice (some a') len cap := by simpa using hcs
    have hlm : len ≤ m := by rw [hmm]; split <;> omega
    have hcell : ∀ i, i < len → ∃ cs' : List Value, cs'.length = k ∧ (∀ j (hj : j < k), W.cell? (a'.add (i * k + j)) = cs'[j]?) ∧ ∀ (j : Nat) (f : Field), fs[j]? = some f → ∃ m y, DataW.trod enc P W base sp held m f.type ((cs'.drop f.offset).take (P.cellsOf f.type)) = some y := by
      intro i hin
      obtain ⟨cs', hc, ht'⟩ := hi i (by omega)
      rw [hC] at hc
      obtain ⟨ys, n', hn', hy, hlen, hyl, hfl⟩ := DataW.trod_struct he ht'
      obtain ⟨_, hcl, hat⟩ := World.cells?_some hc
      refine ⟨cs', hcl, fun j hj => by rw [← Go.Deep.add_add]; exact hat j hj, fun j f hj => ?_⟩
      have hjl : j < fs.size := (Array.getElem?_eq_some_iff.1 hj).1
      have h1 := hfl j f hj
      have hys : ys[j]? = some (ys[j]'(by omega)) := List.getElem?_eq_getElem (by omega)
      exact ⟨n', _, h1.trans hys⟩
    have each : ∀ i, i < len → ∃ x : α, Q x ∧ ∃ b o, a' = ⟨b, o, none⟩ ∧ b < W.heap.size ∧ ∀ j, j < k → W.cell? ⟨b, o + i * k + j, none⟩ = (cs x)[j]? := by
      intro i hin
      obtain ⟨c0, hl0, hc0, _⟩ := hcell 0 (by omega)
      have h00 := hc0 0 hk0
      rw [Nat.zero_mul, Nat.add_zero, List.getElem?_eq_getElem (by omega), show a'.add 0 = a' by simp [Addr.add]] at h00
      have hspot := addr_plain h00
      obtain ⟨cs', hcl, hat, hfl⟩ := hcell i hin
      obtain ⟨x, hQ, hxc⟩ := ex cs' hcl hfl
      refine ⟨x, hQ, a'.block, a'.off, hspot, World.block_lt_of_cell? W _ h00, fun j hj => ?_⟩
      have := hat j hj
      rw [hspot, addr_add] at this
      rw [Nat.add_assoc, this, hxc j hj]
    refine ⟨some a', cap, List.ofFn (n := len) fun i => (each i i.2).choose, by simp, fun x hx => ?_, fun i hi => ?_⟩
    · obtain ⟨i, hi⟩ := (List.mem_ofFn ..).1 hx
      rw [← hi]
      exact (each i i.2).choose_spec.1
    · have hin : i < len := by simpa using hi
      obtain ⟨b, o, ha, hlt, hc⟩ := (each i hin).choose_spec.2
      refine ⟨b, o, by rw [ha], hlt, fun j hj => ?_⟩
      rw [hc j hj]
      simp
section
variable {H : Type} {enc : TypeId × Value → H} {W : World} {base : Nat} {sp : Nat → Bool} {held : Bool}
theorem cell_bool {n : Nat} {u : Value} {y : DataW H × List MemPlace} (h : DataW.trod enc Tryd.prog W base sp held n 4 [u] = some y) : ∃ b : Bool, u = .bool b := by
  obtain ⟨s2, e2, _⟩ := DataW.trod_bool Tryd.underlying4 h
  exact ⟨s2, by simpa using e2⟩
set_option maxRecDepth 100000 in
theorem cells_le {n : Nat} {a b : Value} {y : DataW H × List MemPlace} (h : DataW.trod enc Tryd.prog W base sp held n 31 [a, b] = some y) : ∃ (s : List UInt8) (t : Nat), s.length ≤ 9223372036854775807 ∧ t < 18446744073709551616 ∧ a = S s ∧ b = V64 t := by
  obtain ⟨ys, n', _, _, _, hyl, hfl⟩ := DataW.trod_struct (show Tryd.prog.underlying 31 = some (.struct (Tryd.prog.fieldsOf 31)) by kernel_rfl) h
  have g0 := hfl 0 _ rfl
  have g1 := hfl 1 _ rfl
  have hy : ys.length = 2 := hyl
  obtain ⟨q0, q1, rfl⟩ : ∃ q0 q1, ys = [q0, q1] := by
    match ys, hy with
    | [q0, q1], _ => exact ⟨q0, q1, rfl⟩
  have g0 : DataW.trod enc Tryd.prog W base sp held n' 9 [a] = some q0 := g0
  have g1 : DataW.trod enc Tryd.prog W base sp held n' 22 [b] = some q1 := g1
  obtain ⟨s, hs, e0⟩ := cell_str g0
  obtain ⟨t, ht, e1⟩ := cell_u64 g1
  exact ⟨s, t, hs, ht, e0, e1⟩
set_option maxRecDepth 100000 in
theorem rw_ex (vs : List Value) (hl : vs.length = 5)
    (hf : ∀ (j : Nat) (f : Field), (Tryd.prog.fieldsOf 80)[j]? = some f → ∃ m y, DataW.trod enc Tryd.prog W base sp held m f.type ((vs.drop f.offset).take (Tryd.prog.cellsOf f.type)) = some y) : ∃ x : P.Rw, (P.tyR x ∧ x.owner.length ≤ 9223372036854775807) ∧ ∀ j, j < 5 → (rwC x)[j]? = vs[j]? := by
  obtain ⟨v0, v1, v2, v3, v4, rfl⟩ : ∃ v0 v1 v2 v3 v4, vs = [v0, v1, v2, v3, v4] := by
    match vs, hl with
    | [v0, v1, v2, v3, v4], _ => exact ⟨v0, v1, v2, v3, v4, rfl⟩
  obtain ⟨m0, y0, t0⟩ := hf 0 _ rfl
  obtain ⟨m1, y1, t1⟩ := hf 1 _ rfl
  have t0 : DataW.trod enc Tryd.prog W base sp held m0 24 [v0, v1, v2] = some y0 := t0
  have t1 : DataW.trod enc Tryd.prog W base sp held m1 31 [v3, v4] = some y1 := t1
  obtain ⟨x, hx, rfl, rfl, rfl⟩ := cells_ad t0
  obtain ⟨s, t, hs, ht, rfl, rfl⟩ := cells_le t1
  exact ⟨⟨x, s, t⟩, ⟨⟨hx, ht⟩, hs⟩, fun j _ => rfl⟩
set_option maxRecDepth 100000 in
theorem ev_ex (vs : List Value) (hl : vs.length = 4)
    (hf : ∀ (j : Nat) (f : Field), (Tryd.prog.fieldsOf 82)[j]? = some f → ∃ m y, DataW.trod enc Tryd.prog W base sp held m f.type ((vs.drop f.offset).take (Tryd.prog.cellsOf f.type)) = some y) : ∃ x : P.Ev, (P.tyE x ∧ x.owner.length ≤ 9223372036854775807) ∧ ∀ j, j < 4 → (evC x)[j]? = vs[j]? := by
  obtain ⟨v0, v1, v2, v3, rfl⟩ : ∃ v0 v1 v2 v3, vs = [v0, v1, v2, v3] := by
    match vs, hl with
    | [v0, v1, v2, v3], _ => exact ⟨v0, v1, v2, v3, rfl⟩
  obtain ⟨m0, y0, t0⟩ := hf 0 _ rfl
  obtain ⟨m1, y1, t1⟩ := hf 1 _ rfl
  obtain ⟨m2, y2, t2⟩ := hf 2 _ rfl
  obtain ⟨m3, y3, t3⟩ := hf 3 _ rfl
  have t0 : DataW.trod enc Tryd.prog W base sp held m0 3 [v0] = some y0 := t0
  have t1 : DataW.trod enc Tryd.prog W base sp held m1 9 [v1] = some y1 := t1
  have t2 : DataW.trod enc Tryd.prog W base sp held m2 22 [v2] = some y2 := t2
  have t3 : DataW.trod enc Tryd.prog W base sp held m3 22 [v3] = some y3 := t3
  obtain ⟨z, hz, rfl⟩ := cell_int t0
  obtain ⟨s, hs, rfl⟩ := cell_str t1
  obtain ⟨q, hq, rfl⟩ := cell_u64 t2
  obtain ⟨q', hq', rfl⟩ := cell_u64 t3
  exact ⟨⟨z, s, q, q'⟩, ⟨⟨hz, hq, hq'⟩, hs⟩, fun j _ => rfl⟩
set_option maxRecDepth 100000 in
theorem px_ex (vs : List Value) (hl : vs.length = 4)
    (hf : ∀ (j : Nat) (f : Field), (Tryd.prog.fieldsOf 26)[j]? = some f → ∃ m y, DataW.trod enc Tryd.prog W base sp held m f.type ((vs.drop f.offset).take (Tryd.prog.cellsOf f.type)) = some y) : ∃ x : P.Px, P.tyX x ∧ ∀ j, j < 4 → (pxC x)[j]? = vs[j]? := by
  obtain ⟨v0, v1, v2, v3, rfl⟩ : ∃ v0 v1 v2 v3, vs = [v0, v1, v2, v3] := by
    match vs, hl with
    | [v0, v1, v2, v3], _ => exact ⟨v0, v1, v2, v3, rfl⟩
  obtain ⟨m0, y0, t0⟩ := hf 0 _ rfl
  obtain ⟨m1, y1, t1⟩ := hf 1 _ rfl
  have t0 : DataW.trod enc Tryd.prog W base sp held m0 24 [v0, v1, v2] = some y0 := t0
  have t1 : DataW.trod enc Tryd.prog W base sp held m1 3 [v3] = some y1 := t1
  obtain ⟨x, hx, rfl, rfl, rfl⟩ := cells_ad t0
  obtain ⟨z, hz, rfl⟩ := cell_int t1
  exact ⟨⟨x, z⟩, ⟨hx, hz.1, hz.2⟩, fun j _ => rfl⟩
end
set_option maxRecDepth 100000 in
/-- An answer's reading. -/
theorem open_answer {H : Type} {enc : TypeId × Value → H} {W : World} {base b0 : Nat} {r : Reach} {sp : Nat → Bool} {held : Bool} {v : Value} {d : DataW H} {p : List MemPlace}
    (hv : Value.okWide Tryd.prog W r b0 36 v) (h : DataW.Trod enc Tryd.prog W base sp held 36 v d p) :
    ∃ (a : P.An) (r1 : Option Addr) (rc : Nat) (v1 : Option Addr) (vc : Nat) (p1 : Option Addr) (pc : Nat), v = anV a r1 rc v1 vc p1 pc ∧ P.tyAn a ∧ a.owner.length ≤ 9223372036854775807 ∧ (∀ y ∈ a.rows, y.owner.length ≤ 9223372036854775807) ∧ (∀ y ∈ a.events, y.owner.length ≤ 9223372036854775807) ∧ AnsAt W a r1 v1 p1 := by
  have hs : Tryd.prog.underlying 36 = some (.struct (Tryd.prog.fieldsOf 36)) := by kernel_rfl
  have hC : Tryd.prog.cellsOf 36 = 16 := by kernel_rfl
  obtain ⟨cs, rfl, hsz⟩ := okWide_struct hs hv
  obtain ⟨fuel, hf⟩ := h
  obtain ⟨ys, n, _, _, _, hyl, hfl⟩ := DataW.trod_struct hs hf
  have hcl : cs.toList.length = 16 := by rw [hC] at hsz; simpa using hsz
  obtain ⟨v0, v1, v2, v3, v4, v5, v6, v7, v8, v9, v10, v11, v12, v13, v14, v15, hcs⟩ : ∃ v0 v1 v2 v3 v4 v5 v6 v7 v8 v9 v10 v11 v12 v13 v14 v15, cs.toList = [v0, v1, v2, v3, v4, v5, v6, v7, v8, v9, v10, v11, v12, v13, v14, v15] := by
    match cs.toList, hcl with
    | [v0, v1, v2, v3, v4, v5, v6, v7, v8, v9, v10, v11, v12, v13, v14, v15], _ => exact ⟨v0, v1, v2, v3, v4, v5, v6, v7, v8, v9, v10, v11, v12, v13, v14, v15, rfl⟩
  obtain rfl : cs = #[v0, v1, v2, v3, v4, v5, v6, v7, v8, v9, v10, v11, v12, v13, v14, v15] := by rw [← Array.toArray_toList (xs := cs), hcs]
  clear hcs hcl hsz
  have hy : ys.length = 10 := hyl
  obtain ⟨q0, q1, q2, q3, q4, q5, q6, q7, q8, q9, rfl⟩ : ∃ q0 q1 q2 q3 q4 q5 q6 q7 q8 q9, ys = [q0, q1, q2, q3, q4, q5, q6, q7, q8, q9] := by
    match ys, hy with
    | [q0, q1, q2, q3, q4, q5, q6, q7, q8, q9], _ => exact ⟨q0, q1, q2, q3, q4, q5, q6, q7, q8, q9, rfl⟩
  have g0 : DataW.trod enc Tryd.prog W base sp held n 24 [v0, v1, v2] = some q0 := hfl 0 _ rfl
  have g1 : DataW.trod enc Tryd.prog W base sp held n 31 [v3, v4] = some q1 := hfl 1 _ rfl
  have g2 : DataW.trod enc Tryd.prog W base sp held n 26 [v5, v6, v7, v8] = some q2 := hfl 2 _ rfl
  have g3 : DataW.trod enc Tryd.prog W base sp held n 4 [v9] = some q3 := hfl 3 _ rfl
  have g4 : DataW.trod enc Tryd.prog W base sp held n 4 [v10] = some q4 := hfl 4 _ rfl
  have g5 : DataW.trod enc Tryd.prog W base sp held n 4 [v11] = some q5 := hfl 5 _ rfl
  have g6 : DataW.trod enc Tryd.prog W base sp held n 22 [v12] = some q6 := hfl 6 _ rfl
  have g7 : DataW.trod enc Tryd.prog W base sp held n 32 [v13] = some q7 := hfl 7 _ rfl
  have g8 : DataW.trod enc Tryd.prog W base sp held n 33 [v14] = some q8 := hfl 8 _ rfl
  have g9 : DataW.trod enc Tryd.prog W base sp held n 34 [v15] = some q9 := hfl 9 _ rfl
  obtain ⟨ad, h0, rfl, rfl, rfl⟩ := cells_ad g0
  obtain ⟨o, t, h1, h1', rfl, rfl⟩ := cells_le g1
  obtain ⟨px, h2, rfl, rfl, rfl, rfl⟩ := cells_px g2
  obtain ⟨b3, rfl⟩ := cell_bool g3
  obtain ⟨b4, rfl⟩ := cell_bool g4
  obtain ⟨b5, rfl⟩ := cell_bool g5
  obtain ⟨ck, h6, rfl⟩ := cell_u64 g6
  obtain ⟨ra, rc, rl, rfl, h7, k7⟩ := open_rowsW1 rwC (fun x => P.tyR x ∧ x.owner.length ≤ 9223372036854775807) (show Tryd.prog.underlying 32 = some (.slice 80) by kernel_rfl) (show Tryd.prog.underlying 80 = some (.struct (Tryd.prog.fieldsOf 80)) by kernel_rfl) (show Tryd.prog.cellsOf 80 = 5 by kernel_rfl) (by decide) (fun vs hl hf => rw_ex vs hl hf) g7
  obtain ⟨ea, ec, el, rfl, h8, k8⟩ := open_rowsW1 evC (fun x => P.tyE x ∧ x.owner.length ≤ 9223372036854775807) (show Tryd.prog.underlying 33 = some (.slice 82) by kernel_rfl) (show Tryd.prog.underlying 82 = some (.struct (Tryd.prog.fieldsOf 82)) by kernel_rfl) (show Tryd.prog.cellsOf 82 = 4 by kernel_rfl) (by decide) (fun vs hl hf => ev_ex vs hl hf) g8
  obtain ⟨pa, pc, pl, rfl, h9, k9⟩ := open_rowsW1 pxC P.tyX (show Tryd.prog.underlying 34 = some (.slice 26) by kernel_rfl) (show Tryd.prog.underlying 26 = some (.struct (Tryd.prog.fieldsOf 26)) by kernel_rfl) (show Tryd.prog.cellsOf 26 = 4 by kernel_rfl) (by decide) (fun vs hl hf => px_ex vs hl hf) g9
  exact ⟨⟨ad, o, t, px, b3, b4, b5, ck, rl, el, pl⟩, ra, rc, ea, ec, pa, pc, rfl, ⟨h0, h1', h2, h6, fun y hy => (h7 y hy).1, fun y hy => (h8 y hy).1, h9⟩, h1, fun y hy => (h7 y hy).2, fun y hy => (h8 y hy).2, ⟨k7, k8, k9⟩⟩
end Go.Proofs.YtcobfoiajdbahaaDoor
