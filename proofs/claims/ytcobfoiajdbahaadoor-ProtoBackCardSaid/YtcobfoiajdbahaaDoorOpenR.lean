/- An argument that is a slice of structs, opened to a list. -/
import Derived.Test.YtcobfoiajdbahaaDoorOpenT
import Derived.Test.YtcobfoiajdbahaaDoorWOwnR
import Derived.Deep.Slices
import Derived.Deep.Fields
namespace Go.Proofs.YtcobfoiajdbahaaDoor
open Go.RowKit Go.ChangeShapes Go.WideShapes Go.Deep

theorem open_rows {α : Type} {H : Type} {enc : TypeId × Value → H} {P : Program} {W : World} {base : Nat} {sp : Nat → Bool} {held : Bool} {t e : TypeId} {fs : Array Field} {k : Nat} {a : Option Addr} {n c : Nat} {d : DataW H} {p : List MemPlace}
    (cs : α → List Value) (Q : α → Prop) (ht : P.underlying t = some (.slice e)) (he : P.underlying e = some (.struct fs)) (hone : oneCellFields P fs = true) (hC : P.cellsOf e = fs.size) (hk : fs.size = k) (hk0 : 0 < k)
    (ex : ∀ vs : Nat → Value, (∀ (j : Nat) (f : Field), fs[j]? = some f → ∃ m y, DataW.trod enc P W base sp held m f.type [vs j] = some y) → ∃ x : α, Q x ∧ ∀ j, j < k → (cs x)[j]? = some (vs j))
    (h : DataW.Trod enc P W base sp held t (.slice a n c) d p) :
    ∃ l : List α, l.length = n ∧ l.length ≤ 9223372036854775807 ∧ (∀ x ∈ l, Q x) ∧ RowsAt k cs W a l ∧ n ≤ c ∧ (a = none → c = 0) := by
  obtain ⟨fuel, hf⟩ := h
  rcases open_slice ht hf with ⟨hcs, _⟩ | ⟨a', len, cap, m, mm, D, Pl, hcs, hb, hle, hm, hmm, hx, hi⟩
  · simp [Value.cells] at hcs
    obtain ⟨rfl, rfl, rfl⟩ := hcs
    exact ⟨[], rfl, by simp, fun x hx => by simp at hx, fun i hi => by simp at hi, Nat.le_refl _, fun _ => rfl⟩
  · simp [Value.cells] at hcs
    obtain ⟨rfl, rfl, rfl⟩ := hcs
    have hlm : n ≤ m := by rw [hmm]; split <;> omega
    have hcell : ∀ i, i < n → ∃ cs' : List Value, cs'.length = k ∧ (∀ j (hj : j < k), W.cell? (a'.add (i * k + j)) = cs'[j]?) ∧ ∀ (j : Nat) (f : Field), fs[j]? = some f → ∃ m y, DataW.trod enc P W base sp held m f.type [cs'.getD j default] = some y := by
      intro i hin
      obtain ⟨cs', hc, ht'⟩ := hi i (by omega)
      rw [hC, hk] at hc
      obtain ⟨ys, n', hn', hy, hlen, hyl, hfl⟩ := DataW.trod_struct he ht'
      obtain ⟨_, hcl, hat⟩ := World.cells?_some hc
      refine ⟨cs', hcl, fun j hj => by rw [← Go.Deep.add_add]; exact hat j hj, fun j f hj => ?_⟩
      obtain ⟨ho, hk1⟩ := hone_of hone j f hj
      have hjl : j < fs.size := (Array.getElem?_eq_some_iff.1 hj).1
      have h1 := hfl j f hj
      rw [ho, hk1] at h1
      have hone' : (cs'.drop j).take 1 = [cs'.getD j default] := by
        rw [List.drop_eq_getElem_cons (by omega), List.getD_eq_getElem?_getD, List.getElem?_eq_getElem (by omega)]
        rfl
      rw [hone'] at h1
      have hys : ys[j]? = some (ys[j]'(by omega)) := List.getElem?_eq_getElem (by omega)
      exact ⟨n', _, h1.trans hys⟩
    have each : ∀ i, i < n → ∃ x : α, Q x ∧ ∃ b o, a' = ⟨b, o, none⟩ ∧ b < W.heap.size ∧ ∀ j, j < k → W.cell? ⟨b, o + i * k + j, none⟩ = (cs x)[j]? := by
      intro i hin
      obtain ⟨c0, hl0, hc0, _⟩ := hcell 0 (by omega)
      have h00 := hc0 0 hk0
      rw [Nat.zero_mul, Nat.add_zero, List.getElem?_eq_getElem (by omega), show a'.add 0 = a' by simp [Addr.add]] at h00
      have hspot := addr_plain h00
      obtain ⟨cs', hcl, hat, hfl⟩ := hcell i hin
      obtain ⟨x, hQ, hxc⟩ := ex (fun j => cs'.getD j default) hfl
      refine ⟨x, hQ, a'.block, a'.off, hspot, World.block_lt_of_cell? W _ h00, fun j hj => ?_⟩
      have := hat j hj
      rw [hspot, addr_add] at this
      rw [Nat.add_assoc, this, hxc j hj, List.getD_eq_getElem?_getD, List.getElem?_eq_getElem (by omega)]
      rfl
    refine ⟨List.ofFn (n := n) fun i => (each i i.2).choose, by simp, by unfold maxLen at hm; simp; omega, fun x hx => ?_, fun i hi => ?_, hle, fun h => by cases h⟩
    · obtain ⟨i, hi⟩ := (List.mem_ofFn ..).1 hx
      rw [← hi]
      exact (each i i.2).choose_spec.1
    · have hin : i < n := by simpa using hi
      obtain ⟨b, o, ha, hlt, hc⟩ := (each i hin).choose_spec.2
      refine ⟨b, o, by rw [ha], hlt, fun j hj => ?_⟩
      rw [hc j hj]
      simp
/-- The same of one cell that holds a slice. -/
theorem open_rows1 {α : Type} {H : Type} {enc : TypeId × Value → H} {P : Program} {W : World} {base : Nat} {sp : Nat → Bool} {held : Bool} {t e : TypeId} {fs : Array Field} {k fuel : Nat} {u : Value} {y : DataW H × List MemPlace}
    (cs : α → List Value) (Q : α → Prop) (ht : P.underlying t = some (.slice e)) (he : P.underlying e = some (.struct fs)) (hone : oneCellFields P fs = true) (hC : P.cellsOf e = fs.size) (hk : fs.size = k) (hk0 : 0 < k)
    (ex : ∀ vs : Nat → Value, (∀ (j : Nat) (f : Field), fs[j]? = some f → ∃ m y, DataW.trod enc P W base sp held m f.type [vs j] = some y) → ∃ x : α, Q x ∧ ∀ j, j < k → (cs x)[j]? = some (vs j))
    (h : DataW.trod enc P W base sp held fuel t [u] = some y) :
    ∃ (a : Option Addr) (c : Nat) (l : List α), u = .slice a l.length c ∧ l.length ≤ 9223372036854775807 ∧ (∀ x ∈ l, Q x) ∧ RowsAt k cs W a l ∧ l.length ≤ c ∧ (a = none → c = 0) := by
  have hu : ∃ a n c, u = .slice a n c := by
    rcases open_slice ht h with ⟨hcs, _⟩ | ⟨a', len, cap, m, mm, D, Pl, hcs, _⟩
    · exact ⟨none, 0, 0, by simpa using hcs⟩
    · exact ⟨_, _, _, by simpa using hcs⟩
  obtain ⟨a, n, c, rfl⟩ := hu
  obtain ⟨l, h1, h2, h3, h4, h5, h6⟩ := open_rows (n := n) (c := c) (a := a) (d := y.1) (p := y.2) cs Q ht he hone hC hk hk0 ex ⟨fuel, by simpa [Value.cells] using h⟩
  subst h1
  exact ⟨a, c, l, rfl, h2, h3, h4, h5, h6⟩
end Go.Proofs.YtcobfoiajdbahaaDoor
