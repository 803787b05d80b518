/- An argument that is a slice of acts of a builder, opened to a list. -/
import Derived.Test.YthaiekilifoegaaOpenR
import Derived.Test.YthaiekilifoegaaOpenU
import Derived.Test.YthaiekilifoegaaWLawK
import Derived.Test.YthaiekilifoegaaWf
namespace Go.Proofs.Ythaiekilifoegaa
open Go.RowKit Go.ChangeShapes Go.WideShapes Go.Deep

theorem u8_bd {z : Int} (h : (Lit.int .u8 z).wf = true) : 0 ≤ z ∧ z < 256 := by
  simp [Lit.wf, IntKind.min, IntKind.max, IntKind.signed, IntKind.bits] at h
  omega
theorem open_acts {H : Type} {enc : TypeId × Value → H} {W : World} {base : Nat} {sp : Nat → Bool} {held : Bool} {a : Option Addr} {n c : Nat} {d : DataW H} {p : List MemPlace}
    (h : DataW.Trod enc Try.prog W base sp held 38 (.slice a n c) d p) :
    ∃ l : List P.Act, l.length = n ∧ l.length ≤ 9223372036854775807 ∧ (∀ x ∈ l, x.d < 256 ∧ x.k.length ≤ 9223372036854775807 ∧ x.v.length ≤ 9223372036854775807) ∧ ActsAt W a l := by
  obtain ⟨l, h1, h2, h3, h4, _, _⟩ := open_rows actCells (fun x => x.d < 256 ∧ x.k.length ≤ 9223372036854775807 ∧ x.v.length ≤ 9223372036854775807) Try.underlying38 Try.underlying42 (by kernel_rfl) (by kernel_rfl) rfl (by decide)
    (fun vs hf => by
      obtain ⟨m0, x0, t0⟩ := hf 0 _ rfl
      obtain ⟨m1, x1, t1⟩ := hf 1 _ rfl
      obtain ⟨m2, x2, t2⟩ := hf 2 _ rfl
      obtain ⟨z, e0, _, w0⟩ := DataW.trod_int Try.underlying5 t0
      obtain ⟨⟨⟨s1⟩⟩, e1, _, b1⟩ := DataW.trod_string Try.underlying9 t1
      obtain ⟨⟨⟨s2⟩⟩, e2, _, b2⟩ := DataW.trod_string Try.underlying9 t2
      have hz := u8_bd w0
      obtain ⟨q, rfl⟩ : ∃ q : Nat, z = (q : Int) := ⟨z.toNat, by omega⟩
      have f0 : vs 0 = .int .u8 (q : Int) := by simpa using e0
      have f1 : vs 1 = S s1 := by simpa using e1
      have f2 : vs 2 = S s2 := by simpa using e2
      refine ⟨⟨q, s1, s2⟩, ⟨by simp only; omega, by have h := b1; unfold maxLen at h; exact h, by have h := b2; unfold maxLen at h; exact h⟩, fun j hj => ?_⟩
      match j, hj with
      | 0, _ => rw [f0]; rfl
      | 1, _ => rw [f1]; rfl
      | 2, _ => rw [f2]; rfl) h
  exact ⟨l, h1, h2, h3, h4⟩
end Go.Proofs.Ythaiekilifoegaa
