/- An argument that is a batch, opened. -/
import Derived.Test.YtoaecmaphpnolaaOpenR
import Derived.Test.YtoaecmaphpnolaaOpenU
import Derived.Test.YtoaecmaphpnolaaWLast
import Derived.Test.YtoaecmaphpnolaaWDec
import Derived.Lib.SmallJoins
namespace Go.Proofs.Ytoaecmaphpnolaa
open Go.RowKit Go.ChangeShapes Go.WideShapes Go.Deep Go.Joins

theorem open_batch {H : Type} {enc : TypeId × Value → H} {W : World} {base b0 : Nat} {r : Reach} {sp : Nat → Bool} {held : Bool} {v : Value} {d : DataW H} {p : List MemPlace}
    (hv : Value.okWide Try.prog W r b0 27 v) (h : DataW.Trod enc Try.prog W base sp held 27 v d p) :
    ∃ (q : Nat) (a : Option Addr) (c : Nat) (l : List P.Op), v = batchV q a l.length c ∧ q < 18446744073709551616 ∧ l.length ≤ 9223372036854775807 ∧ (∀ o ∈ l, o.key.length ≤ 9223372036854775807 ∧ o.val.length ≤ 9223372036854775807) ∧ OpsAt W a l := by
  obtain ⟨u0, u1, y0, y1, n0, rfl, rfl, rfl, g0, g1⟩ := open_agg2 Try.underlying27 (by kernel_rfl) (by kernel_rfl) hv h
  obtain ⟨z, hz, _, wz⟩ := DataW.trod_int Try.underlying25 g0
  obtain rfl : u0 = .int .u64 z := by simpa using hz
  have hzb := u64_bd wz
  obtain ⟨q, rfl⟩ : ∃ q : Nat, z = (q : Int) := ⟨z.toNat, by omega⟩
  obtain ⟨a, c, l, rfl, h1, h2, h3, _⟩ := open_rows1 opCells (fun o => o.key.length ≤ 9223372036854775807 ∧ o.val.length ≤ 9223372036854775807) Try.underlying22 Try.underlying24 (by kernel_rfl) (by kernel_rfl) rfl (by decide)
    (fun vs hf => by
      obtain ⟨m0, x0, t0⟩ := hf 0 _ rfl
      obtain ⟨m1, x1, t1⟩ := hf 1 _ rfl
      obtain ⟨m2, x2, t2⟩ := hf 2 _ rfl
      obtain ⟨⟨⟨s0⟩⟩, e0, _, b0⟩ := DataW.trod_string Try.underlying9 t0
      obtain ⟨⟨⟨s1⟩⟩, e1, _, b1⟩ := DataW.trod_string Try.underlying9 t1
      obtain ⟨s2, e2, _⟩ := DataW.trod_bool Try.underlying4 t2
      have f0 : vs 0 = S s0 := by simpa using e0
      have f1 : vs 1 = S s1 := by simpa using e1
      have f2 : vs 2 = .bool s2 := by simpa using e2
      refine ⟨⟨s0, s1, s2⟩, ⟨by have h := b0; unfold maxLen at h; exact h, by have h := b1; unfold maxLen at h; exact h⟩, fun j hj => ?_⟩
      match j, hj with
      | 0, _ => rw [f0]; rfl
      | 1, _ => rw [f1]; rfl
      | 2, _ => rw [f2]; rfl) g1
  exact ⟨q, a, c, l, rfl, by omega, h1, h2, OpsAt.of h3⟩
end Go.Proofs.Ytoaecmaphpnolaa
