/- An argument that is a slice of 64-bit numbers, opened to a list of numbers. -/
import Derived.Test.YthpgigjplknomaaOpenT
import Derived.Test.YthpgigjplknomaaWVar
import Derived.Test.YthpgigjplknomaaWf
import Derived.ChangeSlices
namespace Go.Proofs.Ythpgigjplknomaa
open Go.RowKit Go.ChangeShapes Go.WideShapes

theorem open_nums {H : Type} {enc : TypeId × Value → H} {P : Program} {W : World} {base : Nat} {sp : Nat → Bool} {held : Bool} {t e : TypeId} {a : Option Addr} {n c : Nat} {d : DataW H} {p : List MemPlace}
    (ht : P.underlying t = some (.slice e)) (he : P.underlying e = some (.int .u64)) (hc : P.cellsOf e = 1) (h : DataW.Trod enc P W base sp held t (.slice a n c) d p) :
    ∃ ns : List Nat, ns.length = n ∧ ns.length ≤ 9223372036854775807 ∧ (∀ x ∈ ns, x < 18446744073709551616) ∧ NumsAt W a ns := by
  obtain ⟨fuel, hf⟩ := h
  rcases Go.ChangeShapes.open_ints ht he hc hf with ⟨hcs, _⟩ | ⟨a', len, cap, zs, hcs, _, hle, hm, hss, _, hcell, hws⟩
  · simp [Value.cells] at hcs
    obtain ⟨rfl, rfl, rfl⟩ := hcs
    exact ⟨[], rfl, by simp, fun l hl => by simp at hl, fun i hi => by simp at hi⟩
  · simp [Value.cells] at hcs
    obtain ⟨rfl, rfl, rfl⟩ := hcs
    have hsl : n ≤ zs.length := by rw [hss]; split <;> omega
    refine ⟨(zs.take n).map Int.toNat, by simp; omega, by unfold maxLen at hm; simp; omega, fun x hx => ?_, fun i hi => ?_⟩
    · obtain ⟨z, hz, rfl⟩ := List.mem_map.1 hx
      have := u64_bd (hws z (List.mem_of_mem_take hz))
      omega
    · have hin : i < n := by simp at hi; omega
      have h0 := hcell 0 (by omega)
      have ha0 : a'.add 0 = a' := by simp [Addr.add]
      rw [ha0] at h0
      have hpl := addr_plain h0
      have hi' := hcell i (by omega)
      rw [hpl, addr_add] at hi'
      refine ⟨a'.block, a'.off, by rw [← hpl], World.block_lt_of_cell? W a' h0, ?_⟩
      rw [hi']
      have hi2 : i < zs.length := by omega
      have hz := u64_bd (hws zs[i] (List.getElem_mem _))
      simp [List.getD_eq_getElem?_getD, hi2]
      omega
end Go.Proofs.Ythpgigjplknomaa
