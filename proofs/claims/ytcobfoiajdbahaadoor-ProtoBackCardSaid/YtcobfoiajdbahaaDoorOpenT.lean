/- An argument that is a slice of strings, opened to a list of texts. -/
import Derived.Test.YtcobfoiajdbahaaDoorLift
import Derived.Test.YtcobfoiajdbahaaDoorWStrs
import Derived.SliceStrings
namespace Go.Proofs.YtcobfoiajdbahaaDoor
open Go.RowKit Go.ChangeShapes Go.WideShapes

theorem addr_plain {w : World} {a : Addr} {v : Value} (h : w.cell? a = some v) : a = ⟨a.block, a.off, none⟩ := by
  obtain ⟨b, o, s⟩ := a
  cases s with
  | none => rfl
  | some x =>
    unfold World.cell? at h
    split at h
    · simp at h
    · cases h
theorem addr_add (b o i : Nat) : (⟨b, o, none⟩ : Addr).add i = ⟨b, o + i, none⟩ := by
  unfold Addr.add
  split
  · rename_i h; subst h; rfl
  · rfl

theorem open_strs {H : Type} {enc : TypeId × Value → H} {P : Program} {W : World} {base : Nat} {sp : Nat → Bool} {held : Bool} {t e : TypeId} {a : Option Addr} {n c : Nat} {d : DataW H} {p : List MemPlace}
    (ht : P.underlying t = some (.slice e)) (he : P.underlying e = some .string) (hc : P.cellsOf e = 1) (h : DataW.Trod enc P W base sp held t (.slice a n c) d p) :
    ∃ ps : List (List UInt8), ps.length = n ∧ ps.length ≤ 9223372036854775807 ∧ (∀ l ∈ ps, l.length ≤ 9223372036854775807) ∧ StrsAt W a ps := by
  obtain ⟨fuel, hf⟩ := h
  rcases open_strings ht he hc hf with ⟨hcs, _⟩ | ⟨a', len, cap, ss, hcs, _, hle, hm, hss, _, hcell, hws⟩
  · simp [Value.cells] at hcs
    obtain ⟨rfl, rfl, rfl⟩ := hcs
    exact ⟨[], rfl, by simp, fun l hl => by simp at hl, fun i hi => by simp at hi⟩
  · simp [Value.cells] at hcs
    obtain ⟨rfl, rfl, rfl⟩ := hcs
    have hsl : n ≤ ss.length := by rw [hss]; split <;> omega
    refine ⟨(ss.take n).map (·.data.toList), by simp; omega, by unfold maxLen at hm; simp; omega, fun l hl => ?_, fun i hi => ?_⟩
    · obtain ⟨s, hs, rfl⟩ := List.mem_map.1 hl
      have := hws s (List.mem_of_mem_take hs)
      unfold maxLen at this
      exact this
    · have hin : i < n := by simp at hi; omega
      have h0 := hcell 0 (by omega)
      have ha0 : a'.add 0 = a' := by simp [Addr.add]
      rw [ha0] at h0
      have hpl := addr_plain h0
      have hi' := hcell i (by omega)
      rw [hpl, addr_add] at hi'
      refine ⟨a'.block, a'.off, by rw [← hpl], World.block_lt_of_cell? W a' h0, ?_⟩
      rw [hi']
      have hi2 : i < ss.length := by omega
      simp [List.getD_eq_getElem?_getD, hi2]
end Go.Proofs.YtcobfoiajdbahaaDoor
