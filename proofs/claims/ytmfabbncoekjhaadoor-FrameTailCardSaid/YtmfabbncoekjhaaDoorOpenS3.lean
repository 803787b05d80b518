/- An argument that is a slice of strings, opened: its length is within its room. -/
import Derived.Test.YtmfabbncoekjhaaDoorOpenS2
namespace Go.Proofs.YtmfabbncoekjhaaDoor
open Go.RowKit Go.ChangeShapes Go.WideShapes

theorem open_strs3 {H : Type} {enc : TypeId × Value → H} {P : Program} {W : World} {base : Nat} {sp : Nat → Bool} {held : Bool} {t e : TypeId} {a : Option Addr} {n c : Nat} {d : DataW H} {p : List MemPlace}
    (ht : P.underlying t = some (.slice e)) (he : P.underlying e = some .string) (hc : P.cellsOf e = 1) (h : DataW.Trod enc P W base sp held t (.slice a n c) d p) :
    ∃ ps : List (List UInt8), ps.length = n ∧ ps.length ≤ 9223372036854775807 ∧ (∀ l ∈ ps, l.length ≤ 9223372036854775807) ∧ StrsAt W a ps ∧ (a = none → c = 0) ∧ n ≤ c := by
  obtain ⟨ps, h1, h2, h3, h4, h5⟩ := open_strs2 ht he hc h
  refine ⟨ps, h1, h2, h3, h4, h5, ?_⟩
  obtain ⟨fuel, hf⟩ := h
  rcases open_strings ht he hc hf with ⟨hcs, _⟩ | ⟨a', len, cap, ss, hcs, _, hle, _⟩
  · simp [Value.cells] at hcs
    omega
  · simp [Value.cells] at hcs
    omega
end Go.Proofs.YtmfabbncoekjhaaDoor
