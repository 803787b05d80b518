/- A slice of strings that reads as a list of texts. -/
import Derived.Test.YtcobfoiajdbahaaDoorWByte
namespace Go.Proofs.YtcobfoiajdbahaaDoor
open Go.RowKit

def StrsAt (w : World) (a : Option Addr) (ps : List (List UInt8)) : Prop := ∀ (i : Nat) (h : i < ps.length), ∃ b o, a = some ⟨b, o, none⟩ ∧ b < w.heap.size ∧ w.cell? ⟨b, o + i, none⟩ = some (S ps[i])
theorem StrsAt.up {w w' : World} {a : Option Addr} {ps : List (List UInt8)} (h : StrsAt w a ps) (hb : Below w.heap.size w w') : StrsAt w' a ps := by
  intro i hi
  obtain ⟨b, o, rfl, hlt, hc⟩ := h i hi
  exact ⟨b, o, rfl, Nat.lt_of_lt_of_le hlt hb.size, (hb.cell (p := ⟨b, o + i, none⟩) hlt).trans hc⟩
theorem strs_new (w : World) (ps : List (List UInt8)) (cs : Array Value) (t : TypeId) (h : cs = (ps.map S).toArray) : StrsAt (w.alloc (.cells cs t)) (some ⟨w.heap.size, 0, none⟩) ps := by
  intro i hi
  subst h
  refine ⟨w.heap.size, 0, rfl, by simp, ?_⟩
  rw [World.cell?_alloc_new]
  simp [hi]
end Go.Proofs.YtcobfoiajdbahaaDoor
