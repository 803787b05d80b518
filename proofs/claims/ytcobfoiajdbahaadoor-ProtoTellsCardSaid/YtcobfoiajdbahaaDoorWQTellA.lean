/- The walk of proto.Tell: whatever. -/
import Derived.Test.YtcobfoiajdbahaaDoorWQTell3
import Derived.Test.YtcobfoiajdbahaaDoorWQTellL
import Derived.Test.YtcobfoiajdbahaaDoorWQAnsAt
namespace Go.Proofs.YtcobfoiajdbahaaDoor
open Go.RowKit
set_option linter.unusedVariables false
set_option linter.unusedSimpArgs false
theorem RowsAt.first {α : Type} {k : Nat} {cs : α → List Value} {w : World} {a : Option Addr} {l : List α} (h : RowsAt k cs w a l) : l.length = 0 ∨ ∃ b o, a = some ⟨b, o, none⟩ := by
  rcases Nat.eq_zero_or_pos l.length with h0 | h0
  · exact .inl h0
  · obtain ⟨b, o, hb, _⟩ := h 0 h0
    exact .inr ⟨b, o, hb⟩
theorem tell_any (x : P.Ca) (a : P.An) (r : Option Addr) (rc : Nat) (v : Option Addr) (vc : Nat) (p : Option Addr) (pc : Nat) (e : Int) (ht : P.tyC x) (hta : P.tyAn a) (hs : SmallA a) (w : World) (hat : AnsAt w a r v p) :
    Calls Tryd.prog 21 #[caV x, anV a r rc v vc p pc, .int .i64 e] w fun e' w' => e' = .returned (S (P.tellB x.op x.client x.number a e)) ∧ Below w.heap.size w w' := by
  by_cases he : e = 0
  · subst he
    have ho : a.owner.length ≤ 20000 := Nat.le_trans hs.owner (by omega)
    by_cases h1 : 5 ≤ x.op ∧ x.op ≤ 7
    · exact tell_lease x a r rc v vc p pc ht hta ho h1 w
    by_cases h2 : x.op = 10
    · exact tell_look x a r rc v vc p pc ht hta ho h2 w
    by_cases h3 : x.op = 11
    · rcases hat.rows.first with h0 | ⟨b, o, hb⟩
      · exact tell_rows0 x a r rc v vc p pc ht hta hs.rows hs.ros h3 w h0
      · exact tell_rows x a r rc v vc p pc ht hta hs.rows hs.ros h3 w b o hb hat.rows
    by_cases h4 : x.op = 12
    · rcases hat.events.first with h0 | ⟨b, o, hb⟩
      · exact tell_events0 x a r rc v vc p pc ht hta hs.events hs.eos h4 w h0
      · exact tell_events x a r rc v vc p pc ht hta hs.events hs.eos h4 w b o hb hat.events
    by_cases h5 : x.op = 13 ∨ x.op = 14
    · rcases hat.pools.first with h0 | ⟨b, o, hb⟩
      · exact tell_pools0 x a r rc v vc p pc ht hta hs.pools h5 w h0
      · exact tell_pools x a r rc v vc p pc ht hta hs.pools h5 w b o hb hat.pools
    by_cases h6 : x.op = 15
    · exact tell_clock x a r rc v vc p pc ht hta h6 w
    · exact tell_other x a r rc v vc p pc ht hta ⟨h1, by omega⟩ w
  · exact tell_err x a r rc v vc p pc e ht he w
end Go.Proofs.YtcobfoiajdbahaaDoor
