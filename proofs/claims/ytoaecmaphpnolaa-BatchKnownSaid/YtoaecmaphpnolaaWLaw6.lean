/- What the laws of batches share: what is read, in one form; the contracts at any later world. -/
import Derived.Test.YtoaecmaphpnolaaWAwakeB
namespace Go.Proofs.Ytoaecmaphpnolaa
open Go.RowKit
set_option linter.unusedVariables false

/-- What is read: its number, its operations, and whether there is one. -/
def P.dq (s : List UInt8) : Nat := ((P.dec s).map (·.1)).getD 0
def P.dl (s : List UInt8) : List P.Op := ((P.dec s).map (·.2)).getD []
def P.dok (s : List UInt8) : Bool := (P.dec s).isSome
theorem P.dok_some {s : List UInt8} (h : P.dok s = true) : P.dec s = some (P.dq s, P.dl s) := by
  unfold P.dok at h
  unfold P.dq P.dl
  cases hd : P.dec s with
  | none => rw [hd] at h; cases h
  | some q => rfl
theorem P.dok_none {s : List UInt8} (h : P.dok s = false) : P.dec s = none ∧ P.dq s = 0 ∧ P.dl s = [] := by
  unfold P.dok at h
  unfold P.dq P.dl
  cases hd : P.dec s with
  | none => exact ⟨rfl, rfl, rfl⟩
  | some q => rw [hd] at h; cases h
theorem P.dl_len (s : List UInt8) : (P.dl s).length ≤ 16 := by
  cases h : P.dok s with
  | false => rw [(P.dok_none h).2.2]; simp
  | true => exact (P.chk_ok (P.dec_some (P.dok_some h)).1).2.1
theorem P.dq_lt (s : List UInt8) : P.dq s < 18446744073709551616 := by
  cases h : P.dok s with
  | false => rw [(P.dok_none h).2.1]; decide
  | true => have := P.chk_ok (P.dec_some (P.dok_some h)).1; omega
/-- The batch that is given back lies so. -/
def DecV (q : Nat) (l : List P.Op) (b : Bool) (e : Ending) (w : World) : Prop := ∃ a c, e = .returned (.tuple #[.agg #[.int .u64 (q : Int), .slice a l.length c], .bool b]) ∧ OpsAt w a l
theorem decV_of {s : List UInt8} {e : Ending} {w : World} (h : DecR (P.dec s) e w) : DecV (P.dq s) (P.dl s) (P.dok s) e w := by
  cases hk : P.dok s with
  | false =>
    obtain ⟨h1, h2, h3⟩ := P.dok_none hk
    rw [h1] at h
    rw [h2, h3]
    exact ⟨none, 0, h, fun i hi => by simp at hi⟩
  | true =>
    rw [P.dok_some hk] at h
    exact h
theorem decode_v (s : List UInt8) (w : World) (hs : s.length ≤ 1000000) :
    Calls Try.prog 12 #[S s] w fun e w' => DecV (P.dq s) (P.dl s) (P.dok s) e w' ∧ Below w.heap.size w w' :=
  (decode_any s w hs).mono fun e w' ⟨h, hb⟩ => ⟨decV_of h, hb⟩
theorem refDecode_v (s : List UInt8) (w : World) (hs : s.length ≤ 1000000) :
    Calls Try.prog 21 #[S s] w fun e w' => DecV (P.dq s) (P.dl s) (P.dok s) e w' ∧ Below w.heap.size w w' :=
  (refDecode_any s w hs).mono fun e w' ⟨h, hb⟩ => ⟨decV_of h, hb⟩
theorem given_v (z : Int) (a : Option Addr) (n c : Nat) (q : Nat) (hz : z = (q : Int)) (w : World) :
    Calls Try.prog 18 #[.agg #[.int .u64 z, .slice a n c]] w fun e w' => e = .returned (.agg #[.int .u64 z, .slice a n c]) ∧ Below w.heap.size w w' := by
  subst hz
  exact given_any q a n c w
theorem P.sameB_self (q : Nat) (l : List P.Op) : P.sameB q l q l = true := decide_eq_true ⟨rfl, rfl⟩
/-- A batch that lies twice is the same. -/
theorem same_self (q : Nat) (l : List P.Op) (hn : l.length ≤ 100000) (z : Int) (hz : z = (q : Int)) (n1 n2 : Nat) (h1 : n1 = l.length) (h2 : n2 = l.length) (a1 a2 : Option Addr) (c1 c2 : Nat) (w : World) (hp1 : OpsAt w a1 l) (hp2 : OpsAt w a2 l) :
    Calls Try.prog 22 #[.agg #[.int .u64 z, .slice a1 n1 c1], .agg #[.int .u64 z, .slice a2 n2 c2]] w fun e w' => e = .returned (.bool true) ∧ Below w.heap.size w w' := by
  subst hz h1 h2
  have h := same_any q q a1 a2 c1 c2 l l w hn hp1 hp2
  rwa [P.sameB_self] at h
end Go.Proofs.Ytoaecmaphpnolaa
