/- The walk of the laws' awake. -/
import Derived.Test.YtoaecmaphpnolaaWRefDec
import Derived.Test.YtoaecmaphpnolaaWSame
namespace Go.Proofs.Ytoaecmaphpnolaa
open Go.RowKit
set_option linter.unusedVariables false

theorem decode_any (s : List UInt8) (w : World) (hs : s.length ≤ 1000000) :
    Calls Try.prog 12 #[S s] w fun e w' => DecR (P.dec s) e w' ∧ Below w.heap.size w w' := by
  cases hok : P.rOk s with
  | false =>
    refine (decode_no1 s w hs hok).mono ?_
    rintro e w' ⟨rfl, hb⟩
    refine ⟨?_, hb⟩
    unfold P.dec
    rw [hok]
    exact rfl
  | true =>
    by_cases h2 : P.rOk (s.drop (P.rSize s)) = true ∧ P.rNum (s.drop (P.rSize s)) ≤ 16
    · exact decode_loop s w hs hok h2.1 h2.2
    · refine (decode_no2 s w hs hok h2).mono ?_
      rintro e w' ⟨rfl, hb⟩
      refine ⟨?_, hb⟩
      unfold P.dec
      rw [if_neg (fun h => h2 h.2)]
      exact rfl

/-- A row that the call owns, its cells from the block's beginning on. -/
theorem OwnR.row {α : Type} {e : TypeId} {k : Nat} {cs : α → List Value} {w : World} {B : Nat} {v : Value} {l : List α} (hk : ∀ x, (cs x).length = k) (h : OwnR e k cs w B v l) :
    ∃ a c, v = .slice a l.length c ∧ ∀ (i : Nat) (hi : i < l.length), ∃ g, a = some ⟨g, 0, none⟩ ∧ B ≤ g ∧ g < w.heap.size ∧ ∀ j, j < k → w.cell? ⟨g, i * k + j, none⟩ = (cs l[i])[j]? := by
  obtain ⟨a, c, rfl, hr, ha⟩ := h.is hk
  refine ⟨a, c, rfl, fun i hi => ?_⟩
  obtain ⟨b, o, rfl, hlt, hc⟩ := hr i hi
  obtain ⟨_, ⟨hv, _⟩ | ⟨g, cap, cur, hv, hBg, _⟩⟩ := h
  · cases hv
  · injection hv with h1
    injection h1 with h1
    injection h1 with h1 h2
    subst h1 h2
    exact ⟨b, rfl, hBg, hlt, fun j hj => by have := hc j hj; rwa [Nat.zero_add] at this⟩

abbrev smallOps : List P.Op := [⟨[97], [120], false⟩, ⟨[98], [], true⟩]
abbrev smallB : List UInt8 := [7, 2, 0, 1, 97, 1, 120, 1, 1, 98]
theorem P.chk_small : P.chk 7 smallOps = 0 := by decide
theorem P.enc_small : P.enc 7 smallOps = smallB := by decide
theorem P.dec_small : P.dec smallB = some (7, smallOps) := by rw [← P.enc_small]; exact P.dec_enc _ _ P.chk_small

set_option maxRecDepth 100000 in
set_option maxHeartbeats 1000000 in
theorem small_any (w : World) :
    Calls Try.prog 11 #[] w fun e w' => (∃ a c, e = .returned (.agg #[.int .u64 7, .slice a 2 c]) ∧ OpsAt w' a smallOps) ∧ Below w.heap.size w w' := by
  go_enter Try.func11, Try.ntmps11
  go_wp2
  have h := rows_new 3 opCells opCells_len (w.alloc (.cells #[.int .u64 7, .slice (some ⟨w.heap.size + 1, 0, none⟩) 2 2] 27)) smallOps _ 24 rfl
  rw [show (w.alloc (.cells #[.int .u64 7, .slice (some ⟨w.heap.size + 1, 0, none⟩) 2 2] 27)).heap.size = w.heap.size + 1 by simp] at h
  exact bodyPost_ret (v := .agg #[.int .u64 7, .slice (some ⟨w.heap.size + 1, 0, none⟩) 2 2]) (by simp [results, Try.results11, go_sem]) rfl ⟨⟨_, _, rfl, OpsAt.of h⟩, ((Below.refl _ _).alloc (Nat.le_refl _) _).alloc (by simp) _⟩

theorem encode_small (a : Option Addr) (c : Nat) (w : World) (hp : OpsAt w a smallOps) :
    Calls Try.prog 9 #[.agg #[.int .u64 7, .slice a 2 c]] w fun e w' => e = .returned (.tuple #[S smallB, .int .i64 0]) ∧ Below w.heap.size w w' := by
  have h := encode_ok 7 a c smallOps w (by decide) (by decide) hp P.chk_small
  rw [P.enc_small] at h
  exact h
theorem decode_small (w : World) :
    Calls Try.prog 12 #[S smallB] w fun e w' => (∃ a c, e = .returned (.tuple #[.agg #[.int .u64 7, .slice a 2 c], .bool true]) ∧ OpsAt w' a smallOps) ∧ Below w.heap.size w w' := by
  refine (decode_any smallB w (by decide)).mono ?_
  rintro e w' ⟨h, hb⟩
  rw [P.dec_small] at h
  exact ⟨h, hb⟩
theorem last_small (a : Option Addr) (c : Nat) (w : World) :
    Calls Try.prog 13 #[.agg #[.int .u64 7, .slice a 2 c]] w fun e w' => e = .returned (.int .u64 8) ∧ Below w.heap.size w w' := last_any 7 2 a c w (by decide) (by decide)
/-- The cells of the small batch's entries. -/
def EntsC (w : World) (g : Nat) : Prop := g < w.heap.size ∧ w.cell? ⟨g, 0, none⟩ = some (S [97]) ∧ w.cell? ⟨g, 1, none⟩ = some (S [120]) ∧ w.cell? ⟨g, 2, none⟩ = some (.int .u64 7) ∧ w.cell? ⟨g, 3, none⟩ = some (.bool false) ∧
  w.cell? ⟨g, 4, none⟩ = some (S [98]) ∧ w.cell? ⟨g, 5, none⟩ = some (S []) ∧ w.cell? ⟨g, 6, none⟩ = some (.int .u64 8) ∧ w.cell? ⟨g, 7, none⟩ = some (.bool true)
theorem EntsC.up {w w' : World} {g : Nat} (h : EntsC w g) (hb : Below w.heap.size w w') : EntsC w' g := by
  obtain ⟨h, h0, h1, h2, h3, h4, h5, h6, h7⟩ := h
  exact ⟨Nat.lt_of_lt_of_le h hb.size, cell_up hb h0, cell_up hb h1, cell_up hb h2, cell_up hb h3, cell_up hb h4, cell_up hb h5, cell_up hb h6, cell_up hb h7⟩
/-- What Entries of the small batch gives back. -/
def EntsS (e : Ending) (w : World) : Prop := ∃ g c, e = .returned (.slice (some ⟨g, 0, none⟩) 2 c) ∧ EntsC w g
theorem entries_small (a : Option Addr) (c : Nat) (w : World) (hp : OpsAt w a smallOps) :
    Calls Try.prog 14 #[.agg #[.int .u64 7, .slice a 2 c]] w fun e w' => EntsS e w' ∧ Below w.heap.size w w' := by
  refine (entries_any 7 a c smallOps w (by decide) (by decide) hp).mono ?_
  rintro e w' ⟨v, rfl, hown, hb⟩
  refine ⟨?_, hb⟩
  obtain ⟨a5, c5, rfl, hr⟩ := hown.row entCells_len
  obtain ⟨g, rfl, _, hlt, h0⟩ := hr 0 (by decide)
  obtain ⟨g', hg, _, _, h1⟩ := hr 1 (by decide)
  injection hg with hg
  injection hg with hg
  subst hg
  exact ⟨g, c5, rfl, hlt, h0 0 (by decide), h0 1 (by decide), h0 2 (by decide), h0 3 (by decide), h1 0 (by decide), h1 1 (by decide), h1 2 (by decide), h1 3 (by decide)⟩

attribute [local go_sem high] eq_ent guardEnt
theorem P.entEq_one : P.entEq [97] [120] 7 false [97] [120] 7 false = true := by decide
theorem P.entEq_two : P.entEq [98] [] 8 true [98] [] 8 true = true := by decide

set_option maxRecDepth 100000 in
set_option maxHeartbeats 4000000 in
theorem awake_any (w : World) :
    Calls Try.prog 15 #[] w fun e w' => e = .returned (.bool true) ∧ Below w.heap.size w w' := by
  have k1 := P.entEq_one
  have k2 := P.entEq_two
  go_enter Try.func15, Try.ntmps15
  go_wp2_with (first
    | (go_at_call 11; (with_reducible refine (small_any _).mono ?_); rintro e w1 ⟨⟨a1, c1, rfl, hops1⟩, hb1⟩)
    | (go_at_call 9; (with_reducible refine (encode_small _ _ _ hops1).mono ?_); rintro e w2 ⟨rfl, hb2⟩; have hc2 := Chain.up hb1 hb2)
    | (go_at_call 12; (with_reducible refine (decode_small _).mono ?_); rintro e w3 ⟨⟨a3, c3, rfl, hops3⟩, hb3⟩; have hc3 := Chain.up hc2 hb3; have hba := (Below.refl w3.heap.size w3).alloc (Nat.le_refl _) (.cells #[.int .u64 7, .slice a3 2 c3] 27); have hbx := Bx.fresh w3 27 #[.int .u64 7, .slice a3 2 c3]; have hops4 := hops3.up hba; have hc4 := Chain.up hc3 hba)
    | (go_at_call 14; (with_reducible refine (entries_small _ _ _ hops4).mono ?_); rintro e w5 ⟨⟨g5, c5, rfl, hen5⟩, hb5⟩; have hc5 := Chain.up hc4 hb5; have hbx5 := hbx.up hb5; obtain ⟨x0, x1, _, _⟩ := hbx5.two)
    | (go_at_call 13; (with_reducible refine (last_small _ _ _).mono ?_); rintro e w6 ⟨rfl, hb6⟩; have hc6 := Chain.up hc5 hb6; obtain ⟨_, q0, q1, q2, q3, q4, q5, q6, q7⟩ := hen5.up hb6))
  go_ret
  exact ⟨rfl, hc6⟩
end Go.Proofs.Ytoaecmaphpnolaa
