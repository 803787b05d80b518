/- CellMakes: whether a cell may be, and its bytes, are the document's. The walk of the law. -/
import Derived.Test.YtgbkaicjckclfaaDoorWAwake
import Derived.Test.YtgbkaicjckclfaaDoorWMakeR
namespace Go.Proofs.YtgbkaicjckclfaaDoor
open Go.RowKit

theorem below_step {w w1 w2 : World} (h : Below w.heap.size w w1) (h2 : Below w1.heap.size w1 w2) : Below w.heap.size w w2 := h.trans (h2.mono h.size)

theorem cell_up {w w1 : World} {a : Addr} {v : Value} (hb : Below w.heap.size w w1) (h : w.cell? a = some v) : w1.cell? a = some v := (hb.cell (World.block_lt_of_cell? w a h)).trans h
theorem up4 {w w1 : World} {a0 a1 a2 a3 : Addr} {v0 v1 v2 v3 : Value} (hb : Below w.heap.size w w1) (h0 : w.cell? a0 = some v0) (h1 : w.cell? a1 = some v1) (h2 : w.cell? a2 = some v2) (h3 : w.cell? a3 = some v3) :
    w1.cell? a0 = some v0 ∧ w1.cell? a1 = some v1 ∧ w1.cell? a2 = some v2 ∧ w1.cell? a3 = some v3 := ⟨cell_up hb h0, cell_up hb h1, cell_up hb h2, cell_up hb h3⟩

set_option maxHeartbeats 400000 in
theorem given_any (f l : Bool) (n : Int) (d : List UInt8) (w : World) :
    Calls Tryd.prog 14 #[.agg #[.bool f, .bool l, .int .i64 n, S d]] w fun e w' => e = .returned (.agg #[.bool f, .bool l, .int .i64 n, S d]) ∧ Below w.heap.size w w' := by
  go_enter Tryd.func14, Tryd.ntmps14
  go_wp2
  go_returns
  exact ⟨rfl, by go_grown⟩

set_option maxHeartbeats 1000000 in
theorem law_makes (f l : Bool) (n : Int) (d : List UInt8) (w : World) (hd : d.length ≤ 9223372036854775807) (ht : TabOk w) :
    Calls Tryd.prog 5 #[.agg #[.bool f, .bool l, .int .i64 n, S d]] w fun e w' => e = .returned (.bool true) ∧ Below w.heap.size w w' := by
  by_cases hlen : (3000 : Int) < (d.length : Int)
  · go_enter Tryd.func5, Tryd.ntmps5
    go_wp2_with (go_at_call 12; refine (awake_any _ (ht.alloc _)).mono ?_; rintro e w1 ⟨rfl, hb1⟩)
    go_ret
    exact ⟨rfl, below_step ((Below.refl _ _).alloc (Nat.le_refl _) _) hb1⟩
  · by_cases hm : P.may ⟨f, l, n, d⟩ = true
    · go_enter Tryd.func5, Tryd.ntmps5
      go_wp2_with (first
        | (go_at_call 14; refine (given_any f l n d _).mono ?_; rintro e w1 ⟨rfl, hb1⟩; obtain ⟨k0, k1, k2, k3, hs1, hbw⟩ := box4 hb1; clear hb1; have ht1 := ht.up hbw)
        | (go_at_call 10; refine (make_yes f l n d _ hm ht1).mono ?_; rintro e w2 ⟨rfl, hb2⟩; have ht2 := ht1.up hb2; obtain ⟨j0, j1, j2, j3⟩ := up4 hb2 k0 k1 k2 k3)
        | (go_at_call 15; refine (refMake_yes f l n d _ hm).mono ?_; rintro e w3 ⟨rfl, hb3⟩; have ht3 := ht2.up hb3)
        | (go_at_call 12; refine (awake_any _ ht3).mono ?_; rintro e w4 ⟨rfl, hb4⟩))
      go_ret
      exact ⟨rfl, below_step (below_step (below_step hbw hb2) hb3) hb4⟩
    · have hm' : P.may ⟨f, l, n, d⟩ = false := by simpa using hm
      go_enter Tryd.func5, Tryd.ntmps5
      go_wp2_with (first
        | (go_at_call 14; refine (given_any f l n d _).mono ?_; rintro e w1 ⟨rfl, hb1⟩; obtain ⟨k0, k1, k2, k3, hs1, hbw⟩ := box4 hb1; clear hb1; have ht1 := ht.up hbw)
        | (go_at_call 10; refine (make_no f l n d _ hd hm').mono ?_; rintro e w2 ⟨rfl, hb2⟩; have ht2 := ht1.up hb2; obtain ⟨j0, j1, j2, j3⟩ := up4 hb2 k0 k1 k2 k3)
        | (go_at_call 15; refine (refMake_no f l n d _ hd hm').mono ?_; rintro e w3 ⟨rfl, hb3⟩; have ht3 := ht2.up hb3)
        | (go_at_call 12; refine (awake_any _ ht3).mono ?_; rintro e w4 ⟨rfl, hb4⟩))
      go_ret
      exact ⟨rfl, below_step (below_step (below_step hbw hb2) hb3) hb4⟩
end Go.Proofs.YtgbkaicjckclfaaDoor
