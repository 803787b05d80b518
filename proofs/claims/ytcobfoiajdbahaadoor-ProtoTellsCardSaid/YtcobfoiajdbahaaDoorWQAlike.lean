/- The walk of the document's Alike, of two answers that tell the same. -/
import Derived.Test.YtcobfoiajdbahaaDoorWQMay26
import Derived.BigQuiet
import Derived.Deep.QuietTactic
namespace Go.Proofs.YtcobfoiajdbahaaDoor
open Go.RowKit
set_option linter.unusedVariables false
set_option linter.unusedSimpArgs false
theorem P.eqI_same (l : List Int) (s : List (List UInt8)) : P.eqI l l s s = true := by unfold P.eqI; simp
attribute [local go_sem high] eq_RefA eq_RefX eq_RefL eq_RefE guardRefA guardRefX guardRefL guardRefE P.eqI_same
theorem evd_cells {w : World} {q : Option Addr} {l : List P.Ev} (h : RowsAt 7 evD w q l) (j : Nat) (hj : j < l.length) : ∃ b o, q = some ⟨b, o, none⟩ ∧ b < w.heap.size ∧ w.cell? ⟨b, o + j * 7, none⟩ = some (.int .u8 0) ∧ w.cell? ⟨b, o + j * 7 + 1, none⟩ = some (.int .u64 0) ∧ w.cell? ⟨b, o + j * 7 + 2, none⟩ = some (.int .u64 0) ∧ w.cell? ⟨b, o + j * 7 + 3, none⟩ = some (.int .i64 (l[j]).how) ∧ w.cell? ⟨b, o + j * 7 + 4, none⟩ = some (S (l[j]).owner) ∧ w.cell? ⟨b, o + j * 7 + 5, none⟩ = some (V64 (l[j]).at') ∧ w.cell? ⟨b, o + j * 7 + 6, none⟩ = some (V64 (l[j]).til) := by
  obtain ⟨b, o, e, hb, hc⟩ := h j hj
  exact ⟨b, o, e, hb, hc 0 (by omega), hc 1 (by omega), hc 2 (by omega), hc 3 (by omega), hc 4 (by omega), hc 5 (by omega), hc 6 (by omega)⟩
set_option maxRecDepth 100000 in
set_option maxHeartbeats 16000000 in
theorem alike_any (a : P.An) (r : Option Addr) (rc : Nat) (v : Option Addr) (vc : Nat) (p : Option Addr) (pc : Nat) (r' : Option Addr) (rc' : Nat) (v' : Option Addr) (vc' : Nat) (p' : Option Addr) (pc' : Nat) (rowsL : a.rows.length ≤ 100000) (eventsL : a.events.length ≤ 100000) (poolsL : a.pools.length ≤ 100000) (w : World) (hat : AnsD w a r v p) (hat' : AnsD w a r' v' p') :
    Calls Tryd.prog 24 #[raV a r rc v vc p pc, raV a r' rc' v' vc' p' pc'] w fun e w' => e = .returned (.bool true) ∧ Below w.heap.size w w' := by
  obtain ⟨h1, h2, hA⟩ := two_bx w #[.int .u8 (a.a.fam : Nat), V64 a.a.hi, V64 a.a.lo, .int .u8 0, .int .u64 0, .int .u64 0, S a.owner, V64 a.til, .int .u8 (a.pool.a.fam : Nat), V64 a.pool.a.hi, V64 a.pool.a.lo, .int .i64 a.pool.bits, .bool a.has, .bool a.held, .bool a.live, V64 a.clock, .slice r a.rows.length rc, .slice v a.events.length vc, .slice p a.pools.length pc] #[.int .u8 (a.a.fam : Nat), V64 a.a.hi, V64 a.a.lo, .int .u8 0, .int .u64 0, .int .u64 0, S a.owner, V64 a.til, .int .u8 (a.pool.a.fam : Nat), V64 a.pool.a.hi, V64 a.pool.a.lo, .int .i64 a.pool.bits, .bool a.has, .bool a.held, .bool a.live, V64 a.clock, .slice r' a.rows.length rc', .slice v' a.events.length vc', .slice p' a.pools.length pc'] 62 62
  have h1c := h1
  obtain ⟨c0, c1, c2, c3, c4, c5, c6, c7, c8, c9, c10, c11, c12, c13, c14, c15, c16, c17, c18⟩ := h1.cells19
  obtain ⟨d0, d1, d2, d3, d4, d5, d6, d7, d8, d9, d10, d11, d12, d13, d14, d15, d16, d17, d18⟩ := h2.cells19
  go_enter Tryd.func24, Tryd.ntmps24
  go_wp2_with fail
  go_loopw [5] (fun i wr => ∃ j : Nat, j ≤ a.rows.length ∧ i = .int .i64 ((j : Nat) : Int) ∧ Bx wr w.heap.size 62 #[.int .u8 (a.a.fam : Nat), V64 a.a.hi, V64 a.a.lo, .int .u8 0, .int .u64 0, .int .u64 0, S a.owner, V64 a.til, .int .u8 (a.pool.a.fam : Nat), V64 a.pool.a.hi, V64 a.pool.a.lo, .int .i64 a.pool.bits, .bool a.has, .bool a.held, .bool a.live, V64 a.clock, .slice r a.rows.length rc, .slice v a.events.length vc, .slice p a.pools.length pc] ∧ Bx wr (w.heap.size + 1) 62 #[.int .u8 (a.a.fam : Nat), V64 a.a.hi, V64 a.a.lo, .int .u8 0, .int .u64 0, .int .u64 0, S a.owner, V64 a.til, .int .u8 (a.pool.a.fam : Nat), V64 a.pool.a.hi, V64 a.pool.a.lo, .int .i64 a.pool.bits, .bool a.has, .bool a.held, .bool a.live, V64 a.clock, .slice r' a.rows.length rc', .slice v' a.events.length vc', .slice p' a.pools.length pc'] ∧ Below w.heap.size w wr) (fun i _ => a.rows.length - (intOf i).toNat)
  case atStart => exact ⟨0, Nat.zero_le _, rfl, h1, h2, hA⟩
  case round =>
    clear h1 h2 hA h1c c0 d0 c1 d1 c2 d2 c3 d3 c4 d4 c5 d5 c6 d6 c7 d7 c8 d8 c9 d9 c10 d10 c11 d11 c12 d12 c13 d13 c14 d14 c15 d15 c16 d16 c17 d17 c18 d18
    obtain ⟨j, hj, rfl, h1, h2, hA⟩ := hrel
    obtain ⟨c0, c1, c2, c3, c4, c5, c6, c7, c8, c9, c10, c11, c12, c13, c14, c15, c16, c17, c18⟩ := h1.cells19
    obtain ⟨d0, d1, d2, d3, d4, d5, d6, d7, d8, d9, d10, d11, d12, d13, d14, d15, d16, d17, d18⟩ := h2.cells19
    by_cases hjn : j < a.rows.length
    · have hji : ((j : Nat) : Int) < ((a.rows.length : Nat) : Int) := by omega
      obtain ⟨b, o, hq, hbl, k0, k1, k2, k3, k4⟩ := row_cells (RowsAt.up hat.rows hA) j hjn
      obtain ⟨b', o', hq', hbl', l0, l1, l2, l3, l4⟩ := row_cells (RowsAt.up hat'.rows hA) j hjn
      have HK := Lib.hid (show j < a.rows.length ∧ a.rows.length ≤ 100000 from ⟨hjn, rowsL⟩)
      generalize a.rows[j] = y at *
      subst hq hq'
      clear hjn hat hat'
      go_wp2_with fail
      go_quiet (fail)
      go_wp2_with fail
      go_roundw
      case rel => exact ⟨j + 1, HK.out.1, by go_num, h1.up (below_drewN (Below.refl _ _) _), h2.up (below_drewN (Below.refl _ _) _), below_drewN hA _⟩
      case measure => simp [intOf]; have := HK.out; omega
    · have hge : ¬ ((j : Nat) : Int) < ((a.rows.length : Nat) : Int) := by omega
      clear hjn hj
      go_wp2_with fail
      go_loopw [6] (fun i wr => ∃ j : Nat, j ≤ a.events.length ∧ i = .int .i64 ((j : Nat) : Int) ∧ Bx wr w.heap.size 62 #[.int .u8 (a.a.fam : Nat), V64 a.a.hi, V64 a.a.lo, .int .u8 0, .int .u64 0, .int .u64 0, S a.owner, V64 a.til, .int .u8 (a.pool.a.fam : Nat), V64 a.pool.a.hi, V64 a.pool.a.lo, .int .i64 a.pool.bits, .bool a.has, .bool a.held, .bool a.live, V64 a.clock, .slice r a.rows.length rc, .slice v a.events.length vc, .slice p a.pools.length pc] ∧ Bx wr (w.heap.size + 1) 62 #[.int .u8 (a.a.fam : Nat), V64 a.a.hi, V64 a.a.lo, .int .u8 0, .int .u64 0, .int .u64 0, S a.owner, V64 a.til, .int .u8 (a.pool.a.fam : Nat), V64 a.pool.a.hi, V64 a.pool.a.lo, .int .i64 a.pool.bits, .bool a.has, .bool a.held, .bool a.live, V64 a.clock, .slice r' a.rows.length rc', .slice v' a.events.length vc', .slice p' a.pools.length pc'] ∧ Below w.heap.size w wr) (fun i _ => a.events.length - (intOf i).toNat)
      case atStart => exact ⟨0, Nat.zero_le _, rfl, h1, h2, hA⟩
      case round =>
        clear h1 h2 hA c0 d0 c1 d1 c2 d2 c3 d3 c4 d4 c5 d5 c6 d6 c7 d7 c8 d8 c9 d9 c10 d10 c11 d11 c12 d12 c13 d13 c14 d14 c15 d15 c16 d16 c17 d17 c18 d18 hge
        obtain ⟨j, hj, rfl, h1, h2, hA⟩ := hrel
        obtain ⟨c0, c1, c2, c3, c4, c5, c6, c7, c8, c9, c10, c11, c12, c13, c14, c15, c16, c17, c18⟩ := h1.cells19
        obtain ⟨d0, d1, d2, d3, d4, d5, d6, d7, d8, d9, d10, d11, d12, d13, d14, d15, d16, d17, d18⟩ := h2.cells19
        by_cases hjn : j < a.events.length
        · have hji : ((j : Nat) : Int) < ((a.events.length : Nat) : Int) := by omega
          obtain ⟨b, o, hq, hbl, k0, k1, k2, k3, k4, k5, k6⟩ := evd_cells (RowsAt.up hat.events hA) j hjn
          obtain ⟨b', o', hq', hbl', l0, l1, l2, l3, l4, l5, l6⟩ := evd_cells (RowsAt.up hat'.events hA) j hjn
          have HK := Lib.hid (show j < a.events.length ∧ a.events.length ≤ 100000 from ⟨hjn, eventsL⟩)
          generalize a.events[j] = y at *
          subst hq hq'
          clear hjn hat hat'
          go_wp2_with fail
          go_quiet (fail)
          go_wp2_with fail
          go_roundw
          case rel => exact ⟨j + 1, HK.out.1, by go_num, h1.up (below_drewN (Below.refl _ _) _), h2.up (below_drewN (Below.refl _ _) _), below_drewN hA _⟩
          case measure => simp [intOf]; have := HK.out; omega
        · have hge : ¬ ((j : Nat) : Int) < ((a.events.length : Nat) : Int) := by omega
          clear hjn hj
          go_wp2_with fail
          go_loopw [7] (fun i wr => ∃ j : Nat, j ≤ a.pools.length ∧ i = .int .i64 ((j : Nat) : Int) ∧ Bx wr w.heap.size 62 #[.int .u8 (a.a.fam : Nat), V64 a.a.hi, V64 a.a.lo, .int .u8 0, .int .u64 0, .int .u64 0, S a.owner, V64 a.til, .int .u8 (a.pool.a.fam : Nat), V64 a.pool.a.hi, V64 a.pool.a.lo, .int .i64 a.pool.bits, .bool a.has, .bool a.held, .bool a.live, V64 a.clock, .slice r a.rows.length rc, .slice v a.events.length vc, .slice p a.pools.length pc] ∧ Bx wr (w.heap.size + 1) 62 #[.int .u8 (a.a.fam : Nat), V64 a.a.hi, V64 a.a.lo, .int .u8 0, .int .u64 0, .int .u64 0, S a.owner, V64 a.til, .int .u8 (a.pool.a.fam : Nat), V64 a.pool.a.hi, V64 a.pool.a.lo, .int .i64 a.pool.bits, .bool a.has, .bool a.held, .bool a.live, V64 a.clock, .slice r' a.rows.length rc', .slice v' a.events.length vc', .slice p' a.pools.length pc'] ∧ Below w.heap.size w wr) (fun i _ => a.pools.length - (intOf i).toNat)
          case atStart => exact ⟨0, Nat.zero_le _, rfl, h1, h2, hA⟩
          case round =>
            clear h1 h2 hA c0 d0 c1 d1 c2 d2 c3 d3 c4 d4 c5 d5 c6 d6 c7 d7 c8 d8 c9 d9 c10 d10 c11 d11 c12 d12 c13 d13 c14 d14 c15 d15 c16 d16 c17 d17 c18 d18 hge
            obtain ⟨j, hj, rfl, h1, h2, hA⟩ := hrel
            obtain ⟨c0, c1, c2, c3, c4, c5, c6, c7, c8, c9, c10, c11, c12, c13, c14, c15, c16, c17, c18⟩ := h1.cells19
            obtain ⟨d0, d1, d2, d3, d4, d5, d6, d7, d8, d9, d10, d11, d12, d13, d14, d15, d16, d17, d18⟩ := h2.cells19
            by_cases hjn : j < a.pools.length
            · have hji : ((j : Nat) : Int) < ((a.pools.length : Nat) : Int) := by omega
              obtain ⟨b, o, hq, hbl, k0, k1, k2, k3⟩ := pool_cells (RowsAt.up hat.pools hA) j hjn
              obtain ⟨b', o', hq', hbl', l0, l1, l2, l3⟩ := pool_cells (RowsAt.up hat'.pools hA) j hjn
              have HK := Lib.hid (show j < a.pools.length ∧ a.pools.length ≤ 100000 from ⟨hjn, poolsL⟩)
              generalize a.pools[j] = y at *
              subst hq hq'
              clear hjn hat hat'
              go_wp2_with fail
              go_quiet (fail)
              go_wp2_with fail
              go_roundw
              case rel => exact ⟨j + 1, HK.out.1, by go_num, h1.up (below_drewN (Below.refl _ _) _), h2.up (below_drewN (Below.refl _ _) _), below_drewN hA _⟩
              case measure => simp [intOf]; have := HK.out; omega
            · have hge : ¬ ((j : Nat) : Int) < ((a.pools.length : Nat) : Int) := by omega
              clear hjn hj
              go_wp2_with fail
              go_ret
              exact ⟨rfl, hA⟩
end Go.Proofs.YtcobfoiajdbahaaDoor
