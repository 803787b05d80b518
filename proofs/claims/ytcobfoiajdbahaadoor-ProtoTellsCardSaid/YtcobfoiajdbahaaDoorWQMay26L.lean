/- The walks of whether an answer with lists may be told, in the document. -/
import Derived.Test.YtcobfoiajdbahaaDoorWQMay26
namespace Go.Proofs.YtcobfoiajdbahaaDoor
open Go.RowKit
set_option linter.unusedVariables false
set_option linter.unusedSimpArgs false
set_option maxRecDepth 100000 in
set_option maxHeartbeats 4000000 in
theorem refMay_11 (op : Nat) (a : P.An) (r : Option Addr) (rc : Nat) (v : Option Addr) (vc : Nat) (p : Option Addr) (pc : Nat) (ht : P.tyAn a) (hl : a.rows.length ≤ 1000000) (hown : ∀ y ∈ a.rows, y.owner.length ≤ 1000000000)  (w : World) (hat : AnsD w a r v p) (hop : op = 11) : Calls Tryd.prog 19 #[.int .u8 (op : Nat), raV a r rc v vc p pc, .int .i64 0] w fun e w' => e = .returned (.bool (P.mayA op a)) ∧ Below w.heap.size w w' := by
  have h1 := Bx.fresh w 62 #[.int .u8 (a.a.fam : Nat), V64 a.a.hi, V64 a.a.lo, .int .u8 0, .int .u64 0, .int .u64 0, S a.owner, V64 a.til, .int .u8 (a.pool.a.fam : Nat), V64 a.pool.a.hi, V64 a.pool.a.lo, .int .i64 a.pool.bits, .bool a.has, .bool a.held, .bool a.live, V64 a.clock, .slice r a.rows.length rc, .slice v a.events.length vc, .slice p a.pools.length pc]
  have hA := (Below.refl w.heap.size w).alloc (Nat.le_refl _) (.cells #[.int .u8 (a.a.fam : Nat), V64 a.a.hi, V64 a.a.lo, .int .u8 0, .int .u64 0, .int .u64 0, S a.owner, V64 a.til, .int .u8 (a.pool.a.fam : Nat), V64 a.pool.a.hi, V64 a.pool.a.lo, .int .i64 a.pool.bits, .bool a.has, .bool a.held, .bool a.live, V64 a.clock, .slice r a.rows.length rc, .slice v a.events.length vc, .slice p a.pools.length pc] 62)
  have Hres := Lib.hid (show P.mayA op a = (a.rows.all P.rwOk && decide (a.rows.length ≤ 16)) by rw [hop]; rfl)
  have hrows := hat.rows
  generalize P.mayA op a = res at *
  have t5 : ((op : Int) == 5) = false := beq_eq_false_iff_ne.2 (by omega)
  have t6 : ((op : Int) == 6) = false := beq_eq_false_iff_ne.2 (by omega)
  have t7 : ((op : Int) == 7) = false := beq_eq_false_iff_ne.2 (by omega)
  have t10 : ((op : Int) == 10) = false := beq_eq_false_iff_ne.2 (by omega)
  have t11 : ((op : Int) == 11) = true := beq_iff_eq.2 (by omega)
  clear hop hat
  obtain ⟨c0, c1, c2, c3, c4, c5, c6, c7, c8, c9, c10, c11, c12, c13, c14, c15, c16, c17, c18⟩ := h1.cells19
  go_enter Tryd.func19, Tryd.ntmps19
  go_wp2_with fail
  go_loopw [7] (fun i wr => ∃ j : Nat, j ≤ a.rows.length ∧ i = .int .i64 ((j : Nat) : Int) ∧ (a.rows.take j).all P.rwOk = true ∧ Bx wr w.heap.size 62 #[.int .u8 (a.a.fam : Nat), V64 a.a.hi, V64 a.a.lo, .int .u8 0, .int .u64 0, .int .u64 0, S a.owner, V64 a.til, .int .u8 (a.pool.a.fam : Nat), V64 a.pool.a.hi, V64 a.pool.a.lo, .int .i64 a.pool.bits, .bool a.has, .bool a.held, .bool a.live, V64 a.clock, .slice r a.rows.length rc, .slice v a.events.length vc, .slice p a.pools.length pc] ∧ Below w.heap.size w wr) (fun i _ => a.rows.length - (intOf i).toNat)
  case atStart => exact ⟨0, Nat.zero_le _, rfl, by simp, h1, hA⟩
  case round =>
    clear h1 hA c0 c1 c2 c3 c4 c5 c6 c7 c8 c9 c10 c11 c12 c13 c14 c15 c16 c17 c18
    obtain ⟨j, hj, rfl, hall, h1, hA⟩ := hrel
    obtain ⟨c0, c1, c2, c3, c4, c5, c6, c7, c8, c9, c10, c11, c12, c13, c14, c15, c16, c17, c18⟩ := h1.cells19
    have hlt1 := h1.lt
    by_cases hjn : j < a.rows.length
    · have hji : ((j : Nat) : Int) < ((a.rows.length : Nat) : Int) := by omega
      have Hnx := Lib.hid (P.all_next P.rwOk a.rows j hjn)
      have Hno := Lib.hid (P.all_not P.rwOk a.rows j hjn)
      have Hall := Lib.hid hall
      have hrj := RowsAt.up hrows hA
      obtain ⟨b, o, hq, hbl, k0, k1, k2, k3, k4⟩ := row_cells hrj j hjn
      have hmem := List.getElem_mem hjn
      have hoj := hown _ hmem
      skip
      have HK := Lib.hid hjn
      clear hall hrj hrows hmem hown
      generalize hy : a.rows[j] = y at *
      clear hy
      have HR := Lib.hid (fun wx => ref19Right_any y.a wx)
      have HO := Lib.hid (fun wx => owner26_any y.owner hoj wx)
      subst hq
      cases hba : P.adOk y.a with
      | false =>
        rw [hba] at HR
        have Hok := Lib.hid (show P.rwOk y = false by unfold P.rwOk; rw [hba]; rfl)
        clear hba
        have Hf := Lib.hid (show res = false by rw [Hres.out, Hno.out Hok.out, Bool.false_and])
        go_wp2_with (go_at_call 39; (with_reducible refine (HR.out _).mono ?_); rintro e w2 ⟨rfl, hb2⟩; have hA2 := Chain.up hA hb2; have h2 := h1.up hb2; obtain ⟨d0, d1, d2, d3, d4, d5, d6, d7, d8, d9, d10, d11, d12, d13, d14, d15, d16, d17, d18⟩ := h2.cells19; have m3 := (hb2.cell (p := ⟨b, o + j * 5 + 3, none⟩) hbl).trans k3)
        all_goals (go_ret; exact ⟨ret_bool Hf.out.symm, hA2⟩)
      | true =>
        rw [hba] at HR
        cases hbo : P.nameOk y.owner with
        | false =>
          rw [hbo] at HO
          have Hok := Lib.hid (show P.rwOk y = false by unfold P.rwOk; rw [hba, hbo]; rfl)
          clear hba hbo
          have Hf := Lib.hid (show res = false by rw [Hres.out, Hno.out Hok.out, Bool.false_and])
          go_wp2_with (first
            | (go_at_call 39; (with_reducible refine (HR.out _).mono ?_); rintro e w2 ⟨rfl, hb2⟩; have hA2 := Chain.up hA hb2; have h2 := h1.up hb2; obtain ⟨d0, d1, d2, d3, d4, d5, d6, d7, d8, d9, d10, d11, d12, d13, d14, d15, d16, d17, d18⟩ := h2.cells19; have m3 := (hb2.cell (p := ⟨b, o + j * 5 + 3, none⟩) hbl).trans k3)
            | (go_at_call 62; (with_reducible refine (HO.out _).mono ?_); rintro e w3 ⟨rfl, hb3⟩; have hA3 := Chain.up hA2 hb3; have h3 := h2.up hb3))
          all_goals (go_ret; exact ⟨ret_bool Hf.out.symm, hA3⟩)
        | true =>
          rw [hbo] at HO
          have Hok := Lib.hid (show P.rwOk y = true by unfold P.rwOk; rw [hba, hbo]; rfl)
          clear hba hbo
          go_wp2_with (first
            | (go_at_call 39; (with_reducible refine (HR.out _).mono ?_); rintro e w2 ⟨rfl, hb2⟩; have hA2 := Chain.up hA hb2; have h2 := h1.up hb2; obtain ⟨d0, d1, d2, d3, d4, d5, d6, d7, d8, d9, d10, d11, d12, d13, d14, d15, d16, d17, d18⟩ := h2.cells19; have m3 := (hb2.cell (p := ⟨b, o + j * 5 + 3, none⟩) hbl).trans k3)
            | (go_at_call 62; (with_reducible refine (HO.out _).mono ?_); rintro e w3 ⟨rfl, hb3⟩; have hA3 := Chain.up hA2 hb3; have h3 := h2.up hb3))
          go_roundw
          case rel => exact ⟨j + 1, by have := HK.out; omega, by go_num, by rw [Hnx.out, Hall.out, Hok.out]; rfl, h3, hA3⟩
          case measure => simp [intOf]; have := HK.out; omega
    · have Hf := Lib.hid (show res = decide ((a.rows.length : Int) ≤ 16) by
        have hj2 : j = a.rows.length := by omega
        rw [Hres.out, ← List.take_length (l := a.rows), ← hj2, hall, Bool.true_and, decide_eq_decide, List.length_take]
        omega)
      go_wp2_with fail
      all_goals (go_ret; refine ⟨ret_bool ?_, hA⟩; first | (rw [Hf.out]; done) | (rw [Hf.out]; simp [*]; done) | (rw [Hf.out]; simp; omega))
set_option maxRecDepth 100000 in
set_option maxHeartbeats 4000000 in
theorem refMay_12 (op : Nat) (a : P.An) (r : Option Addr) (rc : Nat) (v : Option Addr) (vc : Nat) (p : Option Addr) (pc : Nat) (ht : P.tyAn a) (hl : a.events.length ≤ 1000000) (hown : ∀ y ∈ a.events, y.owner.length ≤ 1000000000)  (w : World) (hat : AnsD w a r v p) (hop : op = 12) : Calls Tryd.prog 19 #[.int .u8 (op : Nat), raV a r rc v vc p pc, .int .i64 0] w fun e w' => e = .returned (.bool (P.mayA op a)) ∧ Below w.heap.size w w' := by
  have h1 := Bx.fresh w 62 #[.int .u8 (a.a.fam : Nat), V64 a.a.hi, V64 a.a.lo, .int .u8 0, .int .u64 0, .int .u64 0, S a.owner, V64 a.til, .int .u8 (a.pool.a.fam : Nat), V64 a.pool.a.hi, V64 a.pool.a.lo, .int .i64 a.pool.bits, .bool a.has, .bool a.held, .bool a.live, V64 a.clock, .slice r a.rows.length rc, .slice v a.events.length vc, .slice p a.pools.length pc]
  have hA := (Below.refl w.heap.size w).alloc (Nat.le_refl _) (.cells #[.int .u8 (a.a.fam : Nat), V64 a.a.hi, V64 a.a.lo, .int .u8 0, .int .u64 0, .int .u64 0, S a.owner, V64 a.til, .int .u8 (a.pool.a.fam : Nat), V64 a.pool.a.hi, V64 a.pool.a.lo, .int .i64 a.pool.bits, .bool a.has, .bool a.held, .bool a.live, V64 a.clock, .slice r a.rows.length rc, .slice v a.events.length vc, .slice p a.pools.length pc] 62)
  have Hres := Lib.hid (show P.mayA op a = (a.events.all P.evOk && decide (a.events.length ≤ 16)) by rw [hop]; rfl)
  have hrows := hat.events
  generalize P.mayA op a = res at *
  have t5 : ((op : Int) == 5) = false := beq_eq_false_iff_ne.2 (by omega)
  have t6 : ((op : Int) == 6) = false := beq_eq_false_iff_ne.2 (by omega)
  have t7 : ((op : Int) == 7) = false := beq_eq_false_iff_ne.2 (by omega)
  have t10 : ((op : Int) == 10) = false := beq_eq_false_iff_ne.2 (by omega)
  have t11 : ((op : Int) == 11) = false := beq_eq_false_iff_ne.2 (by omega)
  have t12 : ((op : Int) == 12) = true := beq_iff_eq.2 (by omega)
  clear hop hat
  obtain ⟨c0, c1, c2, c3, c4, c5, c6, c7, c8, c9, c10, c11, c12, c13, c14, c15, c16, c17, c18⟩ := h1.cells19
  go_enter Tryd.func19, Tryd.ntmps19
  go_wp2_with fail
  go_loopw [8] (fun i wr => ∃ j : Nat, j ≤ a.events.length ∧ i = .int .i64 ((j : Nat) : Int) ∧ (a.events.take j).all P.evOk = true ∧ Bx wr w.heap.size 62 #[.int .u8 (a.a.fam : Nat), V64 a.a.hi, V64 a.a.lo, .int .u8 0, .int .u64 0, .int .u64 0, S a.owner, V64 a.til, .int .u8 (a.pool.a.fam : Nat), V64 a.pool.a.hi, V64 a.pool.a.lo, .int .i64 a.pool.bits, .bool a.has, .bool a.held, .bool a.live, V64 a.clock, .slice r a.rows.length rc, .slice v a.events.length vc, .slice p a.pools.length pc] ∧ Below w.heap.size w wr) (fun i _ => a.events.length - (intOf i).toNat)
  case atStart => exact ⟨0, Nat.zero_le _, rfl, by simp, h1, hA⟩
  case round =>
    clear h1 hA c0 c1 c2 c3 c4 c5 c6 c7 c8 c9 c10 c11 c12 c13 c14 c15 c16 c17 c18
    obtain ⟨j, hj, rfl, hall, h1, hA⟩ := hrel
    obtain ⟨c0, c1, c2, c3, c4, c5, c6, c7, c8, c9, c10, c11, c12, c13, c14, c15, c16, c17, c18⟩ := h1.cells19
    have hlt1 := h1.lt
    by_cases hjn : j < a.events.length
    · have hji : ((j : Nat) : Int) < ((a.events.length : Nat) : Int) := by omega
      have Hnx := Lib.hid (P.all_next P.evOk a.events j hjn)
      have Hno := Lib.hid (P.all_not P.evOk a.events j hjn)
      have Hall := Lib.hid hall
      have hrj := RowsAt.up hrows hA
      obtain ⟨b, o, hq, hbl, k3, k4, k5, k6⟩ := evt_cells hrj j hjn
      have hmem := List.getElem_mem hjn
      have hoj := hown _ hmem
      skip
      have HK := Lib.hid hjn
      clear hall hrj hrows hmem hown
      generalize hy : a.events[j] = y at *
      clear hy
      have HO := Lib.hid (fun wx => owner26_any y.owner hoj wx)
      subst hq
      cases hbo : P.nameOk y.owner with
      | false =>
        rw [hbo] at HO
        have Hok := Lib.hid (show P.evOk y = false by unfold P.evOk; rw [hbo]; rfl)
        clear hbo
        have Hf := Lib.hid (show res = false by rw [Hres.out, Hno.out Hok.out, Bool.false_and])
        go_wp2_with (go_at_call 62; (with_reducible refine (HO.out _).mono ?_); rintro e w3 ⟨rfl, hb3⟩; have hA3 := Chain.up hA hb3; have h3 := h1.up hb3; obtain ⟨d0, d1, d2, d3, d4, d5, d6, d7, d8, d9, d10, d11, d12, d13, d14, d15, d16, d17, d18⟩ := h3.cells19; have m3 := (hb3.cell (p := ⟨b, o + j * 7 + 3, none⟩) hbl).trans k3)
        all_goals (go_ret; exact ⟨ret_bool Hf.out.symm, hA3⟩)
      | true =>
        rw [hbo] at HO
        by_cases hw1 : y.how < 1
        · have Hok := Lib.hid (show P.evOk y = false by unfold P.evOk; rw [hbo, decide_eq_false (by omega)]; rfl)
          clear hbo
          have Hf := Lib.hid (show res = false by rw [Hres.out, Hno.out Hok.out, Bool.false_and])
          go_wp2_with (go_at_call 62; (with_reducible refine (HO.out _).mono ?_); rintro e w3 ⟨rfl, hb3⟩; have hA3 := Chain.up hA hb3; have h3 := h1.up hb3; obtain ⟨d0, d1, d2, d3, d4, d5, d6, d7, d8, d9, d10, d11, d12, d13, d14, d15, d16, d17, d18⟩ := h3.cells19; have m3 := (hb3.cell (p := ⟨b, o + j * 7 + 3, none⟩) hbl).trans k3)
          all_goals (go_ret; exact ⟨ret_bool Hf.out.symm, hA3⟩)
        · by_cases hw4 : 4 < y.how
          · have Hok := Lib.hid (show P.evOk y = false by unfold P.evOk; rw [hbo, decide_eq_false (by omega)]; rfl)
            clear hbo
            have Hf := Lib.hid (show res = false by rw [Hres.out, Hno.out Hok.out, Bool.false_and])
            go_wp2_with (go_at_call 62; (with_reducible refine (HO.out _).mono ?_); rintro e w3 ⟨rfl, hb3⟩; have hA3 := Chain.up hA hb3; have h3 := h1.up hb3; obtain ⟨d0, d1, d2, d3, d4, d5, d6, d7, d8, d9, d10, d11, d12, d13, d14, d15, d16, d17, d18⟩ := h3.cells19; have m3 := (hb3.cell (p := ⟨b, o + j * 7 + 3, none⟩) hbl).trans k3)
            all_goals (go_ret; exact ⟨ret_bool Hf.out.symm, hA3⟩)
          · have Hok := Lib.hid (show P.evOk y = true by unfold P.evOk; rw [hbo, decide_eq_true (by omega)]; rfl)
            clear hbo
            go_wp2_with (go_at_call 62; (with_reducible refine (HO.out _).mono ?_); rintro e w3 ⟨rfl, hb3⟩; have hA3 := Chain.up hA hb3; have h3 := h1.up hb3; obtain ⟨d0, d1, d2, d3, d4, d5, d6, d7, d8, d9, d10, d11, d12, d13, d14, d15, d16, d17, d18⟩ := h3.cells19; have m3 := (hb3.cell (p := ⟨b, o + j * 7 + 3, none⟩) hbl).trans k3)
            go_roundw
            case rel => exact ⟨j + 1, by have := HK.out; omega, by go_num, by rw [Hnx.out, Hall.out, Hok.out]; rfl, h3, hA3⟩
            case measure => simp [intOf]; have := HK.out; omega
    · have Hf := Lib.hid (show res = decide ((a.events.length : Int) ≤ 16) by
        have hj2 : j = a.events.length := by omega
        rw [Hres.out, ← List.take_length (l := a.events), ← hj2, hall, Bool.true_and, decide_eq_decide, List.length_take]
        omega)
      go_wp2_with fail
      all_goals (go_ret; refine ⟨ret_bool ?_, hA⟩; first | (rw [Hf.out]; done) | (rw [Hf.out]; simp [*]; done) | (rw [Hf.out]; simp; omega))
set_option maxRecDepth 100000 in
set_option maxHeartbeats 4000000 in
theorem refMay_13 (op : Nat) (a : P.An) (r : Option Addr) (rc : Nat) (v : Option Addr) (vc : Nat) (p : Option Addr) (pc : Nat) (ht : P.tyAn a) (hl : a.pools.length ≤ 1000000) (hown : ∀ y ∈ a.pools, True)  (w : World) (hat : AnsD w a r v p) (hop : op = 13) : Calls Tryd.prog 19 #[.int .u8 (op : Nat), raV a r rc v vc p pc, .int .i64 0] w fun e w' => e = .returned (.bool (P.mayA op a)) ∧ Below w.heap.size w w' := by
  have h1 := Bx.fresh w 62 #[.int .u8 (a.a.fam : Nat), V64 a.a.hi, V64 a.a.lo, .int .u8 0, .int .u64 0, .int .u64 0, S a.owner, V64 a.til, .int .u8 (a.pool.a.fam : Nat), V64 a.pool.a.hi, V64 a.pool.a.lo, .int .i64 a.pool.bits, .bool a.has, .bool a.held, .bool a.live, V64 a.clock, .slice r a.rows.length rc, .slice v a.events.length vc, .slice p a.pools.length pc]
  have hA := (Below.refl w.heap.size w).alloc (Nat.le_refl _) (.cells #[.int .u8 (a.a.fam : Nat), V64 a.a.hi, V64 a.a.lo, .int .u8 0, .int .u64 0, .int .u64 0, S a.owner, V64 a.til, .int .u8 (a.pool.a.fam : Nat), V64 a.pool.a.hi, V64 a.pool.a.lo, .int .i64 a.pool.bits, .bool a.has, .bool a.held, .bool a.live, V64 a.clock, .slice r a.rows.length rc, .slice v a.events.length vc, .slice p a.pools.length pc] 62)
  have Hres := Lib.hid (show P.mayA op a = (a.pools.all P.pxOk && decide (a.pools.length ≤ 16)) by rw [hop]; rfl)
  have hrows := hat.pools
  generalize P.mayA op a = res at *
  have t5 : ((op : Int) == 5) = false := beq_eq_false_iff_ne.2 (by omega)
  have t6 : ((op : Int) == 6) = false := beq_eq_false_iff_ne.2 (by omega)
  have t7 : ((op : Int) == 7) = false := beq_eq_false_iff_ne.2 (by omega)
  have t10 : ((op : Int) == 10) = false := beq_eq_false_iff_ne.2 (by omega)
  have t11 : ((op : Int) == 11) = false := beq_eq_false_iff_ne.2 (by omega)
  have t12 : ((op : Int) == 12) = false := beq_eq_false_iff_ne.2 (by omega)
  have t13 : ((op : Int) == 13) = true := beq_iff_eq.2 (by omega)
  clear hop hat
  obtain ⟨c0, c1, c2, c3, c4, c5, c6, c7, c8, c9, c10, c11, c12, c13, c14, c15, c16, c17, c18⟩ := h1.cells19
  go_enter Tryd.func19, Tryd.ntmps19
  go_wp2_with fail
  go_loopw [9] (fun i wr => ∃ j : Nat, j ≤ a.pools.length ∧ i = .int .i64 ((j : Nat) : Int) ∧ (a.pools.take j).all P.pxOk = true ∧ Bx wr w.heap.size 62 #[.int .u8 (a.a.fam : Nat), V64 a.a.hi, V64 a.a.lo, .int .u8 0, .int .u64 0, .int .u64 0, S a.owner, V64 a.til, .int .u8 (a.pool.a.fam : Nat), V64 a.pool.a.hi, V64 a.pool.a.lo, .int .i64 a.pool.bits, .bool a.has, .bool a.held, .bool a.live, V64 a.clock, .slice r a.rows.length rc, .slice v a.events.length vc, .slice p a.pools.length pc] ∧ Below w.heap.size w wr) (fun i _ => a.pools.length - (intOf i).toNat)
  case atStart => exact ⟨0, Nat.zero_le _, rfl, by simp, h1, hA⟩
  case round =>
    clear h1 hA c0 c1 c2 c3 c4 c5 c6 c7 c8 c9 c10 c11 c12 c13 c14 c15 c16 c17 c18
    obtain ⟨j, hj, rfl, hall, h1, hA⟩ := hrel
    obtain ⟨c0, c1, c2, c3, c4, c5, c6, c7, c8, c9, c10, c11, c12, c13, c14, c15, c16, c17, c18⟩ := h1.cells19
    have hlt1 := h1.lt
    by_cases hjn : j < a.pools.length
    · have hji : ((j : Nat) : Int) < ((a.pools.length : Nat) : Int) := by omega
      have Hnx := Lib.hid (P.all_next P.pxOk a.pools j hjn)
      have Hno := Lib.hid (P.all_not P.pxOk a.pools j hjn)
      have Hall := Lib.hid hall
      have hrj := RowsAt.up hrows hA
      obtain ⟨b, o, hq, hbl, k0, k1, k2, k3⟩ := pool_cells hrj j hjn
      have hmem := List.getElem_mem hjn
      have hoj := hown _ hmem
      have htj := ht.2.2.2.2.2.2 _ hmem
      have HK := Lib.hid hjn
      clear hall hrj hrows hmem hown
      generalize hy : a.pools[j] = y at *
      clear hy
      have HR := Lib.hid (fun wx => ref20Right_any y htj wx)
      subst hq
      cases hba : P.pxOk y with
      | false =>
        rw [hba] at HR
        have Hok := Lib.hid hba
        clear hba
        have Hf := Lib.hid (show res = false by rw [Hres.out, Hno.out Hok.out, Bool.false_and])
        go_wp2_with (go_at_call 38; (with_reducible refine (HR.out _).mono ?_); rintro e w2 ⟨rfl, hb2⟩; have hA2 := Chain.up hA hb2; have h2 := h1.up hb2; obtain ⟨d0, d1, d2, d3, d4, d5, d6, d7, d8, d9, d10, d11, d12, d13, d14, d15, d16, d17, d18⟩ := h2.cells19)
        all_goals (go_ret; exact ⟨ret_bool Hf.out.symm, hA2⟩)
      | true =>
        rw [hba] at HR
        have Hok := Lib.hid hba
        clear hba
        go_wp2_with (go_at_call 38; (with_reducible refine (HR.out _).mono ?_); rintro e w2 ⟨rfl, hb2⟩; have hA2 := Chain.up hA hb2; have h2 := h1.up hb2; obtain ⟨d0, d1, d2, d3, d4, d5, d6, d7, d8, d9, d10, d11, d12, d13, d14, d15, d16, d17, d18⟩ := h2.cells19)
        go_roundw
        case rel => exact ⟨j + 1, by have := HK.out; omega, by go_num, by rw [Hnx.out, Hall.out, Hok.out]; rfl, h2, hA2⟩
        case measure => simp [intOf]; have := HK.out; omega
    · have Hf := Lib.hid (show res = decide ((a.pools.length : Int) ≤ 16) by
        have hj2 : j = a.pools.length := by omega
        rw [Hres.out, ← List.take_length (l := a.pools), ← hj2, hall, Bool.true_and, decide_eq_decide, List.length_take]
        omega)
      go_wp2_with fail
      all_goals (go_ret; refine ⟨ret_bool ?_, hA⟩; first | (rw [Hf.out]; done) | (rw [Hf.out]; simp [*]; done) | (rw [Hf.out]; simp; omega))
set_option maxRecDepth 100000 in
set_option maxHeartbeats 4000000 in
theorem refMay_14 (op : Nat) (a : P.An) (r : Option Addr) (rc : Nat) (v : Option Addr) (vc : Nat) (p : Option Addr) (pc : Nat) (ht : P.tyAn a) (hl : a.pools.length ≤ 1000000) (hown : ∀ y ∈ a.pools, True)  (w : World) (hat : AnsD w a r v p) (hop : op = 14) : Calls Tryd.prog 19 #[.int .u8 (op : Nat), raV a r rc v vc p pc, .int .i64 0] w fun e w' => e = .returned (.bool (P.mayA op a)) ∧ Below w.heap.size w w' := by
  have h1 := Bx.fresh w 62 #[.int .u8 (a.a.fam : Nat), V64 a.a.hi, V64 a.a.lo, .int .u8 0, .int .u64 0, .int .u64 0, S a.owner, V64 a.til, .int .u8 (a.pool.a.fam : Nat), V64 a.pool.a.hi, V64 a.pool.a.lo, .int .i64 a.pool.bits, .bool a.has, .bool a.held, .bool a.live, V64 a.clock, .slice r a.rows.length rc, .slice v a.events.length vc, .slice p a.pools.length pc]
  have hA := (Below.refl w.heap.size w).alloc (Nat.le_refl _) (.cells #[.int .u8 (a.a.fam : Nat), V64 a.a.hi, V64 a.a.lo, .int .u8 0, .int .u64 0, .int .u64 0, S a.owner, V64 a.til, .int .u8 (a.pool.a.fam : Nat), V64 a.pool.a.hi, V64 a.pool.a.lo, .int .i64 a.pool.bits, .bool a.has, .bool a.held, .bool a.live, V64 a.clock, .slice r a.rows.length rc, .slice v a.events.length vc, .slice p a.pools.length pc] 62)
  have Hres := Lib.hid (show P.mayA op a = (a.pools.all P.pxOk && decide (a.pools.length ≤ 16)) by rw [hop]; rfl)
  have hrows := hat.pools
  generalize P.mayA op a = res at *
  have t5 : ((op : Int) == 5) = false := beq_eq_false_iff_ne.2 (by omega)
  have t6 : ((op : Int) == 6) = false := beq_eq_false_iff_ne.2 (by omega)
  have t7 : ((op : Int) == 7) = false := beq_eq_false_iff_ne.2 (by omega)
  have t10 : ((op : Int) == 10) = false := beq_eq_false_iff_ne.2 (by omega)
  have t11 : ((op : Int) == 11) = false := beq_eq_false_iff_ne.2 (by omega)
  have t12 : ((op : Int) == 12) = false := beq_eq_false_iff_ne.2 (by omega)
  have t13 : ((op : Int) == 13) = false := beq_eq_false_iff_ne.2 (by omega)
  have t14 : ((op : Int) == 14) = true := beq_iff_eq.2 (by omega)
  clear hop hat
  obtain ⟨c0, c1, c2, c3, c4, c5, c6, c7, c8, c9, c10, c11, c12, c13, c14, c15, c16, c17, c18⟩ := h1.cells19
  go_enter Tryd.func19, Tryd.ntmps19
  go_wp2_with fail
  go_loopw [9] (fun i wr => ∃ j : Nat, j ≤ a.pools.length ∧ i = .int .i64 ((j : Nat) : Int) ∧ (a.pools.take j).all P.pxOk = true ∧ Bx wr w.heap.size 62 #[.int .u8 (a.a.fam : Nat), V64 a.a.hi, V64 a.a.lo, .int .u8 0, .int .u64 0, .int .u64 0, S a.owner, V64 a.til, .int .u8 (a.pool.a.fam : Nat), V64 a.pool.a.hi, V64 a.pool.a.lo, .int .i64 a.pool.bits, .bool a.has, .bool a.held, .bool a.live, V64 a.clock, .slice r a.rows.length rc, .slice v a.events.length vc, .slice p a.pools.length pc] ∧ Below w.heap.size w wr) (fun i _ => a.pools.length - (intOf i).toNat)
  case atStart => exact ⟨0, Nat.zero_le _, rfl, by simp, h1, hA⟩
  case round =>
    clear h1 hA c0 c1 c2 c3 c4 c5 c6 c7 c8 c9 c10 c11 c12 c13 c14 c15 c16 c17 c18
    obtain ⟨j, hj, rfl, hall, h1, hA⟩ := hrel
    obtain ⟨c0, c1, c2, c3, c4, c5, c6, c7, c8, c9, c10, c11, c12, c13, c14, c15, c16, c17, c18⟩ := h1.cells19
    have hlt1 := h1.lt
    by_cases hjn : j < a.pools.length
    · have hji : ((j : Nat) : Int) < ((a.pools.length : Nat) : Int) := by omega
      have Hnx := Lib.hid (P.all_next P.pxOk a.pools j hjn)
      have Hno := Lib.hid (P.all_not P.pxOk a.pools j hjn)
      have Hall := Lib.hid hall
      have hrj := RowsAt.up hrows hA
      obtain ⟨b, o, hq, hbl, k0, k1, k2, k3⟩ := pool_cells hrj j hjn
      have hmem := List.getElem_mem hjn
      have hoj := hown _ hmem
      have htj := ht.2.2.2.2.2.2 _ hmem
      have HK := Lib.hid hjn
      clear hall hrj hrows hmem hown
      generalize hy : a.pools[j] = y at *
      clear hy
      have HR := Lib.hid (fun wx => ref20Right_any y htj wx)
      subst hq
      cases hba : P.pxOk y with
      | false =>
        rw [hba] at HR
        have Hok := Lib.hid hba
        clear hba
        have Hf := Lib.hid (show res = false by rw [Hres.out, Hno.out Hok.out, Bool.false_and])
        go_wp2_with (go_at_call 38; (with_reducible refine (HR.out _).mono ?_); rintro e w2 ⟨rfl, hb2⟩; have hA2 := Chain.up hA hb2; have h2 := h1.up hb2; obtain ⟨d0, d1, d2, d3, d4, d5, d6, d7, d8, d9, d10, d11, d12, d13, d14, d15, d16, d17, d18⟩ := h2.cells19)
        all_goals (go_ret; exact ⟨ret_bool Hf.out.symm, hA2⟩)
      | true =>
        rw [hba] at HR
        have Hok := Lib.hid hba
        clear hba
        go_wp2_with (go_at_call 38; (with_reducible refine (HR.out _).mono ?_); rintro e w2 ⟨rfl, hb2⟩; have hA2 := Chain.up hA hb2; have h2 := h1.up hb2; obtain ⟨d0, d1, d2, d3, d4, d5, d6, d7, d8, d9, d10, d11, d12, d13, d14, d15, d16, d17, d18⟩ := h2.cells19)
        go_roundw
        case rel => exact ⟨j + 1, by have := HK.out; omega, by go_num, by rw [Hnx.out, Hall.out, Hok.out]; rfl, h2, hA2⟩
        case measure => simp [intOf]; have := HK.out; omega
    · have Hf := Lib.hid (show res = decide ((a.pools.length : Int) ≤ 16) by
        have hj2 : j = a.pools.length := by omega
        rw [Hres.out, ← List.take_length (l := a.pools), ← hj2, hall, Bool.true_and, decide_eq_decide, List.length_take]
        omega)
      go_wp2_with fail
      all_goals (go_ret; refine ⟨ret_bool ?_, hA⟩; first | (rw [Hf.out]; done) | (rw [Hf.out]; simp [*]; done) | (rw [Hf.out]; simp; omega))
set_option maxRecDepth 100000 in
set_option maxHeartbeats 4000000 in
theorem refMay_other (op : Nat) (a : P.An) (r : Option Addr) (rc : Nat) (v : Option Addr) (vc : Nat) (p : Option Addr) (pc : Nat) (hop : ¬ (5 ≤ op ∧ op ≤ 7) ∧ ¬ (10 ≤ op ∧ op ≤ 14)) (w : World) : Calls Tryd.prog 19 #[.int .u8 (op : Nat), raV a r rc v vc p pc, .int .i64 0] w fun e w' => e = .returned (.bool (P.mayA op a)) ∧ Below w.heap.size w w' := by
  have h1 := Bx.fresh w 62 #[.int .u8 (a.a.fam : Nat), V64 a.a.hi, V64 a.a.lo, .int .u8 0, .int .u64 0, .int .u64 0, S a.owner, V64 a.til, .int .u8 (a.pool.a.fam : Nat), V64 a.pool.a.hi, V64 a.pool.a.lo, .int .i64 a.pool.bits, .bool a.has, .bool a.held, .bool a.live, V64 a.clock, .slice r a.rows.length rc, .slice v a.events.length vc, .slice p a.pools.length pc]
  have hA := (Below.refl w.heap.size w).alloc (Nat.le_refl _) (.cells #[.int .u8 (a.a.fam : Nat), V64 a.a.hi, V64 a.a.lo, .int .u8 0, .int .u64 0, .int .u64 0, S a.owner, V64 a.til, .int .u8 (a.pool.a.fam : Nat), V64 a.pool.a.hi, V64 a.pool.a.lo, .int .i64 a.pool.bits, .bool a.has, .bool a.held, .bool a.live, V64 a.clock, .slice r a.rows.length rc, .slice v a.events.length vc, .slice p a.pools.length pc] 62)
  have Hres := Lib.hid (show P.mayA op a = true by unfold P.mayA; rw [if_neg hop.1, if_neg (by omega), if_neg (by omega), if_neg (by omega), if_neg (by omega)])
  generalize P.mayA op a = res at *
  have t5 : ((op : Int) == 5) = false := beq_eq_false_iff_ne.2 (by omega)
  have t6 : ((op : Int) == 6) = false := beq_eq_false_iff_ne.2 (by omega)
  have t7 : ((op : Int) == 7) = false := beq_eq_false_iff_ne.2 (by omega)
  have t10 : ((op : Int) == 10) = false := beq_eq_false_iff_ne.2 (by omega)
  have t11 : ((op : Int) == 11) = false := beq_eq_false_iff_ne.2 (by omega)
  have t12 : ((op : Int) == 12) = false := beq_eq_false_iff_ne.2 (by omega)
  have t13 : ((op : Int) == 13) = false := beq_eq_false_iff_ne.2 (by omega)
  have t14 : ((op : Int) == 14) = false := beq_eq_false_iff_ne.2 (by omega)
  clear hop
  go_enter Tryd.func19, Tryd.ntmps19
  go_wp2_with fail
  all_goals (go_ret; exact ⟨ret_bool Hres.out.symm, hA⟩)
theorem refMay_any (op : Nat) (a : P.An) (r : Option Addr) (rc : Nat) (v : Option Addr) (vc : Nat) (p : Option Addr) (pc : Nat) (e : Int) (ht : P.tyAn a) (ho : a.owner.length ≤ 1000000000) (hl : a.rows.length ≤ 1000000 ∧ a.events.length ≤ 1000000 ∧ a.pools.length ≤ 1000000) (hr : ∀ y ∈ a.rows, y.owner.length ≤ 1000000000) (hv : ∀ y ∈ a.events, y.owner.length ≤ 1000000000) (w : World) (hat : AnsD w a r v p) : Calls Tryd.prog 19 #[.int .u8 (op : Nat), raV a r rc v vc p pc, .int .i64 e] w fun e' w' => e' = .returned (.bool (decide (0 ≤ e ∧ e ≤ 255) && (decide (e ≠ 0) || P.mayA op a))) ∧ Below w.heap.size w w' := by
  by_cases h1 : e < 0 ∨ 255 < e
  · rw [decide_eq_false (by omega), Bool.false_and]
    exact refMay_bad op a r rc v vc p pc e h1 w
  · rw [decide_eq_true (show 0 ≤ e ∧ e ≤ 255 by omega), Bool.true_and]
    by_cases h2 : 0 < e
    · rw [decide_eq_true (show e ≠ 0 by omega), Bool.true_or]
      exact refMay_err op a r rc v vc p pc e h2 (by omega) w
    · obtain rfl : e = 0 := by omega
      rw [decide_eq_false (by simp), Bool.false_or]
      by_cases ho1 : ¬ (5 ≤ op ∧ op ≤ 7) ∧ ¬ (10 ≤ op ∧ op ≤ 14)
      · exact refMay_other op a r rc v vc p pc ho1 w
      · rcases (show op = 5 ∨ op = 6 ∨ op = 7 ∨ op = 10 ∨ op = 11 ∨ op = 12 ∨ op = 13 ∨ op = 14 by omega) with h | h | h | h | h | h | h | h
        · exact refMay_5 op a r rc v vc p pc ho h w
        · exact refMay_6 op a r rc v vc p pc ho h w
        · exact refMay_7 op a r rc v vc p pc ho h w
        · exact refMay_10 op a r rc v vc p pc ht ho h w
        · exact refMay_11 op a r rc v vc p pc ht hl.1 hr w hat h
        · exact refMay_12 op a r rc v vc p pc ht hl.2.1 hv w hat h
        · exact refMay_13 op a r rc v vc p pc ht hl.2.2 (fun _ _ => trivial) w hat h
        · exact refMay_14 op a r rc v vc p pc ht hl.2.2 (fun _ _ => trivial) w hat h
end Go.Proofs.YtcobfoiajdbahaaDoor
