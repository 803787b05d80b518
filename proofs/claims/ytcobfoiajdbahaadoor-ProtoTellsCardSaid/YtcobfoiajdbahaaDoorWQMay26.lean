/- The document's answers in memory; the walks of its owner and of whether an answer may be told. -/
import Derived.Test.YtcobfoiajdbahaaDoorWQLease
import Derived.Test.YtcobfoiajdbahaaDoorWQRowM
namespace Go.Proofs.YtcobfoiajdbahaaDoor
open Go.RowKit
set_option linter.unusedVariables false
set_option linter.unusedSimpArgs false
def evD (e : P.Ev) : List Value := [.int .u8 0, .int .u64 0, .int .u64 0, .int .i64 e.how, S e.owner, V64 e.at', V64 e.til]
theorem evD_len (e : P.Ev) : (evD e).length = 7 := rfl
abbrev raV (a : P.An) (r : Option Addr) (rc : Nat) (v : Option Addr) (vc : Nat) (p : Option Addr) (pc : Nat) : Value := .agg #[.int .u8 (a.a.fam : Nat), V64 a.a.hi, V64 a.a.lo, .int .u8 0, .int .u64 0, .int .u64 0, S a.owner, V64 a.til, .int .u8 (a.pool.a.fam : Nat), V64 a.pool.a.hi, V64 a.pool.a.lo, .int .i64 a.pool.bits, .bool a.has, .bool a.held, .bool a.live, V64 a.clock, .slice r a.rows.length rc, .slice v a.events.length vc, .slice p a.pools.length pc]
/-- The lists of a document's answer, read. -/
structure AnsD (w : World) (a : P.An) (r v p : Option Addr) : Prop where
  rows : RowsAt 5 rwC w r a.rows
  events : RowsAt 7 evD w v a.events
  pools : RowsAt 4 pxC w p a.pools
theorem infoRAn : (Tryd.prog.info? 62).map (·.size) = some 19 := by kernel_rfl
theorem structRAn : Tryd.prog.underlying 62 = some (.struct (Tryd.prog.fieldsOf 62)) := by kernel_rfl
theorem Bx.cells19 {w : World} {g : Nat} {t : TypeId} {x0 x1 x2 x3 x4 x5 x6 x7 x8 x9 x10 x11 x12 x13 x14 x15 x16 x17 x18 : Value} (h : Bx w g t #[x0, x1, x2, x3, x4, x5, x6, x7, x8, x9, x10, x11, x12, x13, x14, x15, x16, x17, x18]) : w.cell? ⟨g, 0, none⟩ = some x0 ∧ w.cell? ⟨g, 1, none⟩ = some x1 ∧ w.cell? ⟨g, 2, none⟩ = some x2 ∧ w.cell? ⟨g, 3, none⟩ = some x3 ∧ w.cell? ⟨g, 4, none⟩ = some x4 ∧ w.cell? ⟨g, 5, none⟩ = some x5 ∧ w.cell? ⟨g, 6, none⟩ = some x6 ∧ w.cell? ⟨g, 7, none⟩ = some x7 ∧ w.cell? ⟨g, 8, none⟩ = some x8 ∧ w.cell? ⟨g, 9, none⟩ = some x9 ∧ w.cell? ⟨g, 10, none⟩ = some x10 ∧ w.cell? ⟨g, 11, none⟩ = some x11 ∧ w.cell? ⟨g, 12, none⟩ = some x12 ∧ w.cell? ⟨g, 13, none⟩ = some x13 ∧ w.cell? ⟨g, 14, none⟩ = some x14 ∧ w.cell? ⟨g, 15, none⟩ = some x15 ∧ w.cell? ⟨g, 16, none⟩ = some x16 ∧ w.cell? ⟨g, 17, none⟩ = some x17 ∧ w.cell? ⟨g, 18, none⟩ = some x18 :=
  ⟨h.cell 0, h.cell 1, h.cell 2, h.cell 3, h.cell 4, h.cell 5, h.cell 6, h.cell 7, h.cell 8, h.cell 9, h.cell 10, h.cell 11, h.cell 12, h.cell 13, h.cell 14, h.cell 15, h.cell 16, h.cell 17, h.cell 18⟩
theorem P.all_next {α : Type} (f : α → Bool) (l : List α) (j : Nat) (h : j < l.length) : (l.take (j + 1)).all f = ((l.take j).all f && f l[j]) := by
  rw [List.take_succ_eq_append_getElem h, List.all_append]
  simp
theorem P.all_not {α : Type} (f : α → Bool) (l : List α) (j : Nat) (h : j < l.length) (hf : f l[j] = false) : l.all f = false := by
  cases hl : l.all f with
  | false => rfl
  | true => rw [List.all_eq_true.1 hl _ (List.getElem_mem h)] at hf; cases hf
theorem row_cells {w : World} {q : Option Addr} {l : List P.Rw} (h : RowsAt 5 rwC w q l) (j : Nat) (hj : j < l.length) : ∃ b o, q = some ⟨b, o, none⟩ ∧ b < w.heap.size ∧ w.cell? ⟨b, o + j * 5, none⟩ = some (.int .u8 ((l[j]).a.fam : Nat)) ∧ w.cell? ⟨b, o + j * 5 + 1, none⟩ = some (V64 (l[j]).a.hi) ∧ w.cell? ⟨b, o + j * 5 + 2, none⟩ = some (V64 (l[j]).a.lo) ∧ w.cell? ⟨b, o + j * 5 + 3, none⟩ = some (S (l[j]).owner) ∧ w.cell? ⟨b, o + j * 5 + 4, none⟩ = some (V64 (l[j]).til) := by
  obtain ⟨b, o, e, hb, hc⟩ := h j hj
  exact ⟨b, o, e, hb, hc 0 (by omega), hc 1 (by omega), hc 2 (by omega), hc 3 (by omega), hc 4 (by omega)⟩
theorem evt_cells {w : World} {q : Option Addr} {l : List P.Ev} (h : RowsAt 7 evD w q l) (j : Nat) (hj : j < l.length) : ∃ b o, q = some ⟨b, o, none⟩ ∧ b < w.heap.size ∧ w.cell? ⟨b, o + j * 7 + 3, none⟩ = some (.int .i64 (l[j]).how) ∧ w.cell? ⟨b, o + j * 7 + 4, none⟩ = some (S (l[j]).owner) ∧ w.cell? ⟨b, o + j * 7 + 5, none⟩ = some (V64 (l[j]).at') ∧ w.cell? ⟨b, o + j * 7 + 6, none⟩ = some (V64 (l[j]).til) := by
  obtain ⟨b, o, e, hb, hc⟩ := h j hj
  exact ⟨b, o, e, hb, hc 3 (by omega), hc 4 (by omega), hc 5 (by omega), hc 6 (by omega)⟩
theorem pool_cells {w : World} {q : Option Addr} {l : List P.Px} (h : RowsAt 4 pxC w q l) (j : Nat) (hj : j < l.length) : ∃ b o, q = some ⟨b, o, none⟩ ∧ b < w.heap.size ∧ w.cell? ⟨b, o + j * 4, none⟩ = some (.int .u8 ((l[j]).a.fam : Nat)) ∧ w.cell? ⟨b, o + j * 4 + 1, none⟩ = some (V64 (l[j]).a.hi) ∧ w.cell? ⟨b, o + j * 4 + 2, none⟩ = some (V64 (l[j]).a.lo) ∧ w.cell? ⟨b, o + j * 4 + 3, none⟩ = some (.int .i64 (l[j]).bits) := by
  obtain ⟨b, o, e, hb, hc⟩ := h j hj
  exact ⟨b, o, e, hb, hc 0 (by omega), hc 1 (by omega), hc 2 (by omega), hc 3 (by omega)⟩
set_option maxRecDepth 100000 in
theorem owner26_any (s : List UInt8) (hs : s.length ≤ 1000000000) (w : World) : Calls Tryd.prog 62 #[S s] w fun e w' => e = .returned (.bool (P.nameOk s)) ∧ Below w.heap.size w w' := by
  by_cases h1 : 1 ≤ s.length
  · have t1 : decide ((1 : Int) ≤ ((s.length : Nat) : Int)) = true := decide_eq_true (by omega)
    have Hr := Lib.hid (show P.nameOk s = decide (((s.length : Nat) : Int) ≤ 32) by unfold P.nameOk; rw [decide_eq_decide]; omega)
    clear h1
    go_enter Tryd.func62, Tryd.ntmps62
    go_wp2_with fail
    all_goals (go_ret; refine ⟨ret_bool ?_, Below.refl _ _⟩; first | (rw [Hr.out]; done) | (rw [Hr.out]; first | rfl | (simp [*]; done) | (simp [*]; omega)))
  · have Hr := Lib.hid (show P.nameOk s = false by unfold P.nameOk; exact decide_eq_false (by omega))
    have h0 : s.length = 0 := by omega
    obtain rfl : s = [] := List.length_eq_zero_iff.1 h0
    clear h1 h0
    go_enter Tryd.func62, Tryd.ntmps62
    go_wp2_with fail
    all_goals (go_ret; refine ⟨ret_bool ?_, Below.refl _ _⟩; first | (rw [Hr.out]; done) | (rw [Hr.out]; first | rfl | (simp [*]; done)))
set_option maxRecDepth 100000 in
set_option maxHeartbeats 4000000 in
theorem refMay_bad (op : Nat) (a : P.An) (r : Option Addr) (rc : Nat) (v : Option Addr) (vc : Nat) (p : Option Addr) (pc : Nat) (e : Int) (he : e < 0 ∨ 255 < e) (w : World) : Calls Tryd.prog 19 #[.int .u8 (op : Nat), raV a r rc v vc p pc, .int .i64 e] w fun e w' => e = .returned (.bool false) ∧ Below w.heap.size w w' := by
  have h1 := Bx.fresh w 62 #[.int .u8 (a.a.fam : Nat), V64 a.a.hi, V64 a.a.lo, .int .u8 0, .int .u64 0, .int .u64 0, S a.owner, V64 a.til, .int .u8 (a.pool.a.fam : Nat), V64 a.pool.a.hi, V64 a.pool.a.lo, .int .i64 a.pool.bits, .bool a.has, .bool a.held, .bool a.live, V64 a.clock, .slice r a.rows.length rc, .slice v a.events.length vc, .slice p a.pools.length pc]
  have hA := (Below.refl w.heap.size w).alloc (Nat.le_refl _) (.cells #[.int .u8 (a.a.fam : Nat), V64 a.a.hi, V64 a.a.lo, .int .u8 0, .int .u64 0, .int .u64 0, S a.owner, V64 a.til, .int .u8 (a.pool.a.fam : Nat), V64 a.pool.a.hi, V64 a.pool.a.lo, .int .i64 a.pool.bits, .bool a.has, .bool a.held, .bool a.live, V64 a.clock, .slice r a.rows.length rc, .slice v a.events.length vc, .slice p a.pools.length pc] 62)
  rcases he with he | he
  · go_enter Tryd.func19, Tryd.ntmps19
    go_wp2_with fail
    all_goals (go_ret; exact ⟨rfl, hA⟩)
  · have hn : ¬ e < 0 := by omega
    go_enter Tryd.func19, Tryd.ntmps19
    go_wp2_with fail
    all_goals (go_ret; exact ⟨rfl, hA⟩)
set_option maxRecDepth 100000 in
set_option maxHeartbeats 4000000 in
theorem refMay_err (op : Nat) (a : P.An) (r : Option Addr) (rc : Nat) (v : Option Addr) (vc : Nat) (p : Option Addr) (pc : Nat) (e : Int) (h1e : 0 < e) (h2e : e ≤ 255) (w : World) : Calls Tryd.prog 19 #[.int .u8 (op : Nat), raV a r rc v vc p pc, .int .i64 e] w fun e w' => e = .returned (.bool true) ∧ Below w.heap.size w w' := by
  have h1 := Bx.fresh w 62 #[.int .u8 (a.a.fam : Nat), V64 a.a.hi, V64 a.a.lo, .int .u8 0, .int .u64 0, .int .u64 0, S a.owner, V64 a.til, .int .u8 (a.pool.a.fam : Nat), V64 a.pool.a.hi, V64 a.pool.a.lo, .int .i64 a.pool.bits, .bool a.has, .bool a.held, .bool a.live, V64 a.clock, .slice r a.rows.length rc, .slice v a.events.length vc, .slice p a.pools.length pc]
  have hA := (Below.refl w.heap.size w).alloc (Nat.le_refl _) (.cells #[.int .u8 (a.a.fam : Nat), V64 a.a.hi, V64 a.a.lo, .int .u8 0, .int .u64 0, .int .u64 0, S a.owner, V64 a.til, .int .u8 (a.pool.a.fam : Nat), V64 a.pool.a.hi, V64 a.pool.a.lo, .int .i64 a.pool.bits, .bool a.has, .bool a.held, .bool a.live, V64 a.clock, .slice r a.rows.length rc, .slice v a.events.length vc, .slice p a.pools.length pc] 62)
  have hn : ¬ e < 0 := by omega
  have hn2 : ¬ 255 < e := by omega
  go_enter Tryd.func19, Tryd.ntmps19
  go_wp2_with fail
  all_goals (go_ret; exact ⟨rfl, hA⟩)
set_option maxRecDepth 100000 in
set_option maxHeartbeats 4000000 in
theorem refMay_5 (op : Nat) (a : P.An) (r : Option Addr) (rc : Nat) (v : Option Addr) (vc : Nat) (p : Option Addr) (pc : Nat) (ho : a.owner.length ≤ 1000000000) (hop : op = 5) (w : World) : Calls Tryd.prog 19 #[.int .u8 (op : Nat), raV a r rc v vc p pc, .int .i64 0] w fun e w' => e = .returned (.bool (P.mayA op a)) ∧ Below w.heap.size w w' := by
  have h1 := Bx.fresh w 62 #[.int .u8 (a.a.fam : Nat), V64 a.a.hi, V64 a.a.lo, .int .u8 0, .int .u64 0, .int .u64 0, S a.owner, V64 a.til, .int .u8 (a.pool.a.fam : Nat), V64 a.pool.a.hi, V64 a.pool.a.lo, .int .i64 a.pool.bits, .bool a.has, .bool a.held, .bool a.live, V64 a.clock, .slice r a.rows.length rc, .slice v a.events.length vc, .slice p a.pools.length pc]
  have hA := (Below.refl w.heap.size w).alloc (Nat.le_refl _) (.cells #[.int .u8 (a.a.fam : Nat), V64 a.a.hi, V64 a.a.lo, .int .u8 0, .int .u64 0, .int .u64 0, S a.owner, V64 a.til, .int .u8 (a.pool.a.fam : Nat), V64 a.pool.a.hi, V64 a.pool.a.lo, .int .i64 a.pool.bits, .bool a.has, .bool a.held, .bool a.live, V64 a.clock, .slice r a.rows.length rc, .slice v a.events.length vc, .slice p a.pools.length pc] 62)
  have HR := Lib.hid (fun wx => ref19Right_any a.a wx)
  have HO := Lib.hid (fun wx => owner26_any a.owner ho wx)
  have Hres := Lib.hid (show P.mayA op a = (P.adOk a.a && P.nameOk a.owner) by rw [hop]; rfl)
  generalize P.mayA op a = res at *
  generalize P.nameOk a.owner = bo at *
  have t5 : ((op : Int) == 5) = true := beq_iff_eq.2 (by omega)
  clear hop ho
  obtain ⟨c0, c1, c2, c3, c4, c5, c6, -⟩ := h1.cells19
  cases hb : P.adOk a.a with
  | false =>
    rw [hb] at HR
    have Hf := Lib.hid (show res = false by rw [Hres.out, hb, Bool.false_and])
    clear hb Hres
    go_enter Tryd.func19, Tryd.ntmps19
    go_wp2_with (go_at_call 39; (with_reducible refine (HR.out _).mono ?_); rintro e w2 ⟨rfl, hb2⟩; have hA2 := Chain.up hA hb2)
    all_goals (go_ret; exact ⟨ret_bool Hf.out.symm, hA2⟩)
  | true =>
    rw [hb] at HR
    have Hf := Lib.hid (show res = bo by rw [Hres.out, hb, Bool.true_and])
    clear hb Hres
    go_enter Tryd.func19, Tryd.ntmps19
    go_wp2_with (first
      | (go_at_call 39; (with_reducible refine (HR.out _).mono ?_); rintro e w2 ⟨rfl, hb2⟩; have hA2 := Chain.up hA hb2; have h2 := h1.up hb2; obtain ⟨d0, d1, d2, d3, d4, d5, d6, -⟩ := h2.cells19)
      | (go_at_call 62; (with_reducible refine (HO.out _).mono ?_); rintro e w3 ⟨rfl, hb3⟩; have hA3 := Chain.up hA2 hb3))
    all_goals (go_ret; exact ⟨ret_bool Hf.out.symm, hA3⟩)
set_option maxRecDepth 100000 in
set_option maxHeartbeats 4000000 in
theorem refMay_6 (op : Nat) (a : P.An) (r : Option Addr) (rc : Nat) (v : Option Addr) (vc : Nat) (p : Option Addr) (pc : Nat) (ho : a.owner.length ≤ 1000000000) (hop : op = 6) (w : World) : Calls Tryd.prog 19 #[.int .u8 (op : Nat), raV a r rc v vc p pc, .int .i64 0] w fun e w' => e = .returned (.bool (P.mayA op a)) ∧ Below w.heap.size w w' := by
  have h1 := Bx.fresh w 62 #[.int .u8 (a.a.fam : Nat), V64 a.a.hi, V64 a.a.lo, .int .u8 0, .int .u64 0, .int .u64 0, S a.owner, V64 a.til, .int .u8 (a.pool.a.fam : Nat), V64 a.pool.a.hi, V64 a.pool.a.lo, .int .i64 a.pool.bits, .bool a.has, .bool a.held, .bool a.live, V64 a.clock, .slice r a.rows.length rc, .slice v a.events.length vc, .slice p a.pools.length pc]
  have hA := (Below.refl w.heap.size w).alloc (Nat.le_refl _) (.cells #[.int .u8 (a.a.fam : Nat), V64 a.a.hi, V64 a.a.lo, .int .u8 0, .int .u64 0, .int .u64 0, S a.owner, V64 a.til, .int .u8 (a.pool.a.fam : Nat), V64 a.pool.a.hi, V64 a.pool.a.lo, .int .i64 a.pool.bits, .bool a.has, .bool a.held, .bool a.live, V64 a.clock, .slice r a.rows.length rc, .slice v a.events.length vc, .slice p a.pools.length pc] 62)
  have HR := Lib.hid (fun wx => ref19Right_any a.a wx)
  have HO := Lib.hid (fun wx => owner26_any a.owner ho wx)
  have Hres := Lib.hid (show P.mayA op a = (P.adOk a.a && P.nameOk a.owner) by rw [hop]; rfl)
  generalize P.mayA op a = res at *
  generalize P.nameOk a.owner = bo at *
  have t5 : ((op : Int) == 5) = false := beq_eq_false_iff_ne.2 (by omega)
  have t6 : ((op : Int) == 6) = true := beq_iff_eq.2 (by omega)
  clear hop ho
  obtain ⟨c0, c1, c2, c3, c4, c5, c6, -⟩ := h1.cells19
  cases hb : P.adOk a.a with
  | false =>
    rw [hb] at HR
    have Hf := Lib.hid (show res = false by rw [Hres.out, hb, Bool.false_and])
    clear hb Hres
    go_enter Tryd.func19, Tryd.ntmps19
    go_wp2_with (go_at_call 39; (with_reducible refine (HR.out _).mono ?_); rintro e w2 ⟨rfl, hb2⟩; have hA2 := Chain.up hA hb2)
    all_goals (go_ret; exact ⟨ret_bool Hf.out.symm, hA2⟩)
  | true =>
    rw [hb] at HR
    have Hf := Lib.hid (show res = bo by rw [Hres.out, hb, Bool.true_and])
    clear hb Hres
    go_enter Tryd.func19, Tryd.ntmps19
    go_wp2_with (first
      | (go_at_call 39; (with_reducible refine (HR.out _).mono ?_); rintro e w2 ⟨rfl, hb2⟩; have hA2 := Chain.up hA hb2; have h2 := h1.up hb2; obtain ⟨d0, d1, d2, d3, d4, d5, d6, -⟩ := h2.cells19)
      | (go_at_call 62; (with_reducible refine (HO.out _).mono ?_); rintro e w3 ⟨rfl, hb3⟩; have hA3 := Chain.up hA2 hb3))
    all_goals (go_ret; exact ⟨ret_bool Hf.out.symm, hA3⟩)
set_option maxRecDepth 100000 in
set_option maxHeartbeats 4000000 in
theorem refMay_7 (op : Nat) (a : P.An) (r : Option Addr) (rc : Nat) (v : Option Addr) (vc : Nat) (p : Option Addr) (pc : Nat) (ho : a.owner.length ≤ 1000000000) (hop : op = 7) (w : World) : Calls Tryd.prog 19 #[.int .u8 (op : Nat), raV a r rc v vc p pc, .int .i64 0] w fun e w' => e = .returned (.bool (P.mayA op a)) ∧ Below w.heap.size w w' := by
  have h1 := Bx.fresh w 62 #[.int .u8 (a.a.fam : Nat), V64 a.a.hi, V64 a.a.lo, .int .u8 0, .int .u64 0, .int .u64 0, S a.owner, V64 a.til, .int .u8 (a.pool.a.fam : Nat), V64 a.pool.a.hi, V64 a.pool.a.lo, .int .i64 a.pool.bits, .bool a.has, .bool a.held, .bool a.live, V64 a.clock, .slice r a.rows.length rc, .slice v a.events.length vc, .slice p a.pools.length pc]
  have hA := (Below.refl w.heap.size w).alloc (Nat.le_refl _) (.cells #[.int .u8 (a.a.fam : Nat), V64 a.a.hi, V64 a.a.lo, .int .u8 0, .int .u64 0, .int .u64 0, S a.owner, V64 a.til, .int .u8 (a.pool.a.fam : Nat), V64 a.pool.a.hi, V64 a.pool.a.lo, .int .i64 a.pool.bits, .bool a.has, .bool a.held, .bool a.live, V64 a.clock, .slice r a.rows.length rc, .slice v a.events.length vc, .slice p a.pools.length pc] 62)
  have HR := Lib.hid (fun wx => ref19Right_any a.a wx)
  have HO := Lib.hid (fun wx => owner26_any a.owner ho wx)
  have Hres := Lib.hid (show P.mayA op a = (P.adOk a.a && P.nameOk a.owner) by rw [hop]; rfl)
  generalize P.mayA op a = res at *
  generalize P.nameOk a.owner = bo at *
  have t5 : ((op : Int) == 5) = false := beq_eq_false_iff_ne.2 (by omega)
  have t6 : ((op : Int) == 6) = false := beq_eq_false_iff_ne.2 (by omega)
  have t7 : ((op : Int) == 7) = true := beq_iff_eq.2 (by omega)
  clear hop ho
  obtain ⟨c0, c1, c2, c3, c4, c5, c6, -⟩ := h1.cells19
  cases hb : P.adOk a.a with
  | false =>
    rw [hb] at HR
    have Hf := Lib.hid (show res = false by rw [Hres.out, hb, Bool.false_and])
    clear hb Hres
    go_enter Tryd.func19, Tryd.ntmps19
    go_wp2_with (go_at_call 39; (with_reducible refine (HR.out _).mono ?_); rintro e w2 ⟨rfl, hb2⟩; have hA2 := Chain.up hA hb2)
    all_goals (go_ret; exact ⟨ret_bool Hf.out.symm, hA2⟩)
  | true =>
    rw [hb] at HR
    have Hf := Lib.hid (show res = bo by rw [Hres.out, hb, Bool.true_and])
    clear hb Hres
    go_enter Tryd.func19, Tryd.ntmps19
    go_wp2_with (first
      | (go_at_call 39; (with_reducible refine (HR.out _).mono ?_); rintro e w2 ⟨rfl, hb2⟩; have hA2 := Chain.up hA hb2; have h2 := h1.up hb2; obtain ⟨d0, d1, d2, d3, d4, d5, d6, -⟩ := h2.cells19)
      | (go_at_call 62; (with_reducible refine (HO.out _).mono ?_); rintro e w3 ⟨rfl, hb3⟩; have hA3 := Chain.up hA2 hb3))
    all_goals (go_ret; exact ⟨ret_bool Hf.out.symm, hA3⟩)
set_option maxRecDepth 100000 in
set_option maxHeartbeats 4000000 in
theorem refMay_10 (op : Nat) (a : P.An) (r : Option Addr) (rc : Nat) (v : Option Addr) (vc : Nat) (p : Option Addr) (pc : Nat) (ht : P.tyAn a) (ho : a.owner.length ≤ 1000000000) (hop : op = 10) (w : World) : Calls Tryd.prog 19 #[.int .u8 (op : Nat), raV a r rc v vc p pc, .int .i64 0] w fun e w' => e = .returned (.bool (P.mayA op a)) ∧ Below w.heap.size w w' := by
  have h1 := Bx.fresh w 62 #[.int .u8 (a.a.fam : Nat), V64 a.a.hi, V64 a.a.lo, .int .u8 0, .int .u64 0, .int .u64 0, S a.owner, V64 a.til, .int .u8 (a.pool.a.fam : Nat), V64 a.pool.a.hi, V64 a.pool.a.lo, .int .i64 a.pool.bits, .bool a.has, .bool a.held, .bool a.live, V64 a.clock, .slice r a.rows.length rc, .slice v a.events.length vc, .slice p a.pools.length pc]
  have hA := (Below.refl w.heap.size w).alloc (Nat.le_refl _) (.cells #[.int .u8 (a.a.fam : Nat), V64 a.a.hi, V64 a.a.lo, .int .u8 0, .int .u64 0, .int .u64 0, S a.owner, V64 a.til, .int .u8 (a.pool.a.fam : Nat), V64 a.pool.a.hi, V64 a.pool.a.lo, .int .i64 a.pool.bits, .bool a.has, .bool a.held, .bool a.live, V64 a.clock, .slice r a.rows.length rc, .slice v a.events.length vc, .slice p a.pools.length pc] 62)
  have HR := Lib.hid (fun wx => ref20Right_any a.pool ht.2.2.1 wx)
  have HO := Lib.hid (fun wx => owner26_any a.owner ho wx)
  have Hres := Lib.hid (show P.mayA op a = ((!a.has || P.pxOk a.pool) && (!a.live || P.nameOk a.owner)) by rw [hop]; rfl)
  generalize P.mayA op a = res at *
  generalize P.nameOk a.owner = bo at *
  generalize P.pxOk a.pool = bp at *
  have t5 : ((op : Int) == 5) = false := beq_eq_false_iff_ne.2 (by omega)
  have t6 : ((op : Int) == 6) = false := beq_eq_false_iff_ne.2 (by omega)
  have t7 : ((op : Int) == 7) = false := beq_eq_false_iff_ne.2 (by omega)
  have t10 : ((op : Int) == 10) = true := beq_iff_eq.2 (by omega)
  clear hop ho ht
  show Calls Tryd.prog 19 #[.int .u8 (op : Nat), .agg #[.int .u8 (a.a.fam : Nat), V64 a.a.hi, V64 a.a.lo, .int .u8 0, .int .u64 0, .int .u64 0, S a.owner, V64 a.til, .int .u8 (a.pool.a.fam : Nat), V64 a.pool.a.hi, V64 a.pool.a.lo, .int .i64 a.pool.bits, .bool a.has, .bool a.held, .bool a.live, V64 a.clock, .slice r a.rows.length rc, .slice v a.events.length vc, .slice p a.pools.length pc], .int .i64 0] w fun e w' => e = .returned (.bool res) ∧ Below w.heap.size w w'
  generalize a.has = bh at *
  generalize a.live = bl at *
  obtain ⟨c0, c1, c2, c3, c4, c5, c6, c7, c8, c9, c10, c11, c12, c13, c14, c15, c16, c17, c18⟩ := h1.cells19
  cases bh <;> cases bl <;> cases bp
  all_goals
    go_enter Tryd.func19, Tryd.ntmps19
    go_wp2_with (first
      | (go_at_call 38; (with_reducible refine (HR.out _).mono ?_); rintro e w2 ⟨rfl, hb2⟩; have hA2 := Chain.up hA hb2; have h2 := h1.up hb2; obtain ⟨d0, d1, d2, d3, d4, d5, d6, d7, d8, d9, d10, d11, d12, d13, d14, d15, d16, d17, d18⟩ := h2.cells19)
      | (go_at_call 62; (with_reducible refine (HO.out _).mono ?_); rintro e w3 ⟨rfl, hb3⟩; have hA3 := Chain.up (by first | exact hA2 | exact hA) hb3))
    all_goals (go_ret; refine ⟨ret_bool (by rw [Hres.out]; simp), by first | exact hA3 | exact hA2 | exact hA⟩)
end Go.Proofs.YtcobfoiajdbahaaDoor
