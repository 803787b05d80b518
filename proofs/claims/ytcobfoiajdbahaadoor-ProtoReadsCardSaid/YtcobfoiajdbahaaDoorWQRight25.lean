/- The walk of the document's Right: may a call be? -/
import Derived.Test.YtcobfoiajdbahaaDoorWQRowM
import Derived.Test.YtcobfoiajdbahaaDoorWQRbase
import Derived.Test.YtcobfoiajdbahaaDoorWQRefM
namespace Go.Proofs.YtcobfoiajdbahaaDoor
open Go.RowKit
set_option linter.unusedVariables false
set_option linter.unusedSimpArgs false
attribute [local go_sem high] eq_RefCall guardRefCall
set_option maxRecDepth 100000 in
set_option maxHeartbeats 8000000 in
theorem refRight1 (x : P.Ca) (ht : P.tyC x) (ho : x.owner.length ≤ 1000000000) (hto : x.to.length ≤ 1000000000) (hop : x.op = 1) (w : World) : Calls Tryd.prog 14 #[.agg #[.int .u8 1, .int .u8 (x.client : Nat), V64 x.number, .int .u8 (x.p.a.fam : Nat), V64 x.p.a.hi, V64 x.p.a.lo, .int .i64 x.p.bits, .int .u8 (x.a.fam : Nat), V64 x.a.hi, V64 x.a.lo, S x.owner, S x.to, V64 x.d, V64 x.fr, .int .i64 x.n]] w fun e w' => e = .returned (.bool (P.rightC x)) ∧ Below w.heap.size w w' := by
  have h1 := Bx.fresh w 46 #[.int .u8 1, .int .u8 (x.client : Nat), V64 x.number, .int .u8 (x.p.a.fam : Nat), V64 x.p.a.hi, V64 x.p.a.lo, .int .i64 x.p.bits, .int .u8 (x.a.fam : Nat), V64 x.a.hi, V64 x.a.lo, S x.owner, S x.to, V64 x.d, V64 x.fr, .int .i64 x.n]
  have hA := (Below.refl w.heap.size w).alloc (Nat.le_refl _) (.cells #[.int .u8 1, .int .u8 (x.client : Nat), V64 x.number, .int .u8 (x.p.a.fam : Nat), V64 x.p.a.hi, V64 x.p.a.lo, .int .i64 x.p.bits, .int .u8 (x.a.fam : Nat), V64 x.a.hi, V64 x.a.lo, S x.owner, S x.to, V64 x.d, V64 x.fr, .int .i64 x.n] 46)
  have HB := Lib.hid (fun wx => refBare1 x wx)
  have HP := Lib.hid (fun wx => ref20Right_any x.p ht.2.2.2.1 wx)
  have HA := Lib.hid (fun wx => ref19Right_any x.a wx)
  have HO := Lib.hid (fun wx => name25_any x.owner ho wx)
  have HT := Lib.hid (fun wx => name25_any x.to hto wx)
  have HR := Lib.hid (right_op1 x hop)
  clear hop hto ho ht
  go_enter Tryd.func14, Tryd.ntmps14
  obtain ⟨⟨c0, c1, c2, c3, c4, c5, c6, c7, c8, c9, c10, c11, c12, c13, c14⟩, -⟩ := h1.cells15
  cases hq : P.eqI [0, 0, 0, 0, 0, 0, 0, (x.a.fam : Int), (x.a.hi : Int), (x.a.lo : Int), (x.d : Int), (x.fr : Int), x.n] [0, 0, 0, 0, 0, 0, 0, 0, 0, 0, 0, 0, 0] [x.owner, x.to] [[], []] with
  | false =>
    have Hf := Lib.hid (show P.rightC x = false by rw [HR.out, hq, Bool.and_false])
    clear HR
    go_wp2_with (go_at_call 37; (with_reducible refine (HB.out _).mono ?_); rintro e w2 ⟨rfl, hb2⟩; have h2 := h1.up hb2; have hA2 := Chain.up hA hb2; obtain ⟨⟨d0, d1, d2, d3, d4, d5, d6, d7, d8, d9, d10, d11, d12, d13, d14⟩, -⟩ := h2.cells15; clear hb2 hA h1 c0 c1 c2 c3 c4 c5 c6 c7 c8 c9 c10 c11 c12 c13 c14)
    all_goals (go_ret; exact ⟨ret_bool Hf.out.symm, hA2⟩)
  | true =>
    have Hf := Lib.hid (show P.rightC x = _ by rw [HR.out, hq, Bool.and_true])
    clear HR
    generalize P.pxOk x.p = bp at *
    generalize P.adOk x.a = ba at *
    generalize P.nameOk x.owner = bo at *
    generalize P.nameOk x.to = bt at *
    go_wp2_with (first
      | (go_at_call 37; (with_reducible refine (HB.out _).mono ?_); rintro e w2 ⟨rfl, hb2⟩; have h2 := h1.up hb2; have hA2 := Chain.up hA hb2; obtain ⟨⟨d0, d1, d2, d3, d4, d5, d6, d7, d8, d9, d10, d11, d12, d13, d14⟩, -⟩ := h2.cells15; clear hb2 hA h1 c0 c1 c2 c3 c4 c5 c6 c7 c8 c9 c10 c11 c12 c13 c14)
      | (go_at_call 38; (with_reducible refine (HP.out _).mono ?_); rintro e w3 ⟨rfl, hb3⟩; have h3 := h2.up hb3; have hA3 := Chain.up hA2 hb3; obtain ⟨⟨dq0, dq1, dq2, dq3, dq4, dq5, dq6, dq7, dq8, dq9, dq10, dq11, dq12, dq13, dq14⟩, -⟩ := h3.cells15; clear hb3 hA2 h2; clear d0 d1 d2 d3 d4 d5 d6 d7 d8 d9 d10 d11 d12 d13 d14)
      | (go_at_call 39; (with_reducible refine (HA.out _).mono ?_); rintro e w4 ⟨rfl, hb4⟩; have h4 := h3.up hb4; have hA4 := Chain.up hA3 hb4; obtain ⟨⟨eq0, eq1, eq2, eq3, eq4, eq5, eq6, eq7, eq8, eq9, eq10, eq11, eq12, eq13, eq14⟩, -⟩ := h4.cells15; clear hb4 hA3 h3; clear dq0 dq1 dq2 dq3 dq4 dq5 dq6 dq7 dq8 dq9 dq10 dq11 dq12 dq13 dq14))
    all_goals (go_ret; refine ⟨ret_bool ?_, by first | exact hA4 | exact hA5 | exact hA6⟩)
    all_goals (first | (rw [Hf.out]; done) | (rw [Hf.out]; first | rfl | (simp [*]; done) | (simp [*]; intros; omega) | (simp [*]; rw [Bool.eq_iff_iff, beq_iff_eq, decide_eq_true_eq]; omega)))
set_option maxRecDepth 100000 in
set_option maxHeartbeats 8000000 in
theorem refRight2 (x : P.Ca) (ht : P.tyC x) (ho : x.owner.length ≤ 1000000000) (hto : x.to.length ≤ 1000000000) (hop : x.op = 2) (w : World) : Calls Tryd.prog 14 #[.agg #[.int .u8 2, .int .u8 (x.client : Nat), V64 x.number, .int .u8 (x.p.a.fam : Nat), V64 x.p.a.hi, V64 x.p.a.lo, .int .i64 x.p.bits, .int .u8 (x.a.fam : Nat), V64 x.a.hi, V64 x.a.lo, S x.owner, S x.to, V64 x.d, V64 x.fr, .int .i64 x.n]] w fun e w' => e = .returned (.bool (P.rightC x)) ∧ Below w.heap.size w w' := by
  have h1 := Bx.fresh w 46 #[.int .u8 2, .int .u8 (x.client : Nat), V64 x.number, .int .u8 (x.p.a.fam : Nat), V64 x.p.a.hi, V64 x.p.a.lo, .int .i64 x.p.bits, .int .u8 (x.a.fam : Nat), V64 x.a.hi, V64 x.a.lo, S x.owner, S x.to, V64 x.d, V64 x.fr, .int .i64 x.n]
  have hA := (Below.refl w.heap.size w).alloc (Nat.le_refl _) (.cells #[.int .u8 2, .int .u8 (x.client : Nat), V64 x.number, .int .u8 (x.p.a.fam : Nat), V64 x.p.a.hi, V64 x.p.a.lo, .int .i64 x.p.bits, .int .u8 (x.a.fam : Nat), V64 x.a.hi, V64 x.a.lo, S x.owner, S x.to, V64 x.d, V64 x.fr, .int .i64 x.n] 46)
  have HB := Lib.hid (fun wx => refBare2 x wx)
  have HP := Lib.hid (fun wx => ref20Right_any x.p ht.2.2.2.1 wx)
  have HA := Lib.hid (fun wx => ref19Right_any x.a wx)
  have HO := Lib.hid (fun wx => name25_any x.owner ho wx)
  have HT := Lib.hid (fun wx => name25_any x.to hto wx)
  have HR := Lib.hid (right_op2 x hop)
  clear hop hto ho ht
  go_enter Tryd.func14, Tryd.ntmps14
  obtain ⟨⟨c0, c1, c2, c3, c4, c5, c6, c7, c8, c9, c10, c11, c12, c13, c14⟩, -⟩ := h1.cells15
  cases hq : P.eqI [0, 0, 0, 0, 0, 0, 0, (x.a.fam : Int), (x.a.hi : Int), (x.a.lo : Int), (x.d : Int), (x.fr : Int), x.n] [0, 0, 0, 0, 0, 0, 0, 0, 0, 0, 0, 0, 0] [x.owner, x.to] [[], []] with
  | false =>
    have Hf := Lib.hid (show P.rightC x = false by rw [HR.out, hq, Bool.and_false])
    clear HR
    go_wp2_with (go_at_call 37; (with_reducible refine (HB.out _).mono ?_); rintro e w2 ⟨rfl, hb2⟩; have h2 := h1.up hb2; have hA2 := Chain.up hA hb2; obtain ⟨⟨d0, d1, d2, d3, d4, d5, d6, d7, d8, d9, d10, d11, d12, d13, d14⟩, -⟩ := h2.cells15; clear hb2 hA h1 c0 c1 c2 c3 c4 c5 c6 c7 c8 c9 c10 c11 c12 c13 c14)
    all_goals (go_ret; exact ⟨ret_bool Hf.out.symm, hA2⟩)
  | true =>
    have Hf := Lib.hid (show P.rightC x = _ by rw [HR.out, hq, Bool.and_true])
    clear HR
    generalize P.pxOk x.p = bp at *
    generalize P.adOk x.a = ba at *
    generalize P.nameOk x.owner = bo at *
    generalize P.nameOk x.to = bt at *
    go_wp2_with (first
      | (go_at_call 37; (with_reducible refine (HB.out _).mono ?_); rintro e w2 ⟨rfl, hb2⟩; have h2 := h1.up hb2; have hA2 := Chain.up hA hb2; obtain ⟨⟨d0, d1, d2, d3, d4, d5, d6, d7, d8, d9, d10, d11, d12, d13, d14⟩, -⟩ := h2.cells15; clear hb2 hA h1 c0 c1 c2 c3 c4 c5 c6 c7 c8 c9 c10 c11 c12 c13 c14)
      | (go_at_call 38; (with_reducible refine (HP.out _).mono ?_); rintro e w3 ⟨rfl, hb3⟩; have h3 := h2.up hb3; have hA3 := Chain.up hA2 hb3; obtain ⟨⟨dq0, dq1, dq2, dq3, dq4, dq5, dq6, dq7, dq8, dq9, dq10, dq11, dq12, dq13, dq14⟩, -⟩ := h3.cells15; clear hb3 hA2 h2; clear d0 d1 d2 d3 d4 d5 d6 d7 d8 d9 d10 d11 d12 d13 d14)
      | (go_at_call 39; (with_reducible refine (HA.out _).mono ?_); rintro e w4 ⟨rfl, hb4⟩; have h4 := h3.up hb4; have hA4 := Chain.up hA3 hb4; obtain ⟨⟨eq0, eq1, eq2, eq3, eq4, eq5, eq6, eq7, eq8, eq9, eq10, eq11, eq12, eq13, eq14⟩, -⟩ := h4.cells15; clear hb4 hA3 h3; clear dq0 dq1 dq2 dq3 dq4 dq5 dq6 dq7 dq8 dq9 dq10 dq11 dq12 dq13 dq14))
    all_goals (go_ret; refine ⟨ret_bool ?_, by first | exact hA4 | exact hA5 | exact hA6⟩)
    all_goals (first | (rw [Hf.out]; done) | (rw [Hf.out]; first | rfl | (simp [*]; done) | (simp [*]; intros; omega) | (simp [*]; rw [Bool.eq_iff_iff, beq_iff_eq, decide_eq_true_eq]; omega)))
set_option maxRecDepth 100000 in
set_option maxHeartbeats 8000000 in
theorem refRight3 (x : P.Ca) (ht : P.tyC x) (ho : x.owner.length ≤ 1000000000) (hto : x.to.length ≤ 1000000000) (hop : x.op = 3) (w : World) : Calls Tryd.prog 14 #[.agg #[.int .u8 3, .int .u8 (x.client : Nat), V64 x.number, .int .u8 (x.p.a.fam : Nat), V64 x.p.a.hi, V64 x.p.a.lo, .int .i64 x.p.bits, .int .u8 (x.a.fam : Nat), V64 x.a.hi, V64 x.a.lo, S x.owner, S x.to, V64 x.d, V64 x.fr, .int .i64 x.n]] w fun e w' => e = .returned (.bool (P.rightC x)) ∧ Below w.heap.size w w' := by
  have h1 := Bx.fresh w 46 #[.int .u8 3, .int .u8 (x.client : Nat), V64 x.number, .int .u8 (x.p.a.fam : Nat), V64 x.p.a.hi, V64 x.p.a.lo, .int .i64 x.p.bits, .int .u8 (x.a.fam : Nat), V64 x.a.hi, V64 x.a.lo, S x.owner, S x.to, V64 x.d, V64 x.fr, .int .i64 x.n]
  have hA := (Below.refl w.heap.size w).alloc (Nat.le_refl _) (.cells #[.int .u8 3, .int .u8 (x.client : Nat), V64 x.number, .int .u8 (x.p.a.fam : Nat), V64 x.p.a.hi, V64 x.p.a.lo, .int .i64 x.p.bits, .int .u8 (x.a.fam : Nat), V64 x.a.hi, V64 x.a.lo, S x.owner, S x.to, V64 x.d, V64 x.fr, .int .i64 x.n] 46)
  have HB := Lib.hid (fun wx => refBare3 x wx)
  have HP := Lib.hid (fun wx => ref20Right_any x.p ht.2.2.2.1 wx)
  have HA := Lib.hid (fun wx => ref19Right_any x.a wx)
  have HO := Lib.hid (fun wx => name25_any x.owner ho wx)
  have HT := Lib.hid (fun wx => name25_any x.to hto wx)
  have HR := Lib.hid (right_op3 x hop)
  clear hop hto ho ht
  go_enter Tryd.func14, Tryd.ntmps14
  obtain ⟨⟨c0, c1, c2, c3, c4, c5, c6, c7, c8, c9, c10, c11, c12, c13, c14⟩, -⟩ := h1.cells15
  cases hq : P.eqI [0, 0, 0, 0, 0, 0, 0, (x.a.fam : Int), (x.a.hi : Int), (x.a.lo : Int), (x.d : Int), (x.fr : Int), x.n] [0, 0, 0, 0, 0, 0, 0, 0, 0, 0, 0, 0, 0] [x.owner, x.to] [[], []] with
  | false =>
    have Hf := Lib.hid (show P.rightC x = false by rw [HR.out, hq, Bool.and_false])
    clear HR
    go_wp2_with (go_at_call 37; (with_reducible refine (HB.out _).mono ?_); rintro e w2 ⟨rfl, hb2⟩; have h2 := h1.up hb2; have hA2 := Chain.up hA hb2; obtain ⟨⟨d0, d1, d2, d3, d4, d5, d6, d7, d8, d9, d10, d11, d12, d13, d14⟩, -⟩ := h2.cells15; clear hb2 hA h1 c0 c1 c2 c3 c4 c5 c6 c7 c8 c9 c10 c11 c12 c13 c14)
    all_goals (go_ret; exact ⟨ret_bool Hf.out.symm, hA2⟩)
  | true =>
    have Hf := Lib.hid (show P.rightC x = _ by rw [HR.out, hq, Bool.and_true])
    clear HR
    generalize P.pxOk x.p = bp at *
    generalize P.adOk x.a = ba at *
    generalize P.nameOk x.owner = bo at *
    generalize P.nameOk x.to = bt at *
    go_wp2_with (first
      | (go_at_call 37; (with_reducible refine (HB.out _).mono ?_); rintro e w2 ⟨rfl, hb2⟩; have h2 := h1.up hb2; have hA2 := Chain.up hA hb2; obtain ⟨⟨d0, d1, d2, d3, d4, d5, d6, d7, d8, d9, d10, d11, d12, d13, d14⟩, -⟩ := h2.cells15; clear hb2 hA h1 c0 c1 c2 c3 c4 c5 c6 c7 c8 c9 c10 c11 c12 c13 c14)
      | (go_at_call 38; (with_reducible refine (HP.out _).mono ?_); rintro e w3 ⟨rfl, hb3⟩; have h3 := h2.up hb3; have hA3 := Chain.up hA2 hb3; obtain ⟨⟨dq0, dq1, dq2, dq3, dq4, dq5, dq6, dq7, dq8, dq9, dq10, dq11, dq12, dq13, dq14⟩, -⟩ := h3.cells15; clear hb3 hA2 h2; clear d0 d1 d2 d3 d4 d5 d6 d7 d8 d9 d10 d11 d12 d13 d14)
      | (go_at_call 39; (with_reducible refine (HA.out _).mono ?_); rintro e w4 ⟨rfl, hb4⟩; have h4 := h3.up hb4; have hA4 := Chain.up hA3 hb4; obtain ⟨⟨eq0, eq1, eq2, eq3, eq4, eq5, eq6, eq7, eq8, eq9, eq10, eq11, eq12, eq13, eq14⟩, -⟩ := h4.cells15; clear hb4 hA3 h3; clear dq0 dq1 dq2 dq3 dq4 dq5 dq6 dq7 dq8 dq9 dq10 dq11 dq12 dq13 dq14))
    all_goals (go_ret; refine ⟨ret_bool ?_, by first | exact hA4 | exact hA5 | exact hA6⟩)
    all_goals (first | (rw [Hf.out]; done) | (rw [Hf.out]; first | rfl | (simp [*]; done) | (simp [*]; intros; omega) | (simp [*]; rw [Bool.eq_iff_iff, beq_iff_eq, decide_eq_true_eq]; omega)))
set_option maxRecDepth 100000 in
set_option maxHeartbeats 8000000 in
theorem refRight4 (x : P.Ca) (ht : P.tyC x) (ho : x.owner.length ≤ 1000000000) (hto : x.to.length ≤ 1000000000) (hop : x.op = 4) (w : World) : Calls Tryd.prog 14 #[.agg #[.int .u8 4, .int .u8 (x.client : Nat), V64 x.number, .int .u8 (x.p.a.fam : Nat), V64 x.p.a.hi, V64 x.p.a.lo, .int .i64 x.p.bits, .int .u8 (x.a.fam : Nat), V64 x.a.hi, V64 x.a.lo, S x.owner, S x.to, V64 x.d, V64 x.fr, .int .i64 x.n]] w fun e w' => e = .returned (.bool (P.rightC x)) ∧ Below w.heap.size w w' := by
  have h1 := Bx.fresh w 46 #[.int .u8 4, .int .u8 (x.client : Nat), V64 x.number, .int .u8 (x.p.a.fam : Nat), V64 x.p.a.hi, V64 x.p.a.lo, .int .i64 x.p.bits, .int .u8 (x.a.fam : Nat), V64 x.a.hi, V64 x.a.lo, S x.owner, S x.to, V64 x.d, V64 x.fr, .int .i64 x.n]
  have hA := (Below.refl w.heap.size w).alloc (Nat.le_refl _) (.cells #[.int .u8 4, .int .u8 (x.client : Nat), V64 x.number, .int .u8 (x.p.a.fam : Nat), V64 x.p.a.hi, V64 x.p.a.lo, .int .i64 x.p.bits, .int .u8 (x.a.fam : Nat), V64 x.a.hi, V64 x.a.lo, S x.owner, S x.to, V64 x.d, V64 x.fr, .int .i64 x.n] 46)
  have HB := Lib.hid (fun wx => refBare4 x wx)
  have HP := Lib.hid (fun wx => ref20Right_any x.p ht.2.2.2.1 wx)
  have HA := Lib.hid (fun wx => ref19Right_any x.a wx)
  have HO := Lib.hid (fun wx => name25_any x.owner ho wx)
  have HT := Lib.hid (fun wx => name25_any x.to hto wx)
  have HR := Lib.hid (right_op4 x hop)
  clear hop hto ho ht
  go_enter Tryd.func14, Tryd.ntmps14
  obtain ⟨⟨c0, c1, c2, c3, c4, c5, c6, c7, c8, c9, c10, c11, c12, c13, c14⟩, -⟩ := h1.cells15
  cases hq : P.eqI [0, 0, 0, 0, 0, 0, 0, (x.a.fam : Int), (x.a.hi : Int), (x.a.lo : Int), (x.d : Int), (x.fr : Int), x.n] [0, 0, 0, 0, 0, 0, 0, 0, 0, 0, 0, 0, 0] [x.owner, x.to] [[], []] with
  | false =>
    have Hf := Lib.hid (show P.rightC x = false by rw [HR.out, hq, Bool.and_false])
    clear HR
    go_wp2_with (go_at_call 37; (with_reducible refine (HB.out _).mono ?_); rintro e w2 ⟨rfl, hb2⟩; have h2 := h1.up hb2; have hA2 := Chain.up hA hb2; obtain ⟨⟨d0, d1, d2, d3, d4, d5, d6, d7, d8, d9, d10, d11, d12, d13, d14⟩, -⟩ := h2.cells15; clear hb2 hA h1 c0 c1 c2 c3 c4 c5 c6 c7 c8 c9 c10 c11 c12 c13 c14)
    all_goals (go_ret; exact ⟨ret_bool Hf.out.symm, hA2⟩)
  | true =>
    have Hf := Lib.hid (show P.rightC x = _ by rw [HR.out, hq, Bool.and_true])
    clear HR
    generalize P.pxOk x.p = bp at *
    generalize P.adOk x.a = ba at *
    generalize P.nameOk x.owner = bo at *
    generalize P.nameOk x.to = bt at *
    go_wp2_with (first
      | (go_at_call 37; (with_reducible refine (HB.out _).mono ?_); rintro e w2 ⟨rfl, hb2⟩; have h2 := h1.up hb2; have hA2 := Chain.up hA hb2; obtain ⟨⟨d0, d1, d2, d3, d4, d5, d6, d7, d8, d9, d10, d11, d12, d13, d14⟩, -⟩ := h2.cells15; clear hb2 hA h1 c0 c1 c2 c3 c4 c5 c6 c7 c8 c9 c10 c11 c12 c13 c14)
      | (go_at_call 38; (with_reducible refine (HP.out _).mono ?_); rintro e w3 ⟨rfl, hb3⟩; have h3 := h2.up hb3; have hA3 := Chain.up hA2 hb3; obtain ⟨⟨dq0, dq1, dq2, dq3, dq4, dq5, dq6, dq7, dq8, dq9, dq10, dq11, dq12, dq13, dq14⟩, -⟩ := h3.cells15; clear hb3 hA2 h2; clear d0 d1 d2 d3 d4 d5 d6 d7 d8 d9 d10 d11 d12 d13 d14)
      | (go_at_call 39; (with_reducible refine (HA.out _).mono ?_); rintro e w4 ⟨rfl, hb4⟩; have h4 := h3.up hb4; have hA4 := Chain.up hA3 hb4; obtain ⟨⟨eq0, eq1, eq2, eq3, eq4, eq5, eq6, eq7, eq8, eq9, eq10, eq11, eq12, eq13, eq14⟩, -⟩ := h4.cells15; clear hb4 hA3 h3; clear dq0 dq1 dq2 dq3 dq4 dq5 dq6 dq7 dq8 dq9 dq10 dq11 dq12 dq13 dq14))
    all_goals (go_ret; refine ⟨ret_bool ?_, by first | exact hA4 | exact hA5 | exact hA6⟩)
    all_goals (first | (rw [Hf.out]; done) | (rw [Hf.out]; first | rfl | (simp [*]; done) | (simp [*]; intros; omega) | (simp [*]; rw [Bool.eq_iff_iff, beq_iff_eq, decide_eq_true_eq]; omega)))
set_option maxRecDepth 100000 in
set_option maxHeartbeats 8000000 in
theorem refRight5 (x : P.Ca) (ht : P.tyC x) (ho : x.owner.length ≤ 1000000000) (hto : x.to.length ≤ 1000000000) (hop : x.op = 5) (w : World) : Calls Tryd.prog 14 #[.agg #[.int .u8 5, .int .u8 (x.client : Nat), V64 x.number, .int .u8 (x.p.a.fam : Nat), V64 x.p.a.hi, V64 x.p.a.lo, .int .i64 x.p.bits, .int .u8 (x.a.fam : Nat), V64 x.a.hi, V64 x.a.lo, S x.owner, S x.to, V64 x.d, V64 x.fr, .int .i64 x.n]] w fun e w' => e = .returned (.bool (P.rightC x)) ∧ Below w.heap.size w w' := by
  have h1 := Bx.fresh w 46 #[.int .u8 5, .int .u8 (x.client : Nat), V64 x.number, .int .u8 (x.p.a.fam : Nat), V64 x.p.a.hi, V64 x.p.a.lo, .int .i64 x.p.bits, .int .u8 (x.a.fam : Nat), V64 x.a.hi, V64 x.a.lo, S x.owner, S x.to, V64 x.d, V64 x.fr, .int .i64 x.n]
  have hA := (Below.refl w.heap.size w).alloc (Nat.le_refl _) (.cells #[.int .u8 5, .int .u8 (x.client : Nat), V64 x.number, .int .u8 (x.p.a.fam : Nat), V64 x.p.a.hi, V64 x.p.a.lo, .int .i64 x.p.bits, .int .u8 (x.a.fam : Nat), V64 x.a.hi, V64 x.a.lo, S x.owner, S x.to, V64 x.d, V64 x.fr, .int .i64 x.n] 46)
  have HB := Lib.hid (fun wx => refBare5 x wx)
  have HP := Lib.hid (fun wx => ref20Right_any x.p ht.2.2.2.1 wx)
  have HA := Lib.hid (fun wx => ref19Right_any x.a wx)
  have HO := Lib.hid (fun wx => name25_any x.owner ho wx)
  have HT := Lib.hid (fun wx => name25_any x.to hto wx)
  have HR := Lib.hid (right_op5 x hop)
  clear hop hto ho ht
  go_enter Tryd.func14, Tryd.ntmps14
  obtain ⟨⟨c0, c1, c2, c3, c4, c5, c6, c7, c8, c9, c10, c11, c12, c13, c14⟩, -⟩ := h1.cells15
  cases hq : P.eqI [0, 0, 0, (x.p.a.fam : Int), (x.p.a.hi : Int), (x.p.a.lo : Int), x.p.bits, 0, 0, 0, 0, (x.fr : Int), x.n] [0, 0, 0, 0, 0, 0, 0, 0, 0, 0, 0, 0, 0] [[], x.to] [[], []] with
  | false =>
    have Hf := Lib.hid (show P.rightC x = false by rw [HR.out, hq, Bool.and_false])
    clear HR
    go_wp2_with (go_at_call 37; (with_reducible refine (HB.out _).mono ?_); rintro e w2 ⟨rfl, hb2⟩; have h2 := h1.up hb2; have hA2 := Chain.up hA hb2; obtain ⟨⟨d0, d1, d2, d3, d4, d5, d6, d7, d8, d9, d10, d11, d12, d13, d14⟩, -⟩ := h2.cells15; clear hb2 hA h1 c0 c1 c2 c3 c4 c5 c6 c7 c8 c9 c10 c11 c12 c13 c14)
    all_goals (go_ret; exact ⟨ret_bool Hf.out.symm, hA2⟩)
  | true =>
    have Hf := Lib.hid (show P.rightC x = _ by rw [HR.out, hq, Bool.and_true])
    clear HR
    generalize P.pxOk x.p = bp at *
    generalize P.adOk x.a = ba at *
    generalize P.nameOk x.owner = bo at *
    generalize P.nameOk x.to = bt at *
    go_wp2_with (first
      | (go_at_call 37; (with_reducible refine (HB.out _).mono ?_); rintro e w2 ⟨rfl, hb2⟩; have h2 := h1.up hb2; have hA2 := Chain.up hA hb2; obtain ⟨⟨d0, d1, d2, d3, d4, d5, d6, d7, d8, d9, d10, d11, d12, d13, d14⟩, -⟩ := h2.cells15; clear hb2 hA h1 c0 c1 c2 c3 c4 c5 c6 c7 c8 c9 c10 c11 c12 c13 c14)
      | (go_at_call 38; (with_reducible refine (HP.out _).mono ?_); rintro e w3 ⟨rfl, hb3⟩; have h3 := h2.up hb3; have hA3 := Chain.up hA2 hb3; obtain ⟨⟨dq0, dq1, dq2, dq3, dq4, dq5, dq6, dq7, dq8, dq9, dq10, dq11, dq12, dq13, dq14⟩, -⟩ := h3.cells15; clear hb3 hA2 h2; clear d0 d1 d2 d3 d4 d5 d6 d7 d8 d9 d10 d11 d12 d13 d14)
      | (go_at_call 39; (with_reducible refine (HA.out _).mono ?_); rintro e w4 ⟨rfl, hb4⟩; have h4 := h3.up hb4; have hA4 := Chain.up hA3 hb4; obtain ⟨⟨eq0, eq1, eq2, eq3, eq4, eq5, eq6, eq7, eq8, eq9, eq10, eq11, eq12, eq13, eq14⟩, -⟩ := h4.cells15; clear hb4 hA3 h3; clear dq0 dq1 dq2 dq3 dq4 dq5 dq6 dq7 dq8 dq9 dq10 dq11 dq12 dq13 dq14)
      | (go_at_call 40; (with_reducible refine (HO.out _).mono ?_); rintro e w5 ⟨rfl, hb5⟩; have h5 := h4.up hb5; have hA5 := Chain.up hA4 hb5; obtain ⟨⟨fq0, fq1, fq2, fq3, fq4, fq5, fq6, fq7, fq8, fq9, fq10, fq11, fq12, fq13, fq14⟩, -⟩ := h5.cells15; clear hb5 hA4 h4; clear eq0 eq1 eq2 eq3 eq4 eq5 eq6 eq7 eq8 eq9 eq10 eq11 eq12 eq13 eq14))
    all_goals (go_ret; refine ⟨ret_bool ?_, by first | exact hA4 | exact hA5 | exact hA6⟩)
    all_goals (first | (rw [Hf.out]; done) | (rw [Hf.out]; first | rfl | (simp [*]; done) | (simp [*]; intros; omega) | (simp [*]; rw [Bool.eq_iff_iff, beq_iff_eq, decide_eq_true_eq]; omega)))
set_option maxRecDepth 100000 in
set_option maxHeartbeats 8000000 in
theorem refRight6 (x : P.Ca) (ht : P.tyC x) (ho : x.owner.length ≤ 1000000000) (hto : x.to.length ≤ 1000000000) (hop : x.op = 6) (w : World) : Calls Tryd.prog 14 #[.agg #[.int .u8 6, .int .u8 (x.client : Nat), V64 x.number, .int .u8 (x.p.a.fam : Nat), V64 x.p.a.hi, V64 x.p.a.lo, .int .i64 x.p.bits, .int .u8 (x.a.fam : Nat), V64 x.a.hi, V64 x.a.lo, S x.owner, S x.to, V64 x.d, V64 x.fr, .int .i64 x.n]] w fun e w' => e = .returned (.bool (P.rightC x)) ∧ Below w.heap.size w w' := by
  have h1 := Bx.fresh w 46 #[.int .u8 6, .int .u8 (x.client : Nat), V64 x.number, .int .u8 (x.p.a.fam : Nat), V64 x.p.a.hi, V64 x.p.a.lo, .int .i64 x.p.bits, .int .u8 (x.a.fam : Nat), V64 x.a.hi, V64 x.a.lo, S x.owner, S x.to, V64 x.d, V64 x.fr, .int .i64 x.n]
  have hA := (Below.refl w.heap.size w).alloc (Nat.le_refl _) (.cells #[.int .u8 6, .int .u8 (x.client : Nat), V64 x.number, .int .u8 (x.p.a.fam : Nat), V64 x.p.a.hi, V64 x.p.a.lo, .int .i64 x.p.bits, .int .u8 (x.a.fam : Nat), V64 x.a.hi, V64 x.a.lo, S x.owner, S x.to, V64 x.d, V64 x.fr, .int .i64 x.n] 46)
  have HB := Lib.hid (fun wx => refBare6 x wx)
  have HP := Lib.hid (fun wx => ref20Right_any x.p ht.2.2.2.1 wx)
  have HA := Lib.hid (fun wx => ref19Right_any x.a wx)
  have HO := Lib.hid (fun wx => name25_any x.owner ho wx)
  have HT := Lib.hid (fun wx => name25_any x.to hto wx)
  have HR := Lib.hid (right_op6 x hop)
  clear hop hto ho ht
  go_enter Tryd.func14, Tryd.ntmps14
  obtain ⟨⟨c0, c1, c2, c3, c4, c5, c6, c7, c8, c9, c10, c11, c12, c13, c14⟩, -⟩ := h1.cells15
  cases hq : P.eqI [0, 0, 0, 0, 0, 0, 0, (x.a.fam : Int), (x.a.hi : Int), (x.a.lo : Int), 0, (x.fr : Int), x.n] [0, 0, 0, 0, 0, 0, 0, 0, 0, 0, 0, 0, 0] [[], x.to] [[], []] with
  | false =>
    have Hf := Lib.hid (show P.rightC x = false by rw [HR.out, hq, Bool.and_false])
    clear HR
    go_wp2_with (go_at_call 37; (with_reducible refine (HB.out _).mono ?_); rintro e w2 ⟨rfl, hb2⟩; have h2 := h1.up hb2; have hA2 := Chain.up hA hb2; obtain ⟨⟨d0, d1, d2, d3, d4, d5, d6, d7, d8, d9, d10, d11, d12, d13, d14⟩, -⟩ := h2.cells15; clear hb2 hA h1 c0 c1 c2 c3 c4 c5 c6 c7 c8 c9 c10 c11 c12 c13 c14)
    all_goals (go_ret; exact ⟨ret_bool Hf.out.symm, hA2⟩)
  | true =>
    have Hf := Lib.hid (show P.rightC x = _ by rw [HR.out, hq, Bool.and_true])
    clear HR
    generalize P.pxOk x.p = bp at *
    generalize P.adOk x.a = ba at *
    generalize P.nameOk x.owner = bo at *
    generalize P.nameOk x.to = bt at *
    go_wp2_with (first
      | (go_at_call 37; (with_reducible refine (HB.out _).mono ?_); rintro e w2 ⟨rfl, hb2⟩; have h2 := h1.up hb2; have hA2 := Chain.up hA hb2; obtain ⟨⟨d0, d1, d2, d3, d4, d5, d6, d7, d8, d9, d10, d11, d12, d13, d14⟩, -⟩ := h2.cells15; clear hb2 hA h1 c0 c1 c2 c3 c4 c5 c6 c7 c8 c9 c10 c11 c12 c13 c14)
      | (go_at_call 38; (with_reducible refine (HP.out _).mono ?_); rintro e w3 ⟨rfl, hb3⟩; have h3 := h2.up hb3; have hA3 := Chain.up hA2 hb3; obtain ⟨⟨dq0, dq1, dq2, dq3, dq4, dq5, dq6, dq7, dq8, dq9, dq10, dq11, dq12, dq13, dq14⟩, -⟩ := h3.cells15; clear hb3 hA2 h2; clear d0 d1 d2 d3 d4 d5 d6 d7 d8 d9 d10 d11 d12 d13 d14)
      | (go_at_call 39; (with_reducible refine (HA.out _).mono ?_); rintro e w4 ⟨rfl, hb4⟩; have h4 := h3.up hb4; have hA4 := Chain.up hA3 hb4; obtain ⟨⟨eq0, eq1, eq2, eq3, eq4, eq5, eq6, eq7, eq8, eq9, eq10, eq11, eq12, eq13, eq14⟩, -⟩ := h4.cells15; clear hb4 hA3 h3; clear dq0 dq1 dq2 dq3 dq4 dq5 dq6 dq7 dq8 dq9 dq10 dq11 dq12 dq13 dq14)
      | (go_at_call 40; (with_reducible refine (HO.out _).mono ?_); rintro e w5 ⟨rfl, hb5⟩; have h5 := h4.up hb5; have hA5 := Chain.up hA4 hb5; obtain ⟨⟨fq0, fq1, fq2, fq3, fq4, fq5, fq6, fq7, fq8, fq9, fq10, fq11, fq12, fq13, fq14⟩, -⟩ := h5.cells15; clear hb5 hA4 h4; clear eq0 eq1 eq2 eq3 eq4 eq5 eq6 eq7 eq8 eq9 eq10 eq11 eq12 eq13 eq14))
    all_goals (go_ret; refine ⟨ret_bool ?_, by first | exact hA4 | exact hA5 | exact hA6⟩)
    all_goals (first | (rw [Hf.out]; done) | (rw [Hf.out]; first | rfl | (simp [*]; done) | (simp [*]; intros; omega) | (simp [*]; rw [Bool.eq_iff_iff, beq_iff_eq, decide_eq_true_eq]; omega)))
set_option maxRecDepth 100000 in
set_option maxHeartbeats 8000000 in
theorem refRight7 (x : P.Ca) (ht : P.tyC x) (ho : x.owner.length ≤ 1000000000) (hto : x.to.length ≤ 1000000000) (hop : x.op = 7) (w : World) : Calls Tryd.prog 14 #[.agg #[.int .u8 7, .int .u8 (x.client : Nat), V64 x.number, .int .u8 (x.p.a.fam : Nat), V64 x.p.a.hi, V64 x.p.a.lo, .int .i64 x.p.bits, .int .u8 (x.a.fam : Nat), V64 x.a.hi, V64 x.a.lo, S x.owner, S x.to, V64 x.d, V64 x.fr, .int .i64 x.n]] w fun e w' => e = .returned (.bool (P.rightC x)) ∧ Below w.heap.size w w' := by
  have h1 := Bx.fresh w 46 #[.int .u8 7, .int .u8 (x.client : Nat), V64 x.number, .int .u8 (x.p.a.fam : Nat), V64 x.p.a.hi, V64 x.p.a.lo, .int .i64 x.p.bits, .int .u8 (x.a.fam : Nat), V64 x.a.hi, V64 x.a.lo, S x.owner, S x.to, V64 x.d, V64 x.fr, .int .i64 x.n]
  have hA := (Below.refl w.heap.size w).alloc (Nat.le_refl _) (.cells #[.int .u8 7, .int .u8 (x.client : Nat), V64 x.number, .int .u8 (x.p.a.fam : Nat), V64 x.p.a.hi, V64 x.p.a.lo, .int .i64 x.p.bits, .int .u8 (x.a.fam : Nat), V64 x.a.hi, V64 x.a.lo, S x.owner, S x.to, V64 x.d, V64 x.fr, .int .i64 x.n] 46)
  have HB := Lib.hid (fun wx => refBare7 x wx)
  have HP := Lib.hid (fun wx => ref20Right_any x.p ht.2.2.2.1 wx)
  have HA := Lib.hid (fun wx => ref19Right_any x.a wx)
  have HO := Lib.hid (fun wx => name25_any x.owner ho wx)
  have HT := Lib.hid (fun wx => name25_any x.to hto wx)
  have HR := Lib.hid (right_op7 x hop)
  clear hop hto ho ht
  go_enter Tryd.func14, Tryd.ntmps14
  obtain ⟨⟨c0, c1, c2, c3, c4, c5, c6, c7, c8, c9, c10, c11, c12, c13, c14⟩, -⟩ := h1.cells15
  cases hq : P.eqI [0, 0, 0, (x.p.a.fam : Int), (x.p.a.hi : Int), (x.p.a.lo : Int), x.p.bits, 0, 0, 0, 0, (x.fr : Int), x.n] [0, 0, 0, 0, 0, 0, 0, 0, 0, 0, 0, 0, 0] [[], x.to] [[], []] with
  | false =>
    have Hf := Lib.hid (show P.rightC x = false by rw [HR.out, hq, Bool.and_false])
    clear HR
    go_wp2_with (go_at_call 37; (with_reducible refine (HB.out _).mono ?_); rintro e w2 ⟨rfl, hb2⟩; have h2 := h1.up hb2; have hA2 := Chain.up hA hb2; obtain ⟨⟨d0, d1, d2, d3, d4, d5, d6, d7, d8, d9, d10, d11, d12, d13, d14⟩, -⟩ := h2.cells15; clear hb2 hA h1 c0 c1 c2 c3 c4 c5 c6 c7 c8 c9 c10 c11 c12 c13 c14)
    all_goals (go_ret; exact ⟨ret_bool Hf.out.symm, hA2⟩)
  | true =>
    have Hf := Lib.hid (show P.rightC x = _ by rw [HR.out, hq, Bool.and_true])
    clear HR
    generalize P.pxOk x.p = bp at *
    generalize P.adOk x.a = ba at *
    generalize P.nameOk x.owner = bo at *
    generalize P.nameOk x.to = bt at *
    go_wp2_with (first
      | (go_at_call 37; (with_reducible refine (HB.out _).mono ?_); rintro e w2 ⟨rfl, hb2⟩; have h2 := h1.up hb2; have hA2 := Chain.up hA hb2; obtain ⟨⟨d0, d1, d2, d3, d4, d5, d6, d7, d8, d9, d10, d11, d12, d13, d14⟩, -⟩ := h2.cells15; clear hb2 hA h1 c0 c1 c2 c3 c4 c5 c6 c7 c8 c9 c10 c11 c12 c13 c14)
      | (go_at_call 38; (with_reducible refine (HP.out _).mono ?_); rintro e w3 ⟨rfl, hb3⟩; have h3 := h2.up hb3; have hA3 := Chain.up hA2 hb3; obtain ⟨⟨dq0, dq1, dq2, dq3, dq4, dq5, dq6, dq7, dq8, dq9, dq10, dq11, dq12, dq13, dq14⟩, -⟩ := h3.cells15; clear hb3 hA2 h2; clear d0 d1 d2 d3 d4 d5 d6 d7 d8 d9 d10 d11 d12 d13 d14)
      | (go_at_call 39; (with_reducible refine (HA.out _).mono ?_); rintro e w4 ⟨rfl, hb4⟩; have h4 := h3.up hb4; have hA4 := Chain.up hA3 hb4; obtain ⟨⟨eq0, eq1, eq2, eq3, eq4, eq5, eq6, eq7, eq8, eq9, eq10, eq11, eq12, eq13, eq14⟩, -⟩ := h4.cells15; clear hb4 hA3 h3; clear dq0 dq1 dq2 dq3 dq4 dq5 dq6 dq7 dq8 dq9 dq10 dq11 dq12 dq13 dq14)
      | (go_at_call 40; (with_reducible refine (HO.out _).mono ?_); rintro e w5 ⟨rfl, hb5⟩; have h5 := h4.up hb5; have hA5 := Chain.up hA4 hb5; obtain ⟨⟨fq0, fq1, fq2, fq3, fq4, fq5, fq6, fq7, fq8, fq9, fq10, fq11, fq12, fq13, fq14⟩, -⟩ := h5.cells15; clear hb5 hA4 h4; clear eq0 eq1 eq2 eq3 eq4 eq5 eq6 eq7 eq8 eq9 eq10 eq11 eq12 eq13 eq14))
    all_goals (go_ret; refine ⟨ret_bool ?_, by first | exact hA4 | exact hA5 | exact hA6⟩)
    all_goals (first | (rw [Hf.out]; done) | (rw [Hf.out]; first | rfl | (simp [*]; done) | (simp [*]; intros; omega) | (simp [*]; rw [Bool.eq_iff_iff, beq_iff_eq, decide_eq_true_eq]; omega)))
set_option maxRecDepth 100000 in
set_option maxHeartbeats 8000000 in
theorem refRight8 (x : P.Ca) (ht : P.tyC x) (ho : x.owner.length ≤ 1000000000) (hto : x.to.length ≤ 1000000000) (hop : x.op = 8) (w : World) : Calls Tryd.prog 14 #[.agg #[.int .u8 8, .int .u8 (x.client : Nat), V64 x.number, .int .u8 (x.p.a.fam : Nat), V64 x.p.a.hi, V64 x.p.a.lo, .int .i64 x.p.bits, .int .u8 (x.a.fam : Nat), V64 x.a.hi, V64 x.a.lo, S x.owner, S x.to, V64 x.d, V64 x.fr, .int .i64 x.n]] w fun e w' => e = .returned (.bool (P.rightC x)) ∧ Below w.heap.size w w' := by
  have h1 := Bx.fresh w 46 #[.int .u8 8, .int .u8 (x.client : Nat), V64 x.number, .int .u8 (x.p.a.fam : Nat), V64 x.p.a.hi, V64 x.p.a.lo, .int .i64 x.p.bits, .int .u8 (x.a.fam : Nat), V64 x.a.hi, V64 x.a.lo, S x.owner, S x.to, V64 x.d, V64 x.fr, .int .i64 x.n]
  have hA := (Below.refl w.heap.size w).alloc (Nat.le_refl _) (.cells #[.int .u8 8, .int .u8 (x.client : Nat), V64 x.number, .int .u8 (x.p.a.fam : Nat), V64 x.p.a.hi, V64 x.p.a.lo, .int .i64 x.p.bits, .int .u8 (x.a.fam : Nat), V64 x.a.hi, V64 x.a.lo, S x.owner, S x.to, V64 x.d, V64 x.fr, .int .i64 x.n] 46)
  have HB := Lib.hid (fun wx => refBare8 x wx)
  have HP := Lib.hid (fun wx => ref20Right_any x.p ht.2.2.2.1 wx)
  have HA := Lib.hid (fun wx => ref19Right_any x.a wx)
  have HO := Lib.hid (fun wx => name25_any x.owner ho wx)
  have HT := Lib.hid (fun wx => name25_any x.to hto wx)
  have HR := Lib.hid (right_op8 x hop)
  clear hop hto ho ht
  go_enter Tryd.func14, Tryd.ntmps14
  obtain ⟨⟨c0, c1, c2, c3, c4, c5, c6, c7, c8, c9, c10, c11, c12, c13, c14⟩, -⟩ := h1.cells15
  cases hq : P.eqI [0, 0, 0, (x.p.a.fam : Int), (x.p.a.hi : Int), (x.p.a.lo : Int), x.p.bits, 0, 0, 0, (x.d : Int), (x.fr : Int), x.n] [0, 0, 0, 0, 0, 0, 0, 0, 0, 0, 0, 0, 0] [[], x.to] [[], []] with
  | false =>
    have Hf := Lib.hid (show P.rightC x = false by rw [HR.out, hq, Bool.and_false])
    clear HR
    go_wp2_with (go_at_call 37; (with_reducible refine (HB.out _).mono ?_); rintro e w2 ⟨rfl, hb2⟩; have h2 := h1.up hb2; have hA2 := Chain.up hA hb2; obtain ⟨⟨d0, d1, d2, d3, d4, d5, d6, d7, d8, d9, d10, d11, d12, d13, d14⟩, -⟩ := h2.cells15; clear hb2 hA h1 c0 c1 c2 c3 c4 c5 c6 c7 c8 c9 c10 c11 c12 c13 c14)
    all_goals (go_ret; exact ⟨ret_bool Hf.out.symm, hA2⟩)
  | true =>
    have Hf := Lib.hid (show P.rightC x = _ by rw [HR.out, hq, Bool.and_true])
    clear HR
    generalize P.pxOk x.p = bp at *
    generalize P.adOk x.a = ba at *
    generalize P.nameOk x.owner = bo at *
    generalize P.nameOk x.to = bt at *
    go_wp2_with (first
      | (go_at_call 37; (with_reducible refine (HB.out _).mono ?_); rintro e w2 ⟨rfl, hb2⟩; have h2 := h1.up hb2; have hA2 := Chain.up hA hb2; obtain ⟨⟨d0, d1, d2, d3, d4, d5, d6, d7, d8, d9, d10, d11, d12, d13, d14⟩, -⟩ := h2.cells15; clear hb2 hA h1 c0 c1 c2 c3 c4 c5 c6 c7 c8 c9 c10 c11 c12 c13 c14)
      | (go_at_call 38; (with_reducible refine (HP.out _).mono ?_); rintro e w3 ⟨rfl, hb3⟩; have h3 := h2.up hb3; have hA3 := Chain.up hA2 hb3; obtain ⟨⟨dq0, dq1, dq2, dq3, dq4, dq5, dq6, dq7, dq8, dq9, dq10, dq11, dq12, dq13, dq14⟩, -⟩ := h3.cells15; clear hb3 hA2 h2; clear d0 d1 d2 d3 d4 d5 d6 d7 d8 d9 d10 d11 d12 d13 d14)
      | (go_at_call 39; (with_reducible refine (HA.out _).mono ?_); rintro e w4 ⟨rfl, hb4⟩; have h4 := h3.up hb4; have hA4 := Chain.up hA3 hb4; obtain ⟨⟨eq0, eq1, eq2, eq3, eq4, eq5, eq6, eq7, eq8, eq9, eq10, eq11, eq12, eq13, eq14⟩, -⟩ := h4.cells15; clear hb4 hA3 h3; clear dq0 dq1 dq2 dq3 dq4 dq5 dq6 dq7 dq8 dq9 dq10 dq11 dq12 dq13 dq14)
      | (go_at_call 40; (with_reducible refine (HO.out _).mono ?_); rintro e w5 ⟨rfl, hb5⟩; have h5 := h4.up hb5; have hA5 := Chain.up hA4 hb5; obtain ⟨⟨fq0, fq1, fq2, fq3, fq4, fq5, fq6, fq7, fq8, fq9, fq10, fq11, fq12, fq13, fq14⟩, -⟩ := h5.cells15; clear hb5 hA4 h4; clear eq0 eq1 eq2 eq3 eq4 eq5 eq6 eq7 eq8 eq9 eq10 eq11 eq12 eq13 eq14))
    all_goals (go_ret; refine ⟨ret_bool ?_, by first | exact hA4 | exact hA5 | exact hA6⟩)
    all_goals (first | (rw [Hf.out]; done) | (rw [Hf.out]; first | rfl | (simp [*]; done) | (simp [*]; intros; omega) | (simp [*]; rw [Bool.eq_iff_iff, beq_iff_eq, decide_eq_true_eq]; omega)))
set_option maxRecDepth 100000 in
set_option maxHeartbeats 8000000 in
theorem refRight9 (x : P.Ca) (ht : P.tyC x) (ho : x.owner.length ≤ 1000000000) (hto : x.to.length ≤ 1000000000) (hop : x.op = 9) (w : World) : Calls Tryd.prog 14 #[.agg #[.int .u8 9, .int .u8 (x.client : Nat), V64 x.number, .int .u8 (x.p.a.fam : Nat), V64 x.p.a.hi, V64 x.p.a.lo, .int .i64 x.p.bits, .int .u8 (x.a.fam : Nat), V64 x.a.hi, V64 x.a.lo, S x.owner, S x.to, V64 x.d, V64 x.fr, .int .i64 x.n]] w fun e w' => e = .returned (.bool (P.rightC x)) ∧ Below w.heap.size w w' := by
  have h1 := Bx.fresh w 46 #[.int .u8 9, .int .u8 (x.client : Nat), V64 x.number, .int .u8 (x.p.a.fam : Nat), V64 x.p.a.hi, V64 x.p.a.lo, .int .i64 x.p.bits, .int .u8 (x.a.fam : Nat), V64 x.a.hi, V64 x.a.lo, S x.owner, S x.to, V64 x.d, V64 x.fr, .int .i64 x.n]
  have hA := (Below.refl w.heap.size w).alloc (Nat.le_refl _) (.cells #[.int .u8 9, .int .u8 (x.client : Nat), V64 x.number, .int .u8 (x.p.a.fam : Nat), V64 x.p.a.hi, V64 x.p.a.lo, .int .i64 x.p.bits, .int .u8 (x.a.fam : Nat), V64 x.a.hi, V64 x.a.lo, S x.owner, S x.to, V64 x.d, V64 x.fr, .int .i64 x.n] 46)
  have HB := Lib.hid (fun wx => refBare9 x wx)
  have HP := Lib.hid (fun wx => ref20Right_any x.p ht.2.2.2.1 wx)
  have HA := Lib.hid (fun wx => ref19Right_any x.a wx)
  have HO := Lib.hid (fun wx => name25_any x.owner ho wx)
  have HT := Lib.hid (fun wx => name25_any x.to hto wx)
  have HR := Lib.hid (right_op9 x hop)
  clear hop hto ho ht
  go_enter Tryd.func14, Tryd.ntmps14
  obtain ⟨⟨c0, c1, c2, c3, c4, c5, c6, c7, c8, c9, c10, c11, c12, c13, c14⟩, -⟩ := h1.cells15
  cases hq : P.eqI [0, 0, 0, (x.p.a.fam : Int), (x.p.a.hi : Int), (x.p.a.lo : Int), x.p.bits, 0, 0, 0, (x.d : Int), (x.fr : Int), x.n] [0, 0, 0, 0, 0, 0, 0, 0, 0, 0, 0, 0, 0] [[], []] [[], []] with
  | false =>
    have Hf := Lib.hid (show P.rightC x = false by rw [HR.out, hq, Bool.and_false])
    clear HR
    go_wp2_with (go_at_call 37; (with_reducible refine (HB.out _).mono ?_); rintro e w2 ⟨rfl, hb2⟩; have h2 := h1.up hb2; have hA2 := Chain.up hA hb2; obtain ⟨⟨d0, d1, d2, d3, d4, d5, d6, d7, d8, d9, d10, d11, d12, d13, d14⟩, -⟩ := h2.cells15; clear hb2 hA h1 c0 c1 c2 c3 c4 c5 c6 c7 c8 c9 c10 c11 c12 c13 c14)
    all_goals (go_ret; exact ⟨ret_bool Hf.out.symm, hA2⟩)
  | true =>
    have Hf := Lib.hid (show P.rightC x = _ by rw [HR.out, hq, Bool.and_true])
    clear HR
    generalize P.pxOk x.p = bp at *
    generalize P.adOk x.a = ba at *
    generalize P.nameOk x.owner = bo at *
    generalize P.nameOk x.to = bt at *
    go_wp2_with (first
      | (go_at_call 37; (with_reducible refine (HB.out _).mono ?_); rintro e w2 ⟨rfl, hb2⟩; have h2 := h1.up hb2; have hA2 := Chain.up hA hb2; obtain ⟨⟨d0, d1, d2, d3, d4, d5, d6, d7, d8, d9, d10, d11, d12, d13, d14⟩, -⟩ := h2.cells15; clear hb2 hA h1 c0 c1 c2 c3 c4 c5 c6 c7 c8 c9 c10 c11 c12 c13 c14)
      | (go_at_call 38; (with_reducible refine (HP.out _).mono ?_); rintro e w3 ⟨rfl, hb3⟩; have h3 := h2.up hb3; have hA3 := Chain.up hA2 hb3; obtain ⟨⟨dq0, dq1, dq2, dq3, dq4, dq5, dq6, dq7, dq8, dq9, dq10, dq11, dq12, dq13, dq14⟩, -⟩ := h3.cells15; clear hb3 hA2 h2; clear d0 d1 d2 d3 d4 d5 d6 d7 d8 d9 d10 d11 d12 d13 d14)
      | (go_at_call 39; (with_reducible refine (HA.out _).mono ?_); rintro e w4 ⟨rfl, hb4⟩; have h4 := h3.up hb4; have hA4 := Chain.up hA3 hb4; obtain ⟨⟨eq0, eq1, eq2, eq3, eq4, eq5, eq6, eq7, eq8, eq9, eq10, eq11, eq12, eq13, eq14⟩, -⟩ := h4.cells15; clear hb4 hA3 h3; clear dq0 dq1 dq2 dq3 dq4 dq5 dq6 dq7 dq8 dq9 dq10 dq11 dq12 dq13 dq14)
      | (go_at_call 40; (with_reducible refine (HO.out _).mono ?_); rintro e w5 ⟨rfl, hb5⟩; have h5 := h4.up hb5; have hA5 := Chain.up hA4 hb5; obtain ⟨⟨fq0, fq1, fq2, fq3, fq4, fq5, fq6, fq7, fq8, fq9, fq10, fq11, fq12, fq13, fq14⟩, -⟩ := h5.cells15; clear hb5 hA4 h4; clear eq0 eq1 eq2 eq3 eq4 eq5 eq6 eq7 eq8 eq9 eq10 eq11 eq12 eq13 eq14)
      | (go_at_call 40; (with_reducible refine (HT.out _).mono ?_); rintro e w6 ⟨rfl, hb6⟩; have h6 := h5.up hb6; have hA6 := Chain.up hA5 hb6; obtain ⟨⟨gq0, gq1, gq2, gq3, gq4, gq5, gq6, gq7, gq8, gq9, gq10, gq11, gq12, gq13, gq14⟩, -⟩ := h6.cells15; clear hb6 hA5 h5))
    all_goals (go_ret; refine ⟨ret_bool ?_, by first | exact hA4 | exact hA5 | exact hA6⟩)
    all_goals (first | (rw [Hf.out]; done) | (rw [Hf.out]; first | rfl | (simp [*]; done) | (simp [*]; intros; omega) | (simp [*]; rw [Bool.eq_iff_iff, beq_iff_eq, decide_eq_true_eq]; omega)))
set_option maxRecDepth 100000 in
set_option maxHeartbeats 8000000 in
theorem refRight10 (x : P.Ca) (ht : P.tyC x) (ho : x.owner.length ≤ 1000000000) (hto : x.to.length ≤ 1000000000) (hop : x.op = 10) (w : World) : Calls Tryd.prog 14 #[.agg #[.int .u8 10, .int .u8 (x.client : Nat), V64 x.number, .int .u8 (x.p.a.fam : Nat), V64 x.p.a.hi, V64 x.p.a.lo, .int .i64 x.p.bits, .int .u8 (x.a.fam : Nat), V64 x.a.hi, V64 x.a.lo, S x.owner, S x.to, V64 x.d, V64 x.fr, .int .i64 x.n]] w fun e w' => e = .returned (.bool (P.rightC x)) ∧ Below w.heap.size w w' := by
  have h1 := Bx.fresh w 46 #[.int .u8 10, .int .u8 (x.client : Nat), V64 x.number, .int .u8 (x.p.a.fam : Nat), V64 x.p.a.hi, V64 x.p.a.lo, .int .i64 x.p.bits, .int .u8 (x.a.fam : Nat), V64 x.a.hi, V64 x.a.lo, S x.owner, S x.to, V64 x.d, V64 x.fr, .int .i64 x.n]
  have hA := (Below.refl w.heap.size w).alloc (Nat.le_refl _) (.cells #[.int .u8 10, .int .u8 (x.client : Nat), V64 x.number, .int .u8 (x.p.a.fam : Nat), V64 x.p.a.hi, V64 x.p.a.lo, .int .i64 x.p.bits, .int .u8 (x.a.fam : Nat), V64 x.a.hi, V64 x.a.lo, S x.owner, S x.to, V64 x.d, V64 x.fr, .int .i64 x.n] 46)
  have HB := Lib.hid (fun wx => refBare10 x wx)
  have HP := Lib.hid (fun wx => ref20Right_any x.p ht.2.2.2.1 wx)
  have HA := Lib.hid (fun wx => ref19Right_any x.a wx)
  have HO := Lib.hid (fun wx => name25_any x.owner ho wx)
  have HT := Lib.hid (fun wx => name25_any x.to hto wx)
  have HR := Lib.hid (right_op10 x hop)
  clear hop hto ho ht
  go_enter Tryd.func14, Tryd.ntmps14
  obtain ⟨⟨c0, c1, c2, c3, c4, c5, c6, c7, c8, c9, c10, c11, c12, c13, c14⟩, -⟩ := h1.cells15
  cases hq : P.eqI [0, 0, 0, (x.p.a.fam : Int), (x.p.a.hi : Int), (x.p.a.lo : Int), x.p.bits, 0, 0, 0, (x.d : Int), (x.fr : Int), x.n] [0, 0, 0, 0, 0, 0, 0, 0, 0, 0, 0, 0, 0] [x.owner, x.to] [[], []] with
  | false =>
    have Hf := Lib.hid (show P.rightC x = false by rw [HR.out, hq, Bool.and_false])
    clear HR
    go_wp2_with (go_at_call 37; (with_reducible refine (HB.out _).mono ?_); rintro e w2 ⟨rfl, hb2⟩; have h2 := h1.up hb2; have hA2 := Chain.up hA hb2; obtain ⟨⟨d0, d1, d2, d3, d4, d5, d6, d7, d8, d9, d10, d11, d12, d13, d14⟩, -⟩ := h2.cells15; clear hb2 hA h1 c0 c1 c2 c3 c4 c5 c6 c7 c8 c9 c10 c11 c12 c13 c14)
    all_goals (go_ret; exact ⟨ret_bool Hf.out.symm, hA2⟩)
  | true =>
    have Hf := Lib.hid (show P.rightC x = _ by rw [HR.out, hq, Bool.and_true])
    clear HR
    generalize P.pxOk x.p = bp at *
    generalize P.adOk x.a = ba at *
    generalize P.nameOk x.owner = bo at *
    generalize P.nameOk x.to = bt at *
    go_wp2_with (first
      | (go_at_call 37; (with_reducible refine (HB.out _).mono ?_); rintro e w2 ⟨rfl, hb2⟩; have h2 := h1.up hb2; have hA2 := Chain.up hA hb2; obtain ⟨⟨d0, d1, d2, d3, d4, d5, d6, d7, d8, d9, d10, d11, d12, d13, d14⟩, -⟩ := h2.cells15; clear hb2 hA h1 c0 c1 c2 c3 c4 c5 c6 c7 c8 c9 c10 c11 c12 c13 c14)
      | (go_at_call 38; (with_reducible refine (HP.out _).mono ?_); rintro e w3 ⟨rfl, hb3⟩; have h3 := h2.up hb3; have hA3 := Chain.up hA2 hb3; obtain ⟨⟨dq0, dq1, dq2, dq3, dq4, dq5, dq6, dq7, dq8, dq9, dq10, dq11, dq12, dq13, dq14⟩, -⟩ := h3.cells15; clear hb3 hA2 h2; clear d0 d1 d2 d3 d4 d5 d6 d7 d8 d9 d10 d11 d12 d13 d14)
      | (go_at_call 39; (with_reducible refine (HA.out _).mono ?_); rintro e w4 ⟨rfl, hb4⟩; have h4 := h3.up hb4; have hA4 := Chain.up hA3 hb4; obtain ⟨⟨eq0, eq1, eq2, eq3, eq4, eq5, eq6, eq7, eq8, eq9, eq10, eq11, eq12, eq13, eq14⟩, -⟩ := h4.cells15; clear hb4 hA3 h3; clear dq0 dq1 dq2 dq3 dq4 dq5 dq6 dq7 dq8 dq9 dq10 dq11 dq12 dq13 dq14))
    all_goals (go_ret; refine ⟨ret_bool ?_, by first | exact hA4 | exact hA5 | exact hA6⟩)
    all_goals (first | (rw [Hf.out]; done) | (rw [Hf.out]; first | rfl | (simp [*]; done) | (simp [*]; intros; omega) | (simp [*]; rw [Bool.eq_iff_iff, beq_iff_eq, decide_eq_true_eq]; omega)))
set_option maxRecDepth 100000 in
set_option maxHeartbeats 8000000 in
theorem refRight11 (x : P.Ca) (ht : P.tyC x) (ho : x.owner.length ≤ 1000000000) (hto : x.to.length ≤ 1000000000) (hop : x.op = 11) (w : World) : Calls Tryd.prog 14 #[.agg #[.int .u8 11, .int .u8 (x.client : Nat), V64 x.number, .int .u8 (x.p.a.fam : Nat), V64 x.p.a.hi, V64 x.p.a.lo, .int .i64 x.p.bits, .int .u8 (x.a.fam : Nat), V64 x.a.hi, V64 x.a.lo, S x.owner, S x.to, V64 x.d, V64 x.fr, .int .i64 x.n]] w fun e w' => e = .returned (.bool (P.rightC x)) ∧ Below w.heap.size w w' := by
  have h1 := Bx.fresh w 46 #[.int .u8 11, .int .u8 (x.client : Nat), V64 x.number, .int .u8 (x.p.a.fam : Nat), V64 x.p.a.hi, V64 x.p.a.lo, .int .i64 x.p.bits, .int .u8 (x.a.fam : Nat), V64 x.a.hi, V64 x.a.lo, S x.owner, S x.to, V64 x.d, V64 x.fr, .int .i64 x.n]
  have hA := (Below.refl w.heap.size w).alloc (Nat.le_refl _) (.cells #[.int .u8 11, .int .u8 (x.client : Nat), V64 x.number, .int .u8 (x.p.a.fam : Nat), V64 x.p.a.hi, V64 x.p.a.lo, .int .i64 x.p.bits, .int .u8 (x.a.fam : Nat), V64 x.a.hi, V64 x.a.lo, S x.owner, S x.to, V64 x.d, V64 x.fr, .int .i64 x.n] 46)
  have HB := Lib.hid (fun wx => refBare11 x wx)
  have HP := Lib.hid (fun wx => ref20Right_any x.p ht.2.2.2.1 wx)
  have HA := Lib.hid (fun wx => ref19Right_any x.a wx)
  have HO := Lib.hid (fun wx => name25_any x.owner ho wx)
  have HT := Lib.hid (fun wx => name25_any x.to hto wx)
  have HR := Lib.hid (right_op11 x hop)
  clear hop hto ho ht
  go_enter Tryd.func14, Tryd.ntmps14
  obtain ⟨⟨c0, c1, c2, c3, c4, c5, c6, c7, c8, c9, c10, c11, c12, c13, c14⟩, -⟩ := h1.cells15
  cases hq : P.eqI [0, 0, 0, 0, 0, 0, 0, 0, 0, 0, (x.d : Int), (x.fr : Int), 0] [0, 0, 0, 0, 0, 0, 0, 0, 0, 0, 0, 0, 0] [x.owner, x.to] [[], []] with
  | false =>
    have Hf := Lib.hid (show P.rightC x = false by rw [HR.out, hq, Bool.and_false])
    clear HR
    go_wp2_with (go_at_call 37; (with_reducible refine (HB.out _).mono ?_); rintro e w2 ⟨rfl, hb2⟩; have h2 := h1.up hb2; have hA2 := Chain.up hA hb2; obtain ⟨⟨d0, d1, d2, d3, d4, d5, d6, d7, d8, d9, d10, d11, d12, d13, d14⟩, -⟩ := h2.cells15; clear hb2 hA h1 c0 c1 c2 c3 c4 c5 c6 c7 c8 c9 c10 c11 c12 c13 c14)
    all_goals (go_ret; exact ⟨ret_bool Hf.out.symm, hA2⟩)
  | true =>
    have Hf := Lib.hid (show P.rightC x = _ by rw [HR.out, hq, Bool.and_true])
    clear HR
    generalize P.pxOk x.p = bp at *
    generalize P.adOk x.a = ba at *
    generalize P.nameOk x.owner = bo at *
    generalize P.nameOk x.to = bt at *
    go_wp2_with (first
      | (go_at_call 37; (with_reducible refine (HB.out _).mono ?_); rintro e w2 ⟨rfl, hb2⟩; have h2 := h1.up hb2; have hA2 := Chain.up hA hb2; obtain ⟨⟨d0, d1, d2, d3, d4, d5, d6, d7, d8, d9, d10, d11, d12, d13, d14⟩, -⟩ := h2.cells15; clear hb2 hA h1 c0 c1 c2 c3 c4 c5 c6 c7 c8 c9 c10 c11 c12 c13 c14)
      | (go_at_call 38; (with_reducible refine (HP.out _).mono ?_); rintro e w3 ⟨rfl, hb3⟩; have h3 := h2.up hb3; have hA3 := Chain.up hA2 hb3; obtain ⟨⟨dq0, dq1, dq2, dq3, dq4, dq5, dq6, dq7, dq8, dq9, dq10, dq11, dq12, dq13, dq14⟩, -⟩ := h3.cells15; clear hb3 hA2 h2; clear d0 d1 d2 d3 d4 d5 d6 d7 d8 d9 d10 d11 d12 d13 d14)
      | (go_at_call 39; (with_reducible refine (HA.out _).mono ?_); rintro e w4 ⟨rfl, hb4⟩; have h4 := h3.up hb4; have hA4 := Chain.up hA3 hb4; obtain ⟨⟨eq0, eq1, eq2, eq3, eq4, eq5, eq6, eq7, eq8, eq9, eq10, eq11, eq12, eq13, eq14⟩, -⟩ := h4.cells15; clear hb4 hA3 h3; clear dq0 dq1 dq2 dq3 dq4 dq5 dq6 dq7 dq8 dq9 dq10 dq11 dq12 dq13 dq14))
    all_goals (go_ret; refine ⟨ret_bool ?_, by first | exact hA4 | exact hA5 | exact hA6⟩)
    all_goals (first | (rw [Hf.out]; done) | (rw [Hf.out]; first | rfl | (simp [*]; done) | (simp [*]; intros; omega) | (simp [*]; rw [Bool.eq_iff_iff, beq_iff_eq, decide_eq_true_eq]; omega)))
set_option maxRecDepth 100000 in
set_option maxHeartbeats 8000000 in
theorem refRight12 (x : P.Ca) (ht : P.tyC x) (ho : x.owner.length ≤ 1000000000) (hto : x.to.length ≤ 1000000000) (hop : x.op = 12) (w : World) : Calls Tryd.prog 14 #[.agg #[.int .u8 12, .int .u8 (x.client : Nat), V64 x.number, .int .u8 (x.p.a.fam : Nat), V64 x.p.a.hi, V64 x.p.a.lo, .int .i64 x.p.bits, .int .u8 (x.a.fam : Nat), V64 x.a.hi, V64 x.a.lo, S x.owner, S x.to, V64 x.d, V64 x.fr, .int .i64 x.n]] w fun e w' => e = .returned (.bool (P.rightC x)) ∧ Below w.heap.size w w' := by
  have h1 := Bx.fresh w 46 #[.int .u8 12, .int .u8 (x.client : Nat), V64 x.number, .int .u8 (x.p.a.fam : Nat), V64 x.p.a.hi, V64 x.p.a.lo, .int .i64 x.p.bits, .int .u8 (x.a.fam : Nat), V64 x.a.hi, V64 x.a.lo, S x.owner, S x.to, V64 x.d, V64 x.fr, .int .i64 x.n]
  have hA := (Below.refl w.heap.size w).alloc (Nat.le_refl _) (.cells #[.int .u8 12, .int .u8 (x.client : Nat), V64 x.number, .int .u8 (x.p.a.fam : Nat), V64 x.p.a.hi, V64 x.p.a.lo, .int .i64 x.p.bits, .int .u8 (x.a.fam : Nat), V64 x.a.hi, V64 x.a.lo, S x.owner, S x.to, V64 x.d, V64 x.fr, .int .i64 x.n] 46)
  have HB := Lib.hid (fun wx => refBare12 x wx)
  have HP := Lib.hid (fun wx => ref20Right_any x.p ht.2.2.2.1 wx)
  have HA := Lib.hid (fun wx => ref19Right_any x.a wx)
  have HO := Lib.hid (fun wx => name25_any x.owner ho wx)
  have HT := Lib.hid (fun wx => name25_any x.to hto wx)
  have HR := Lib.hid (right_op12 x hop)
  clear hop hto ho ht
  go_enter Tryd.func14, Tryd.ntmps14
  obtain ⟨⟨c0, c1, c2, c3, c4, c5, c6, c7, c8, c9, c10, c11, c12, c13, c14⟩, -⟩ := h1.cells15
  cases hq : P.eqI [0, 0, 0, (x.p.a.fam : Int), (x.p.a.hi : Int), (x.p.a.lo : Int), x.p.bits, 0, 0, 0, (x.d : Int), 0, 0] [0, 0, 0, 0, 0, 0, 0, 0, 0, 0, 0, 0, 0] [x.owner, x.to] [[], []] with
  | false =>
    have Hf := Lib.hid (show P.rightC x = false by rw [HR.out, hq, Bool.and_false])
    clear HR
    go_wp2_with (go_at_call 37; (with_reducible refine (HB.out _).mono ?_); rintro e w2 ⟨rfl, hb2⟩; have h2 := h1.up hb2; have hA2 := Chain.up hA hb2; obtain ⟨⟨d0, d1, d2, d3, d4, d5, d6, d7, d8, d9, d10, d11, d12, d13, d14⟩, -⟩ := h2.cells15; clear hb2 hA h1 c0 c1 c2 c3 c4 c5 c6 c7 c8 c9 c10 c11 c12 c13 c14)
    all_goals (go_ret; exact ⟨ret_bool Hf.out.symm, hA2⟩)
  | true =>
    have Hf := Lib.hid (show P.rightC x = _ by rw [HR.out, hq, Bool.and_true])
    clear HR
    generalize P.pxOk x.p = bp at *
    generalize P.adOk x.a = ba at *
    generalize P.nameOk x.owner = bo at *
    generalize P.nameOk x.to = bt at *
    go_wp2_with (first
      | (go_at_call 37; (with_reducible refine (HB.out _).mono ?_); rintro e w2 ⟨rfl, hb2⟩; have h2 := h1.up hb2; have hA2 := Chain.up hA hb2; obtain ⟨⟨d0, d1, d2, d3, d4, d5, d6, d7, d8, d9, d10, d11, d12, d13, d14⟩, -⟩ := h2.cells15; clear hb2 hA h1 c0 c1 c2 c3 c4 c5 c6 c7 c8 c9 c10 c11 c12 c13 c14)
      | (go_at_call 38; (with_reducible refine (HP.out _).mono ?_); rintro e w3 ⟨rfl, hb3⟩; have h3 := h2.up hb3; have hA3 := Chain.up hA2 hb3; obtain ⟨⟨dq0, dq1, dq2, dq3, dq4, dq5, dq6, dq7, dq8, dq9, dq10, dq11, dq12, dq13, dq14⟩, -⟩ := h3.cells15; clear hb3 hA2 h2; clear d0 d1 d2 d3 d4 d5 d6 d7 d8 d9 d10 d11 d12 d13 d14)
      | (go_at_call 39; (with_reducible refine (HA.out _).mono ?_); rintro e w4 ⟨rfl, hb4⟩; have h4 := h3.up hb4; have hA4 := Chain.up hA3 hb4; obtain ⟨⟨eq0, eq1, eq2, eq3, eq4, eq5, eq6, eq7, eq8, eq9, eq10, eq11, eq12, eq13, eq14⟩, -⟩ := h4.cells15; clear hb4 hA3 h3; clear dq0 dq1 dq2 dq3 dq4 dq5 dq6 dq7 dq8 dq9 dq10 dq11 dq12 dq13 dq14))
    all_goals (go_ret; refine ⟨ret_bool ?_, by first | exact hA4 | exact hA5 | exact hA6⟩)
    all_goals (first | (rw [Hf.out]; done) | (rw [Hf.out]; first | rfl | (simp [*]; done) | (simp [*]; intros; omega) | (simp [*]; rw [Bool.eq_iff_iff, beq_iff_eq, decide_eq_true_eq]; omega)))
set_option maxRecDepth 100000 in
set_option maxHeartbeats 8000000 in
theorem refRight13 (x : P.Ca) (ht : P.tyC x) (ho : x.owner.length ≤ 1000000000) (hto : x.to.length ≤ 1000000000) (hop : x.op = 13) (w : World) : Calls Tryd.prog 14 #[.agg #[.int .u8 13, .int .u8 (x.client : Nat), V64 x.number, .int .u8 (x.p.a.fam : Nat), V64 x.p.a.hi, V64 x.p.a.lo, .int .i64 x.p.bits, .int .u8 (x.a.fam : Nat), V64 x.a.hi, V64 x.a.lo, S x.owner, S x.to, V64 x.d, V64 x.fr, .int .i64 x.n]] w fun e w' => e = .returned (.bool (P.rightC x)) ∧ Below w.heap.size w w' := by
  have h1 := Bx.fresh w 46 #[.int .u8 13, .int .u8 (x.client : Nat), V64 x.number, .int .u8 (x.p.a.fam : Nat), V64 x.p.a.hi, V64 x.p.a.lo, .int .i64 x.p.bits, .int .u8 (x.a.fam : Nat), V64 x.a.hi, V64 x.a.lo, S x.owner, S x.to, V64 x.d, V64 x.fr, .int .i64 x.n]
  have hA := (Below.refl w.heap.size w).alloc (Nat.le_refl _) (.cells #[.int .u8 13, .int .u8 (x.client : Nat), V64 x.number, .int .u8 (x.p.a.fam : Nat), V64 x.p.a.hi, V64 x.p.a.lo, .int .i64 x.p.bits, .int .u8 (x.a.fam : Nat), V64 x.a.hi, V64 x.a.lo, S x.owner, S x.to, V64 x.d, V64 x.fr, .int .i64 x.n] 46)
  have HB := Lib.hid (fun wx => refBare13 x wx)
  have HP := Lib.hid (fun wx => ref20Right_any x.p ht.2.2.2.1 wx)
  have HA := Lib.hid (fun wx => ref19Right_any x.a wx)
  have HO := Lib.hid (fun wx => name25_any x.owner ho wx)
  have HT := Lib.hid (fun wx => name25_any x.to hto wx)
  have HR := Lib.hid (right_op13 x hop)
  clear hop hto ho ht
  go_enter Tryd.func14, Tryd.ntmps14
  obtain ⟨⟨c0, c1, c2, c3, c4, c5, c6, c7, c8, c9, c10, c11, c12, c13, c14⟩, -⟩ := h1.cells15
  cases hq : P.eqI [0, 0, 0, 0, 0, 0, 0, (x.a.fam : Int), (x.a.hi : Int), (x.a.lo : Int), (x.d : Int), (x.fr : Int), 0] [0, 0, 0, 0, 0, 0, 0, 0, 0, 0, 0, 0, 0] [x.owner, x.to] [[], []] with
  | false =>
    have Hf := Lib.hid (show P.rightC x = false by rw [HR.out, hq, Bool.and_false])
    clear HR
    go_wp2_with (go_at_call 37; (with_reducible refine (HB.out _).mono ?_); rintro e w2 ⟨rfl, hb2⟩; have h2 := h1.up hb2; have hA2 := Chain.up hA hb2; obtain ⟨⟨d0, d1, d2, d3, d4, d5, d6, d7, d8, d9, d10, d11, d12, d13, d14⟩, -⟩ := h2.cells15; clear hb2 hA h1 c0 c1 c2 c3 c4 c5 c6 c7 c8 c9 c10 c11 c12 c13 c14)
    all_goals (go_ret; exact ⟨ret_bool Hf.out.symm, hA2⟩)
  | true =>
    have Hf := Lib.hid (show P.rightC x = _ by rw [HR.out, hq, Bool.and_true])
    clear HR
    generalize P.pxOk x.p = bp at *
    generalize P.adOk x.a = ba at *
    generalize P.nameOk x.owner = bo at *
    generalize P.nameOk x.to = bt at *
    go_wp2_with (first
      | (go_at_call 37; (with_reducible refine (HB.out _).mono ?_); rintro e w2 ⟨rfl, hb2⟩; have h2 := h1.up hb2; have hA2 := Chain.up hA hb2; obtain ⟨⟨d0, d1, d2, d3, d4, d5, d6, d7, d8, d9, d10, d11, d12, d13, d14⟩, -⟩ := h2.cells15; clear hb2 hA h1 c0 c1 c2 c3 c4 c5 c6 c7 c8 c9 c10 c11 c12 c13 c14)
      | (go_at_call 38; (with_reducible refine (HP.out _).mono ?_); rintro e w3 ⟨rfl, hb3⟩; have h3 := h2.up hb3; have hA3 := Chain.up hA2 hb3; obtain ⟨⟨dq0, dq1, dq2, dq3, dq4, dq5, dq6, dq7, dq8, dq9, dq10, dq11, dq12, dq13, dq14⟩, -⟩ := h3.cells15; clear hb3 hA2 h2; clear d0 d1 d2 d3 d4 d5 d6 d7 d8 d9 d10 d11 d12 d13 d14)
      | (go_at_call 39; (with_reducible refine (HA.out _).mono ?_); rintro e w4 ⟨rfl, hb4⟩; have h4 := h3.up hb4; have hA4 := Chain.up hA3 hb4; obtain ⟨⟨eq0, eq1, eq2, eq3, eq4, eq5, eq6, eq7, eq8, eq9, eq10, eq11, eq12, eq13, eq14⟩, -⟩ := h4.cells15; clear hb4 hA3 h3; clear dq0 dq1 dq2 dq3 dq4 dq5 dq6 dq7 dq8 dq9 dq10 dq11 dq12 dq13 dq14))
    all_goals (go_ret; refine ⟨ret_bool ?_, by first | exact hA4 | exact hA5 | exact hA6⟩)
    all_goals (first | (rw [Hf.out]; done) | (rw [Hf.out]; first | rfl | (simp [*]; done) | (simp [*]; intros; omega) | (simp [*]; rw [Bool.eq_iff_iff, beq_iff_eq, decide_eq_true_eq]; omega)))
set_option maxRecDepth 100000 in
set_option maxHeartbeats 8000000 in
theorem refRight14 (x : P.Ca) (ht : P.tyC x) (ho : x.owner.length ≤ 1000000000) (hto : x.to.length ≤ 1000000000) (hop : x.op = 14) (w : World) : Calls Tryd.prog 14 #[.agg #[.int .u8 14, .int .u8 (x.client : Nat), V64 x.number, .int .u8 (x.p.a.fam : Nat), V64 x.p.a.hi, V64 x.p.a.lo, .int .i64 x.p.bits, .int .u8 (x.a.fam : Nat), V64 x.a.hi, V64 x.a.lo, S x.owner, S x.to, V64 x.d, V64 x.fr, .int .i64 x.n]] w fun e w' => e = .returned (.bool (P.rightC x)) ∧ Below w.heap.size w w' := by
  have h1 := Bx.fresh w 46 #[.int .u8 14, .int .u8 (x.client : Nat), V64 x.number, .int .u8 (x.p.a.fam : Nat), V64 x.p.a.hi, V64 x.p.a.lo, .int .i64 x.p.bits, .int .u8 (x.a.fam : Nat), V64 x.a.hi, V64 x.a.lo, S x.owner, S x.to, V64 x.d, V64 x.fr, .int .i64 x.n]
  have hA := (Below.refl w.heap.size w).alloc (Nat.le_refl _) (.cells #[.int .u8 14, .int .u8 (x.client : Nat), V64 x.number, .int .u8 (x.p.a.fam : Nat), V64 x.p.a.hi, V64 x.p.a.lo, .int .i64 x.p.bits, .int .u8 (x.a.fam : Nat), V64 x.a.hi, V64 x.a.lo, S x.owner, S x.to, V64 x.d, V64 x.fr, .int .i64 x.n] 46)
  have HB := Lib.hid (fun wx => refBare14 x wx)
  have HP := Lib.hid (fun wx => ref20Right_any x.p ht.2.2.2.1 wx)
  have HA := Lib.hid (fun wx => ref19Right_any x.a wx)
  have HO := Lib.hid (fun wx => name25_any x.owner ho wx)
  have HT := Lib.hid (fun wx => name25_any x.to hto wx)
  have HR := Lib.hid (right_op14 x hop)
  clear hop hto ho ht
  go_enter Tryd.func14, Tryd.ntmps14
  obtain ⟨⟨c0, c1, c2, c3, c4, c5, c6, c7, c8, c9, c10, c11, c12, c13, c14⟩, -⟩ := h1.cells15
  cases hq : P.eqI [0, 0, 0, 0, 0, 0, 0, (x.a.fam : Int), (x.a.hi : Int), (x.a.lo : Int), (x.d : Int), (x.fr : Int), 0] [0, 0, 0, 0, 0, 0, 0, 0, 0, 0, 0, 0, 0] [x.owner, x.to] [[], []] with
  | false =>
    have Hf := Lib.hid (show P.rightC x = false by rw [HR.out, hq, Bool.and_false])
    clear HR
    go_wp2_with (go_at_call 37; (with_reducible refine (HB.out _).mono ?_); rintro e w2 ⟨rfl, hb2⟩; have h2 := h1.up hb2; have hA2 := Chain.up hA hb2; obtain ⟨⟨d0, d1, d2, d3, d4, d5, d6, d7, d8, d9, d10, d11, d12, d13, d14⟩, -⟩ := h2.cells15; clear hb2 hA h1 c0 c1 c2 c3 c4 c5 c6 c7 c8 c9 c10 c11 c12 c13 c14)
    all_goals (go_ret; exact ⟨ret_bool Hf.out.symm, hA2⟩)
  | true =>
    have Hf := Lib.hid (show P.rightC x = _ by rw [HR.out, hq, Bool.and_true])
    clear HR
    generalize P.pxOk x.p = bp at *
    generalize P.adOk x.a = ba at *
    generalize P.nameOk x.owner = bo at *
    generalize P.nameOk x.to = bt at *
    go_wp2_with (first
      | (go_at_call 37; (with_reducible refine (HB.out _).mono ?_); rintro e w2 ⟨rfl, hb2⟩; have h2 := h1.up hb2; have hA2 := Chain.up hA hb2; obtain ⟨⟨d0, d1, d2, d3, d4, d5, d6, d7, d8, d9, d10, d11, d12, d13, d14⟩, -⟩ := h2.cells15; clear hb2 hA h1 c0 c1 c2 c3 c4 c5 c6 c7 c8 c9 c10 c11 c12 c13 c14)
      | (go_at_call 38; (with_reducible refine (HP.out _).mono ?_); rintro e w3 ⟨rfl, hb3⟩; have h3 := h2.up hb3; have hA3 := Chain.up hA2 hb3; obtain ⟨⟨dq0, dq1, dq2, dq3, dq4, dq5, dq6, dq7, dq8, dq9, dq10, dq11, dq12, dq13, dq14⟩, -⟩ := h3.cells15; clear hb3 hA2 h2; clear d0 d1 d2 d3 d4 d5 d6 d7 d8 d9 d10 d11 d12 d13 d14)
      | (go_at_call 39; (with_reducible refine (HA.out _).mono ?_); rintro e w4 ⟨rfl, hb4⟩; have h4 := h3.up hb4; have hA4 := Chain.up hA3 hb4; obtain ⟨⟨eq0, eq1, eq2, eq3, eq4, eq5, eq6, eq7, eq8, eq9, eq10, eq11, eq12, eq13, eq14⟩, -⟩ := h4.cells15; clear hb4 hA3 h3; clear dq0 dq1 dq2 dq3 dq4 dq5 dq6 dq7 dq8 dq9 dq10 dq11 dq12 dq13 dq14))
    all_goals (go_ret; refine ⟨ret_bool ?_, by first | exact hA4 | exact hA5 | exact hA6⟩)
    all_goals (first | (rw [Hf.out]; done) | (rw [Hf.out]; first | rfl | (simp [*]; done) | (simp [*]; intros; omega) | (simp [*]; rw [Bool.eq_iff_iff, beq_iff_eq, decide_eq_true_eq]; omega)))
set_option maxRecDepth 100000 in
set_option maxHeartbeats 8000000 in
theorem refRight15 (x : P.Ca) (ht : P.tyC x) (ho : x.owner.length ≤ 1000000000) (hto : x.to.length ≤ 1000000000) (hop : x.op = 15) (w : World) : Calls Tryd.prog 14 #[.agg #[.int .u8 15, .int .u8 (x.client : Nat), V64 x.number, .int .u8 (x.p.a.fam : Nat), V64 x.p.a.hi, V64 x.p.a.lo, .int .i64 x.p.bits, .int .u8 (x.a.fam : Nat), V64 x.a.hi, V64 x.a.lo, S x.owner, S x.to, V64 x.d, V64 x.fr, .int .i64 x.n]] w fun e w' => e = .returned (.bool (P.rightC x)) ∧ Below w.heap.size w w' := by
  have h1 := Bx.fresh w 46 #[.int .u8 15, .int .u8 (x.client : Nat), V64 x.number, .int .u8 (x.p.a.fam : Nat), V64 x.p.a.hi, V64 x.p.a.lo, .int .i64 x.p.bits, .int .u8 (x.a.fam : Nat), V64 x.a.hi, V64 x.a.lo, S x.owner, S x.to, V64 x.d, V64 x.fr, .int .i64 x.n]
  have hA := (Below.refl w.heap.size w).alloc (Nat.le_refl _) (.cells #[.int .u8 15, .int .u8 (x.client : Nat), V64 x.number, .int .u8 (x.p.a.fam : Nat), V64 x.p.a.hi, V64 x.p.a.lo, .int .i64 x.p.bits, .int .u8 (x.a.fam : Nat), V64 x.a.hi, V64 x.a.lo, S x.owner, S x.to, V64 x.d, V64 x.fr, .int .i64 x.n] 46)
  have HB := Lib.hid (fun wx => refBare15 x wx)
  have HP := Lib.hid (fun wx => ref20Right_any x.p ht.2.2.2.1 wx)
  have HA := Lib.hid (fun wx => ref19Right_any x.a wx)
  have HO := Lib.hid (fun wx => name25_any x.owner ho wx)
  have HT := Lib.hid (fun wx => name25_any x.to hto wx)
  have HR := Lib.hid (right_op15 x hop)
  clear hop hto ho ht
  go_enter Tryd.func14, Tryd.ntmps14
  obtain ⟨⟨c0, c1, c2, c3, c4, c5, c6, c7, c8, c9, c10, c11, c12, c13, c14⟩, -⟩ := h1.cells15
  cases hq : P.eqI [0, 0, 0, (x.p.a.fam : Int), (x.p.a.hi : Int), (x.p.a.lo : Int), x.p.bits, (x.a.fam : Int), (x.a.hi : Int), (x.a.lo : Int), (x.d : Int), (x.fr : Int), x.n] [0, 0, 0, 0, 0, 0, 0, 0, 0, 0, 0, 0, 0] [x.owner, x.to] [[], []] with
  | false =>
    have Hf := Lib.hid (show P.rightC x = false by rw [HR.out, hq, Bool.and_false])
    clear HR
    go_wp2_with (go_at_call 37; (with_reducible refine (HB.out _).mono ?_); rintro e w2 ⟨rfl, hb2⟩; have h2 := h1.up hb2; have hA2 := Chain.up hA hb2; obtain ⟨⟨d0, d1, d2, d3, d4, d5, d6, d7, d8, d9, d10, d11, d12, d13, d14⟩, -⟩ := h2.cells15; clear hb2 hA h1 c0 c1 c2 c3 c4 c5 c6 c7 c8 c9 c10 c11 c12 c13 c14)
    all_goals (go_ret; exact ⟨ret_bool Hf.out.symm, hA2⟩)
  | true =>
    have Hf := Lib.hid (show P.rightC x = _ by rw [HR.out, hq, Bool.and_true])
    clear HR
    generalize P.pxOk x.p = bp at *
    generalize P.adOk x.a = ba at *
    generalize P.nameOk x.owner = bo at *
    generalize P.nameOk x.to = bt at *
    go_wp2_with (first
      | (go_at_call 37; (with_reducible refine (HB.out _).mono ?_); rintro e w2 ⟨rfl, hb2⟩; have h2 := h1.up hb2; have hA2 := Chain.up hA hb2; obtain ⟨⟨d0, d1, d2, d3, d4, d5, d6, d7, d8, d9, d10, d11, d12, d13, d14⟩, -⟩ := h2.cells15; clear hb2 hA h1 c0 c1 c2 c3 c4 c5 c6 c7 c8 c9 c10 c11 c12 c13 c14)
      | (go_at_call 38; (with_reducible refine (HP.out _).mono ?_); rintro e w3 ⟨rfl, hb3⟩; have h3 := h2.up hb3; have hA3 := Chain.up hA2 hb3; obtain ⟨⟨dq0, dq1, dq2, dq3, dq4, dq5, dq6, dq7, dq8, dq9, dq10, dq11, dq12, dq13, dq14⟩, -⟩ := h3.cells15; clear hb3 hA2 h2; clear d0 d1 d2 d3 d4 d5 d6 d7 d8 d9 d10 d11 d12 d13 d14)
      | (go_at_call 39; (with_reducible refine (HA.out _).mono ?_); rintro e w4 ⟨rfl, hb4⟩; have h4 := h3.up hb4; have hA4 := Chain.up hA3 hb4; obtain ⟨⟨eq0, eq1, eq2, eq3, eq4, eq5, eq6, eq7, eq8, eq9, eq10, eq11, eq12, eq13, eq14⟩, -⟩ := h4.cells15; clear hb4 hA3 h3; clear dq0 dq1 dq2 dq3 dq4 dq5 dq6 dq7 dq8 dq9 dq10 dq11 dq12 dq13 dq14))
    all_goals (go_ret; refine ⟨ret_bool ?_, by first | exact hA4 | exact hA5 | exact hA6⟩)
    all_goals (first | (rw [Hf.out]; done) | (rw [Hf.out]; first | rfl | (simp [*]; done) | (simp [*]; intros; omega) | (simp [*]; rw [Bool.eq_iff_iff, beq_iff_eq, decide_eq_true_eq]; omega)))
set_option maxRecDepth 100000 in
theorem refRight25_any (x : P.Ca) (ht : P.tyC x) (ho : x.owner.length ≤ 1000000000) (hto : x.to.length ≤ 1000000000) (w : World) : Calls Tryd.prog 14 #[caV x] w fun e w' => e = .returned (.bool (P.rightC x)) ∧ Below w.heap.size w w' := by
  by_cases h1 : 1 ≤ x.op
  · by_cases h2 : x.op ≤ 15
    · rcases (show x.op = 1 ∨ x.op = 2 ∨ x.op = 3 ∨ x.op = 4 ∨ x.op = 5 ∨ x.op = 6 ∨ x.op = 7 ∨ x.op = 8 ∨ x.op = 9 ∨ x.op = 10 ∨ x.op = 11 ∨ x.op = 12 ∨ x.op = 13 ∨ x.op = 14 ∨ x.op = 15 by omega) with h | h | h | h | h | h | h | h | h | h | h | h | h | h | h
      · have h0 := refRight1 x ht ho hto h w
        rw [show caV x = .agg #[.int .u8 1, .int .u8 (x.client : Nat), V64 x.number, .int .u8 (x.p.a.fam : Nat), V64 x.p.a.hi, V64 x.p.a.lo, .int .i64 x.p.bits, .int .u8 (x.a.fam : Nat), V64 x.a.hi, V64 x.a.lo, S x.owner, S x.to, V64 x.d, V64 x.fr, .int .i64 x.n] by unfold caV; rw [h]; rfl]
        exact h0
      · have h0 := refRight2 x ht ho hto h w
        rw [show caV x = .agg #[.int .u8 2, .int .u8 (x.client : Nat), V64 x.number, .int .u8 (x.p.a.fam : Nat), V64 x.p.a.hi, V64 x.p.a.lo, .int .i64 x.p.bits, .int .u8 (x.a.fam : Nat), V64 x.a.hi, V64 x.a.lo, S x.owner, S x.to, V64 x.d, V64 x.fr, .int .i64 x.n] by unfold caV; rw [h]; rfl]
        exact h0
      · have h0 := refRight3 x ht ho hto h w
        rw [show caV x = .agg #[.int .u8 3, .int .u8 (x.client : Nat), V64 x.number, .int .u8 (x.p.a.fam : Nat), V64 x.p.a.hi, V64 x.p.a.lo, .int .i64 x.p.bits, .int .u8 (x.a.fam : Nat), V64 x.a.hi, V64 x.a.lo, S x.owner, S x.to, V64 x.d, V64 x.fr, .int .i64 x.n] by unfold caV; rw [h]; rfl]
        exact h0
      · have h0 := refRight4 x ht ho hto h w
        rw [show caV x = .agg #[.int .u8 4, .int .u8 (x.client : Nat), V64 x.number, .int .u8 (x.p.a.fam : Nat), V64 x.p.a.hi, V64 x.p.a.lo, .int .i64 x.p.bits, .int .u8 (x.a.fam : Nat), V64 x.a.hi, V64 x.a.lo, S x.owner, S x.to, V64 x.d, V64 x.fr, .int .i64 x.n] by unfold caV; rw [h]; rfl]
        exact h0
      · have h0 := refRight5 x ht ho hto h w
        rw [show caV x = .agg #[.int .u8 5, .int .u8 (x.client : Nat), V64 x.number, .int .u8 (x.p.a.fam : Nat), V64 x.p.a.hi, V64 x.p.a.lo, .int .i64 x.p.bits, .int .u8 (x.a.fam : Nat), V64 x.a.hi, V64 x.a.lo, S x.owner, S x.to, V64 x.d, V64 x.fr, .int .i64 x.n] by unfold caV; rw [h]; rfl]
        exact h0
      · have h0 := refRight6 x ht ho hto h w
        rw [show caV x = .agg #[.int .u8 6, .int .u8 (x.client : Nat), V64 x.number, .int .u8 (x.p.a.fam : Nat), V64 x.p.a.hi, V64 x.p.a.lo, .int .i64 x.p.bits, .int .u8 (x.a.fam : Nat), V64 x.a.hi, V64 x.a.lo, S x.owner, S x.to, V64 x.d, V64 x.fr, .int .i64 x.n] by unfold caV; rw [h]; rfl]
        exact h0
      · have h0 := refRight7 x ht ho hto h w
        rw [show caV x = .agg #[.int .u8 7, .int .u8 (x.client : Nat), V64 x.number, .int .u8 (x.p.a.fam : Nat), V64 x.p.a.hi, V64 x.p.a.lo, .int .i64 x.p.bits, .int .u8 (x.a.fam : Nat), V64 x.a.hi, V64 x.a.lo, S x.owner, S x.to, V64 x.d, V64 x.fr, .int .i64 x.n] by unfold caV; rw [h]; rfl]
        exact h0
      · have h0 := refRight8 x ht ho hto h w
        rw [show caV x = .agg #[.int .u8 8, .int .u8 (x.client : Nat), V64 x.number, .int .u8 (x.p.a.fam : Nat), V64 x.p.a.hi, V64 x.p.a.lo, .int .i64 x.p.bits, .int .u8 (x.a.fam : Nat), V64 x.a.hi, V64 x.a.lo, S x.owner, S x.to, V64 x.d, V64 x.fr, .int .i64 x.n] by unfold caV; rw [h]; rfl]
        exact h0
      · have h0 := refRight9 x ht ho hto h w
        rw [show caV x = .agg #[.int .u8 9, .int .u8 (x.client : Nat), V64 x.number, .int .u8 (x.p.a.fam : Nat), V64 x.p.a.hi, V64 x.p.a.lo, .int .i64 x.p.bits, .int .u8 (x.a.fam : Nat), V64 x.a.hi, V64 x.a.lo, S x.owner, S x.to, V64 x.d, V64 x.fr, .int .i64 x.n] by unfold caV; rw [h]; rfl]
        exact h0
      · have h0 := refRight10 x ht ho hto h w
        rw [show caV x = .agg #[.int .u8 10, .int .u8 (x.client : Nat), V64 x.number, .int .u8 (x.p.a.fam : Nat), V64 x.p.a.hi, V64 x.p.a.lo, .int .i64 x.p.bits, .int .u8 (x.a.fam : Nat), V64 x.a.hi, V64 x.a.lo, S x.owner, S x.to, V64 x.d, V64 x.fr, .int .i64 x.n] by unfold caV; rw [h]; rfl]
        exact h0
      · have h0 := refRight11 x ht ho hto h w
        rw [show caV x = .agg #[.int .u8 11, .int .u8 (x.client : Nat), V64 x.number, .int .u8 (x.p.a.fam : Nat), V64 x.p.a.hi, V64 x.p.a.lo, .int .i64 x.p.bits, .int .u8 (x.a.fam : Nat), V64 x.a.hi, V64 x.a.lo, S x.owner, S x.to, V64 x.d, V64 x.fr, .int .i64 x.n] by unfold caV; rw [h]; rfl]
        exact h0
      · have h0 := refRight12 x ht ho hto h w
        rw [show caV x = .agg #[.int .u8 12, .int .u8 (x.client : Nat), V64 x.number, .int .u8 (x.p.a.fam : Nat), V64 x.p.a.hi, V64 x.p.a.lo, .int .i64 x.p.bits, .int .u8 (x.a.fam : Nat), V64 x.a.hi, V64 x.a.lo, S x.owner, S x.to, V64 x.d, V64 x.fr, .int .i64 x.n] by unfold caV; rw [h]; rfl]
        exact h0
      · have h0 := refRight13 x ht ho hto h w
        rw [show caV x = .agg #[.int .u8 13, .int .u8 (x.client : Nat), V64 x.number, .int .u8 (x.p.a.fam : Nat), V64 x.p.a.hi, V64 x.p.a.lo, .int .i64 x.p.bits, .int .u8 (x.a.fam : Nat), V64 x.a.hi, V64 x.a.lo, S x.owner, S x.to, V64 x.d, V64 x.fr, .int .i64 x.n] by unfold caV; rw [h]; rfl]
        exact h0
      · have h0 := refRight14 x ht ho hto h w
        rw [show caV x = .agg #[.int .u8 14, .int .u8 (x.client : Nat), V64 x.number, .int .u8 (x.p.a.fam : Nat), V64 x.p.a.hi, V64 x.p.a.lo, .int .i64 x.p.bits, .int .u8 (x.a.fam : Nat), V64 x.a.hi, V64 x.a.lo, S x.owner, S x.to, V64 x.d, V64 x.fr, .int .i64 x.n] by unfold caV; rw [h]; rfl]
        exact h0
      · have h0 := refRight15 x ht ho hto h w
        rw [show caV x = .agg #[.int .u8 15, .int .u8 (x.client : Nat), V64 x.number, .int .u8 (x.p.a.fam : Nat), V64 x.p.a.hi, V64 x.p.a.lo, .int .i64 x.p.bits, .int .u8 (x.a.fam : Nat), V64 x.a.hi, V64 x.a.lo, S x.owner, S x.to, V64 x.d, V64 x.fr, .int .i64 x.n] by unfold caV; rw [h]; rfl]
        exact h0
    · skip
      have Hf := Lib.hid (right_other x (by omega))
      have h0 := Bx.fresh w 46 #[.int .u8 (x.op : Nat), .int .u8 (x.client : Nat), V64 x.number, .int .u8 (x.p.a.fam : Nat), V64 x.p.a.hi, V64 x.p.a.lo, .int .i64 x.p.bits, .int .u8 (x.a.fam : Nat), V64 x.a.hi, V64 x.a.lo, S x.owner, S x.to, V64 x.d, V64 x.fr, .int .i64 x.n]
      have hA := (Below.refl w.heap.size w).alloc (Nat.le_refl _) (.cells #[.int .u8 (x.op : Nat), .int .u8 (x.client : Nat), V64 x.number, .int .u8 (x.p.a.fam : Nat), V64 x.p.a.hi, V64 x.p.a.lo, .int .i64 x.p.bits, .int .u8 (x.a.fam : Nat), V64 x.a.hi, V64 x.a.lo, S x.owner, S x.to, V64 x.d, V64 x.fr, .int .i64 x.n] 46)
      obtain ⟨⟨c0, -⟩, -⟩ := h0.cells15
      have t1 : decide ((x.op : Int) < 1) = false := decide_eq_false (by omega)
      have t2 : decide ((15 : Int) < (x.op : Int)) = true := decide_eq_true (by omega)
      go_enter Tryd.func14, Tryd.ntmps14
      go_wp2_with fail
      all_goals (go_ret; exact ⟨ret_bool Hf.out.symm, hA⟩)
  · skip
    have Hf := Lib.hid (right_other x (by omega))
    have h0 := Bx.fresh w 46 #[.int .u8 (x.op : Nat), .int .u8 (x.client : Nat), V64 x.number, .int .u8 (x.p.a.fam : Nat), V64 x.p.a.hi, V64 x.p.a.lo, .int .i64 x.p.bits, .int .u8 (x.a.fam : Nat), V64 x.a.hi, V64 x.a.lo, S x.owner, S x.to, V64 x.d, V64 x.fr, .int .i64 x.n]
    have hA := (Below.refl w.heap.size w).alloc (Nat.le_refl _) (.cells #[.int .u8 (x.op : Nat), .int .u8 (x.client : Nat), V64 x.number, .int .u8 (x.p.a.fam : Nat), V64 x.p.a.hi, V64 x.p.a.lo, .int .i64 x.p.bits, .int .u8 (x.a.fam : Nat), V64 x.a.hi, V64 x.a.lo, S x.owner, S x.to, V64 x.d, V64 x.fr, .int .i64 x.n] 46)
    obtain ⟨⟨c0, -⟩, -⟩ := h0.cells15
    have t1 : decide ((x.op : Int) < 1) = true := decide_eq_true (by omega)
    go_enter Tryd.func14, Tryd.ntmps14
    go_wp2_with fail
    all_goals (go_ret; exact ⟨ret_bool Hf.out.symm, hA⟩)
end Go.Proofs.YtcobfoiajdbahaaDoor
