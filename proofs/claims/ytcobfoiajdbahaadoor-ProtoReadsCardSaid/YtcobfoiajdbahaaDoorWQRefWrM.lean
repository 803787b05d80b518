/- The walk of the document's Write, of any known Op. -/
import Derived.Test.YtcobfoiajdbahaaDoorWQRefM

namespace Go.Proofs.YtcobfoiajdbahaaDoor
open Go.RowKit
set_option linter.unusedVariables false
set_option linter.unusedSimpArgs false
set_option maxRecDepth 100000 in
set_option maxHeartbeats 8000000 in
theorem refWrite1 (x : P.Ca) (ht : P.tyC x) (ho : x.owner.length ≤ 20000) (hto : x.to.length ≤ 20000) (hop : x.op = 1) (w : World) : Calls Tryd.prog 16 #[caV x] w fun e w' => e = .returned (S (P.bytesC x)) ∧ Below w.heap.size w w' := by
  have h1 := Bx.fresh w 46 #[.int .u8 (x.op : Nat), .int .u8 (x.client : Nat), V64 x.number, .int .u8 (x.p.a.fam : Nat), V64 x.p.a.hi, V64 x.p.a.lo, .int .i64 x.p.bits, .int .u8 (x.a.fam : Nat), V64 x.a.hi, V64 x.a.lo, S x.owner, S x.to, V64 x.d, V64 x.fr, .int .i64 x.n]
  have hA := (Below.refl w.heap.size w).alloc (Nat.le_refl _) (.cells #[.int .u8 (x.op : Nat), .int .u8 (x.client : Nat), V64 x.number, .int .u8 (x.p.a.fam : Nat), V64 x.p.a.hi, V64 x.p.a.lo, .int .i64 x.p.bits, .int .u8 (x.a.fam : Nat), V64 x.a.hi, V64 x.a.lo, S x.owner, S x.to, V64 x.d, V64 x.fr, .int .i64 x.n] 46)
  have HH := Lib.hid (fun wx => refHead_any x ht.1 ht.2.1 ht.2.2.1 wx)
  obtain ⟨L0, hL0⟩ : ∃ L, L = P.headB x.op x.client x.number := ⟨_, rfl⟩
  have hl0 : L0.length ≤ 10 := by rw [hL0, P.headB_len]; exact Nat.le_refl _
  rw [← hL0] at HH
  have HC1 := Lib.hid (fun wx => refPrefix_any x.p ht.2.2.2.1 wx)
  obtain ⟨T1, hT1⟩ : ∃ T, T = P.pxX x.p := ⟨_, rfl⟩
  have ht1 : T1.length ≤ 20100 := by rw [hT1]; have := P.pxX_le x.p; omega
  rw [← hT1] at HC1
  obtain ⟨L1, hL1⟩ : ∃ L, L = L0 ++ T1 := ⟨_, rfl⟩
  have hl1 : L1.length ≤ 20110 := by rw [hL1, List.length_append]; omega
  have k1 := str_catD L0 T1
  rw [← hL1] at k1
  have a1 : ¬ 9223372036854775807 < L0.length + T1.length := by omega
  have Hres := Lib.hid (show L1 = P.bytesC x by rw [hL1, hL0, hT1]; unfold P.bytesC; rw [hop]; simp [P.fsB, P.use, P.uses, P.usesL, P.fB, hop])
  clear hL0 hL1 hT1
  obtain ⟨⟨c0, c1, c2, c3, c4, c5, c6, c7, c8, c9, c10, c11, c12, c13, c14⟩, -⟩ := h1.cells15
  have t1 : ((x.op : Int) == 1) = true := beq_iff_eq.2 (by omega)
  clear hop
  go_enter Tryd.func16, Tryd.ntmps16
  go_wp2_with (first
    | (go_at_call 43; (with_reducible refine (HH.out _).mono ?_); rintro e w2 ⟨rfl, hb2⟩; have h2 := h1.up hb2; have hA2 := Chain.up hA hb2; obtain ⟨⟨d0, d1, d2, d3, d4, d5, d6, d7, d8, d9, d10, d11, d12, d13, d14⟩, -⟩ := h2.cells15)
    | (go_at_call 44; (with_reducible refine (HC1.out _).mono ?_); rintro e w3 ⟨rfl, hb3⟩; have hA3 := Chain.up hA2 hb3))
  go_ret
  exact ⟨by first | (rw [← Hres.out]; rfl) | (rw [← Hres.out]; simp only [k1]; rfl), hA3⟩
set_option maxRecDepth 100000 in
set_option maxHeartbeats 8000000 in
theorem refWrite2 (x : P.Ca) (ht : P.tyC x) (ho : x.owner.length ≤ 20000) (hto : x.to.length ≤ 20000) (hop : x.op = 2) (w : World) : Calls Tryd.prog 16 #[caV x] w fun e w' => e = .returned (S (P.bytesC x)) ∧ Below w.heap.size w w' := by
  have h1 := Bx.fresh w 46 #[.int .u8 (x.op : Nat), .int .u8 (x.client : Nat), V64 x.number, .int .u8 (x.p.a.fam : Nat), V64 x.p.a.hi, V64 x.p.a.lo, .int .i64 x.p.bits, .int .u8 (x.a.fam : Nat), V64 x.a.hi, V64 x.a.lo, S x.owner, S x.to, V64 x.d, V64 x.fr, .int .i64 x.n]
  have hA := (Below.refl w.heap.size w).alloc (Nat.le_refl _) (.cells #[.int .u8 (x.op : Nat), .int .u8 (x.client : Nat), V64 x.number, .int .u8 (x.p.a.fam : Nat), V64 x.p.a.hi, V64 x.p.a.lo, .int .i64 x.p.bits, .int .u8 (x.a.fam : Nat), V64 x.a.hi, V64 x.a.lo, S x.owner, S x.to, V64 x.d, V64 x.fr, .int .i64 x.n] 46)
  have HH := Lib.hid (fun wx => refHead_any x ht.1 ht.2.1 ht.2.2.1 wx)
  obtain ⟨L0, hL0⟩ : ∃ L, L = P.headB x.op x.client x.number := ⟨_, rfl⟩
  have hl0 : L0.length ≤ 10 := by rw [hL0, P.headB_len]; exact Nat.le_refl _
  rw [← hL0] at HH
  have HC1 := Lib.hid (fun wx => refPrefix_any x.p ht.2.2.2.1 wx)
  obtain ⟨T1, hT1⟩ : ∃ T, T = P.pxX x.p := ⟨_, rfl⟩
  have ht1 : T1.length ≤ 20100 := by rw [hT1]; have := P.pxX_le x.p; omega
  rw [← hT1] at HC1
  obtain ⟨L1, hL1⟩ : ∃ L, L = L0 ++ T1 := ⟨_, rfl⟩
  have hl1 : L1.length ≤ 20110 := by rw [hL1, List.length_append]; omega
  have k1 := str_catD L0 T1
  rw [← hL1] at k1
  have a1 : ¬ 9223372036854775807 < L0.length + T1.length := by omega
  have Hres := Lib.hid (show L1 = P.bytesC x by rw [hL1, hL0, hT1]; unfold P.bytesC; rw [hop]; simp [P.fsB, P.use, P.uses, P.usesL, P.fB, hop])
  clear hL0 hL1 hT1
  obtain ⟨⟨c0, c1, c2, c3, c4, c5, c6, c7, c8, c9, c10, c11, c12, c13, c14⟩, -⟩ := h1.cells15
  have t1 : ((x.op : Int) == 1) = false := beq_eq_false_iff_ne.2 (by omega)
  have t2 : ((x.op : Int) == 2) = true := beq_iff_eq.2 (by omega)
  clear hop
  go_enter Tryd.func16, Tryd.ntmps16
  go_wp2_with (first
    | (go_at_call 43; (with_reducible refine (HH.out _).mono ?_); rintro e w2 ⟨rfl, hb2⟩; have h2 := h1.up hb2; have hA2 := Chain.up hA hb2; obtain ⟨⟨d0, d1, d2, d3, d4, d5, d6, d7, d8, d9, d10, d11, d12, d13, d14⟩, -⟩ := h2.cells15)
    | (go_at_call 44; (with_reducible refine (HC1.out _).mono ?_); rintro e w3 ⟨rfl, hb3⟩; have hA3 := Chain.up hA2 hb3))
  go_ret
  exact ⟨by first | (rw [← Hres.out]; rfl) | (rw [← Hres.out]; simp only [k1]; rfl), hA3⟩
set_option maxRecDepth 100000 in
set_option maxHeartbeats 8000000 in
theorem refWrite3 (x : P.Ca) (ht : P.tyC x) (ho : x.owner.length ≤ 20000) (hto : x.to.length ≤ 20000) (hop : x.op = 3) (w : World) : Calls Tryd.prog 16 #[caV x] w fun e w' => e = .returned (S (P.bytesC x)) ∧ Below w.heap.size w w' := by
  have h1 := Bx.fresh w 46 #[.int .u8 (x.op : Nat), .int .u8 (x.client : Nat), V64 x.number, .int .u8 (x.p.a.fam : Nat), V64 x.p.a.hi, V64 x.p.a.lo, .int .i64 x.p.bits, .int .u8 (x.a.fam : Nat), V64 x.a.hi, V64 x.a.lo, S x.owner, S x.to, V64 x.d, V64 x.fr, .int .i64 x.n]
  have hA := (Below.refl w.heap.size w).alloc (Nat.le_refl _) (.cells #[.int .u8 (x.op : Nat), .int .u8 (x.client : Nat), V64 x.number, .int .u8 (x.p.a.fam : Nat), V64 x.p.a.hi, V64 x.p.a.lo, .int .i64 x.p.bits, .int .u8 (x.a.fam : Nat), V64 x.a.hi, V64 x.a.lo, S x.owner, S x.to, V64 x.d, V64 x.fr, .int .i64 x.n] 46)
  have HH := Lib.hid (fun wx => refHead_any x ht.1 ht.2.1 ht.2.2.1 wx)
  obtain ⟨L0, hL0⟩ : ∃ L, L = P.headB x.op x.client x.number := ⟨_, rfl⟩
  have hl0 : L0.length ≤ 10 := by rw [hL0, P.headB_len]; exact Nat.le_refl _
  rw [← hL0] at HH
  have HC1 := Lib.hid (fun wx => refPrefix_any x.p ht.2.2.2.1 wx)
  obtain ⟨T1, hT1⟩ : ∃ T, T = P.pxX x.p := ⟨_, rfl⟩
  have ht1 : T1.length ≤ 20100 := by rw [hT1]; have := P.pxX_le x.p; omega
  rw [← hT1] at HC1
  obtain ⟨L1, hL1⟩ : ∃ L, L = L0 ++ T1 := ⟨_, rfl⟩
  have hl1 : L1.length ≤ 20110 := by rw [hL1, List.length_append]; omega
  have k1 := str_catD L0 T1
  rw [← hL1] at k1
  have a1 : ¬ 9223372036854775807 < L0.length + T1.length := by omega
  have Hres := Lib.hid (show L1 = P.bytesC x by rw [hL1, hL0, hT1]; unfold P.bytesC; rw [hop]; simp [P.fsB, P.use, P.uses, P.usesL, P.fB, hop])
  clear hL0 hL1 hT1
  obtain ⟨⟨c0, c1, c2, c3, c4, c5, c6, c7, c8, c9, c10, c11, c12, c13, c14⟩, -⟩ := h1.cells15
  have t1 : ((x.op : Int) == 1) = false := beq_eq_false_iff_ne.2 (by omega)
  have t2 : ((x.op : Int) == 2) = false := beq_eq_false_iff_ne.2 (by omega)
  have t3 : ((x.op : Int) == 3) = true := beq_iff_eq.2 (by omega)
  clear hop
  go_enter Tryd.func16, Tryd.ntmps16
  go_wp2_with (first
    | (go_at_call 43; (with_reducible refine (HH.out _).mono ?_); rintro e w2 ⟨rfl, hb2⟩; have h2 := h1.up hb2; have hA2 := Chain.up hA hb2; obtain ⟨⟨d0, d1, d2, d3, d4, d5, d6, d7, d8, d9, d10, d11, d12, d13, d14⟩, -⟩ := h2.cells15)
    | (go_at_call 44; (with_reducible refine (HC1.out _).mono ?_); rintro e w3 ⟨rfl, hb3⟩; have hA3 := Chain.up hA2 hb3))
  go_ret
  exact ⟨by first | (rw [← Hres.out]; rfl) | (rw [← Hres.out]; simp only [k1]; rfl), hA3⟩
set_option maxRecDepth 100000 in
set_option maxHeartbeats 8000000 in
theorem refWrite4 (x : P.Ca) (ht : P.tyC x) (ho : x.owner.length ≤ 20000) (hto : x.to.length ≤ 20000) (hop : x.op = 4) (w : World) : Calls Tryd.prog 16 #[caV x] w fun e w' => e = .returned (S (P.bytesC x)) ∧ Below w.heap.size w w' := by
  have h1 := Bx.fresh w 46 #[.int .u8 (x.op : Nat), .int .u8 (x.client : Nat), V64 x.number, .int .u8 (x.p.a.fam : Nat), V64 x.p.a.hi, V64 x.p.a.lo, .int .i64 x.p.bits, .int .u8 (x.a.fam : Nat), V64 x.a.hi, V64 x.a.lo, S x.owner, S x.to, V64 x.d, V64 x.fr, .int .i64 x.n]
  have hA := (Below.refl w.heap.size w).alloc (Nat.le_refl _) (.cells #[.int .u8 (x.op : Nat), .int .u8 (x.client : Nat), V64 x.number, .int .u8 (x.p.a.fam : Nat), V64 x.p.a.hi, V64 x.p.a.lo, .int .i64 x.p.bits, .int .u8 (x.a.fam : Nat), V64 x.a.hi, V64 x.a.lo, S x.owner, S x.to, V64 x.d, V64 x.fr, .int .i64 x.n] 46)
  have HH := Lib.hid (fun wx => refHead_any x ht.1 ht.2.1 ht.2.2.1 wx)
  obtain ⟨L0, hL0⟩ : ∃ L, L = P.headB x.op x.client x.number := ⟨_, rfl⟩
  have hl0 : L0.length ≤ 10 := by rw [hL0, P.headB_len]; exact Nat.le_refl _
  rw [← hL0] at HH
  have HC1 := Lib.hid (fun wx => refPrefix_any x.p ht.2.2.2.1 wx)
  obtain ⟨T1, hT1⟩ : ∃ T, T = P.pxX x.p := ⟨_, rfl⟩
  have ht1 : T1.length ≤ 20100 := by rw [hT1]; have := P.pxX_le x.p; omega
  rw [← hT1] at HC1
  obtain ⟨L1, hL1⟩ : ∃ L, L = L0 ++ T1 := ⟨_, rfl⟩
  have hl1 : L1.length ≤ 20110 := by rw [hL1, List.length_append]; omega
  have k1 := str_catD L0 T1
  rw [← hL1] at k1
  have a1 : ¬ 9223372036854775807 < L0.length + T1.length := by omega
  have Hres := Lib.hid (show L1 = P.bytesC x by rw [hL1, hL0, hT1]; unfold P.bytesC; rw [hop]; simp [P.fsB, P.use, P.uses, P.usesL, P.fB, hop])
  clear hL0 hL1 hT1
  obtain ⟨⟨c0, c1, c2, c3, c4, c5, c6, c7, c8, c9, c10, c11, c12, c13, c14⟩, -⟩ := h1.cells15
  have t1 : ((x.op : Int) == 1) = false := beq_eq_false_iff_ne.2 (by omega)
  have t2 : ((x.op : Int) == 2) = false := beq_eq_false_iff_ne.2 (by omega)
  have t3 : ((x.op : Int) == 3) = false := beq_eq_false_iff_ne.2 (by omega)
  have t4 : ((x.op : Int) == 4) = true := beq_iff_eq.2 (by omega)
  clear hop
  go_enter Tryd.func16, Tryd.ntmps16
  go_wp2_with (first
    | (go_at_call 43; (with_reducible refine (HH.out _).mono ?_); rintro e w2 ⟨rfl, hb2⟩; have h2 := h1.up hb2; have hA2 := Chain.up hA hb2; obtain ⟨⟨d0, d1, d2, d3, d4, d5, d6, d7, d8, d9, d10, d11, d12, d13, d14⟩, -⟩ := h2.cells15)
    | (go_at_call 44; (with_reducible refine (HC1.out _).mono ?_); rintro e w3 ⟨rfl, hb3⟩; have hA3 := Chain.up hA2 hb3))
  go_ret
  exact ⟨by first | (rw [← Hres.out]; rfl) | (rw [← Hres.out]; simp only [k1]; rfl), hA3⟩
set_option maxRecDepth 100000 in
set_option maxHeartbeats 8000000 in
theorem refWrite5 (x : P.Ca) (ht : P.tyC x) (ho : x.owner.length ≤ 20000) (hto : x.to.length ≤ 20000) (hop : x.op = 5) (w : World) : Calls Tryd.prog 16 #[caV x] w fun e w' => e = .returned (S (P.bytesC x)) ∧ Below w.heap.size w w' := by
  have h1 := Bx.fresh w 46 #[.int .u8 (x.op : Nat), .int .u8 (x.client : Nat), V64 x.number, .int .u8 (x.p.a.fam : Nat), V64 x.p.a.hi, V64 x.p.a.lo, .int .i64 x.p.bits, .int .u8 (x.a.fam : Nat), V64 x.a.hi, V64 x.a.lo, S x.owner, S x.to, V64 x.d, V64 x.fr, .int .i64 x.n]
  have hA := (Below.refl w.heap.size w).alloc (Nat.le_refl _) (.cells #[.int .u8 (x.op : Nat), .int .u8 (x.client : Nat), V64 x.number, .int .u8 (x.p.a.fam : Nat), V64 x.p.a.hi, V64 x.p.a.lo, .int .i64 x.p.bits, .int .u8 (x.a.fam : Nat), V64 x.a.hi, V64 x.a.lo, S x.owner, S x.to, V64 x.d, V64 x.fr, .int .i64 x.n] 46)
  have HH := Lib.hid (fun wx => refHead_any x ht.1 ht.2.1 ht.2.2.1 wx)
  obtain ⟨L0, hL0⟩ : ∃ L, L = P.headB x.op x.client x.number := ⟨_, rfl⟩
  have hl0 : L0.length ≤ 10 := by rw [hL0, P.headB_len]; exact Nat.le_refl _
  rw [← hL0] at HH
  have HC1 := Lib.hid (fun wx => refAddress_any x.a ht.2.2.2.2.1 wx)
  obtain ⟨T1, hT1⟩ : ∃ T, T = P.adX x.a := ⟨_, rfl⟩
  have ht1 : T1.length ≤ 20100 := by rw [hT1]; have := P.adX_le x.a; omega
  rw [← hT1] at HC1
  obtain ⟨L1, hL1⟩ : ∃ L, L = L0 ++ T1 := ⟨_, rfl⟩
  have hl1 : L1.length ≤ 20110 := by rw [hL1, List.length_append]; omega
  have k1 := str_catD L0 T1
  rw [← hL1] at k1
  have a1 : ¬ 9223372036854775807 < L0.length + T1.length := by omega
  have HC2 := Lib.hid (fun wx => refText26_any x.owner ho wx)
  obtain ⟨T2, hT2⟩ : ∃ T, T = P.txB x.owner := ⟨_, rfl⟩
  have ht2 : T2.length ≤ 20100 := by rw [hT2]; have := P.txB_le ho; omega
  rw [← hT2] at HC2
  obtain ⟨L2, hL2⟩ : ∃ L, L = L1 ++ T2 := ⟨_, rfl⟩
  have hl2 : L2.length ≤ 40210 := by rw [hL2, List.length_append]; omega
  have k2 := str_catD L1 T2
  rw [← hL2] at k2
  have a2 : ¬ 9223372036854775807 < L1.length + T2.length := by omega
  have HC3 := Lib.hid (fun wx => row_any x.d ht.2.2.2.2.2.1 wx)
  obtain ⟨T3, hT3⟩ : ∃ T, T = P.row x.d := ⟨_, rfl⟩
  have ht3 : T3.length ≤ 20100 := by rw [hT3]; have := P.row_len9 x.d; omega
  rw [← hT3] at HC3
  obtain ⟨L3, hL3⟩ : ∃ L, L = L2 ++ T3 := ⟨_, rfl⟩
  have hl3 : L3.length ≤ 60310 := by rw [hL3, List.length_append]; omega
  have k3 := str_catD L2 T3
  rw [← hL3] at k3
  have a3 : ¬ 9223372036854775807 < L2.length + T3.length := by omega
  have Hres := Lib.hid (show L3 = P.bytesC x by rw [hL3, hL2, hL1, hL0, hT1, hT2, hT3]; unfold P.bytesC; rw [hop]; simp [P.fsB, P.use, P.uses, P.usesL, P.fB, hop])
  clear hL0 hL1 hL2 hL3 hT1 hT2 hT3
  obtain ⟨⟨c0, c1, c2, c3, c4, c5, c6, c7, c8, c9, c10, c11, c12, c13, c14⟩, -⟩ := h1.cells15
  have t1 : ((x.op : Int) == 1) = false := beq_eq_false_iff_ne.2 (by omega)
  have t2 : ((x.op : Int) == 2) = false := beq_eq_false_iff_ne.2 (by omega)
  have t3 : ((x.op : Int) == 3) = false := beq_eq_false_iff_ne.2 (by omega)
  have t4 : ((x.op : Int) == 4) = false := beq_eq_false_iff_ne.2 (by omega)
  have t5 : ((x.op : Int) == 5) = true := beq_iff_eq.2 (by omega)
  clear hop
  go_enter Tryd.func16, Tryd.ntmps16
  go_upto_region 10 with (go_at_call 43; (with_reducible refine (HH.out _).mono ?_); rintro e w2 ⟨rfl, hb2⟩; have h2 := h1.up hb2; have hA2 := Chain.up hA hb2; have d0 : w2.cell? ⟨w.heap.size, 0, none⟩ = some (.int .u8 (x.op : Nat)) := h2.cell 0)
  refine wp_region_held_drew (S := fun wx => Bx wx w.heap.size 46 #[.int .u8 (x.op : Nat), .int .u8 (x.client : Nat), V64 x.number, .int .u8 (x.p.a.fam : Nat), V64 x.p.a.hi, V64 x.p.a.lo, .int .i64 x.p.bits, .int .u8 (x.a.fam : Nat), V64 x.a.hi, V64 x.a.lo, S x.owner, S x.to, V64 x.d, V64 x.fr, .int .i64 x.n] ∧ Below w.heap.size w wx) (by kernel_rfl) ⟨h2.drew, hA2.drew⟩ (fun hHeld => ?_)
  refine wpAnyH_take (i := 0) (v := ?_) rfl (by kernel_rfl) (by kernel_rfl) (by kernel_rfl) (fun _ _ _ h => h) (Or.inl ⟨by rfl, ?_⟩) hHeld ?_
  rotate_left
  · intro wq hSw; go_simp; (try with_reducible rfl)
  simp only [Act.put, List.getElem_toArray, List.getElem_cons_succ, List.getElem_cons_zero, List.setIfInBounds_toArray, List.set_cons_zero, List.set_cons_succ]
  refine wpAnyH_take (i := 1) (v := ?_) rfl (by kernel_rfl) (by kernel_rfl) (by kernel_rfl) (fun _ _ _ h => h) (Or.inl ⟨by rfl, ?_⟩) hHeld ?_
  rotate_left
  · intro wq hSw; go_simp; (try with_reducible rfl)
  simp only [Act.put, List.getElem_toArray, List.getElem_cons_succ, List.getElem_cons_zero, List.setIfInBounds_toArray, List.set_cons_zero, List.set_cons_succ]
  refine wpAnyH_take (i := 2) (v := ?_) rfl (by kernel_rfl) (by kernel_rfl) (by kernel_rfl) (fun _ _ _ h => h) (Or.inl ⟨by rfl, ?_⟩) hHeld ?_
  rotate_left
  · intro wq hSw; obtain ⟨⟨q0, q1, q2, q3, q4, q5, q6, q7, q8, q9, q10, q11, q12, q13, q14⟩, -⟩ := hSw.1.cells15; go_simp; (try with_reducible rfl)
  simp only [Act.put, List.getElem_toArray, List.getElem_cons_succ, List.getElem_cons_zero, List.setIfInBounds_toArray, List.set_cons_zero, List.set_cons_succ]
  refine wpAnyH_take (i := 5) (v := ?_) rfl (by kernel_rfl) (by kernel_rfl) (by kernel_rfl) (fun _ _ _ h => h) (Or.inl ⟨by rfl, ?_⟩) hHeld ?_
  rotate_left
  · intro wq hSw; go_simp; (try with_reducible rfl)
  simp only [Act.put, List.getElem_toArray, List.getElem_cons_succ, List.getElem_cons_zero, List.setIfInBounds_toArray, List.set_cons_zero, List.set_cons_succ]
  refine wpAnyH_take (i := 6) (v := ?_) rfl (by kernel_rfl) (by kernel_rfl) (by kernel_rfl) (fun _ _ _ h => h) (Or.inl ⟨by rfl, ?_⟩) hHeld ?_
  rotate_left
  · intro wq hSw; obtain ⟨⟨q0, q1, q2, q3, q4, q5, q6, q7, q8, q9, q10, q11, q12, q13, q14⟩, -⟩ := hSw.1.cells15; go_simp; (try with_reducible rfl)
  simp only [Act.put, List.getElem_toArray, List.getElem_cons_succ, List.getElem_cons_zero, List.setIfInBounds_toArray, List.set_cons_zero, List.set_cons_succ]
  refine wpAnyH_take (i := 9) (v := ?_) rfl (by kernel_rfl) (by kernel_rfl) (by kernel_rfl) (fun _ _ _ h => h) (Or.inl ⟨by rfl, ?_⟩) hHeld ?_
  rotate_left
  · intro wq hSw; go_simp; (try with_reducible rfl)
  simp only [Act.put, List.getElem_toArray, List.getElem_cons_succ, List.getElem_cons_zero, List.setIfInBounds_toArray, List.set_cons_zero, List.set_cons_succ]
  refine wpAnyH_take (i := 10) (v := ?_) rfl (by kernel_rfl) (by kernel_rfl) (by kernel_rfl) (fun _ _ _ h => h) (Or.inl ⟨by rfl, ?_⟩) hHeld ?_
  rotate_left
  · intro wq hSw; obtain ⟨⟨q0, q1, q2, q3, q4, q5, q6, q7, q8, q9, q10, q11, q12, q13, q14⟩, -⟩ := hSw.1.cells15; go_simp; (try with_reducible rfl)
  simp only [Act.put, List.getElem_toArray, List.getElem_cons_succ, List.getElem_cons_zero, List.setIfInBounds_toArray, List.set_cons_zero, List.set_cons_succ]
  refine wpAnyH_one (i := 3) (by kernel_rfl) rfl (fun K hK => ?_)
  simp only [List.getElem_toArray, List.getElem_cons_succ, List.getElem_cons_zero]
  go_simp
  (with_reducible refine (HC1.out _).mono ?_)
  rintro e v1 ⟨rfl, hbv1⟩
  have hS1 : Bx v1 w.heap.size 46 #[.int .u8 (x.op : Nat), .int .u8 (x.client : Nat), V64 x.number, .int .u8 (x.p.a.fam : Nat), V64 x.p.a.hi, V64 x.p.a.lo, .int .i64 x.p.bits, .int .u8 (x.a.fam : Nat), V64 x.a.hi, V64 x.a.lo, S x.owner, S x.to, V64 x.d, V64 x.fr, .int .i64 x.n] ∧ Below w.heap.size w v1 := ⟨hHeld.1.up hbv1, Chain.up hHeld.2 hbv1⟩
  refine hK.out _ _ hS1 ?_
  clear hK K
  refine wpAnyH_take (i := 4) (v := ?_) rfl (by kernel_rfl) (by kernel_rfl) (by kernel_rfl) (fun _ _ _ h => h) (Or.inl ⟨by rfl, ?_⟩) hS1 ?_
  rotate_left
  · intro wq hSw; go_simp; (try with_reducible rfl)
  simp only [Act.put, List.getElem_toArray, List.getElem_cons_succ, List.getElem_cons_zero, List.setIfInBounds_toArray, List.set_cons_zero, List.set_cons_succ]
  refine wpAnyH_one (i := 7) (by kernel_rfl) rfl (fun K hK => ?_)
  simp only [List.getElem_toArray, List.getElem_cons_succ, List.getElem_cons_zero]
  go_simp
  (with_reducible refine (HC2.out _).mono ?_)
  rintro e v2 ⟨rfl, hbv2⟩
  have hS2 : Bx v2 w.heap.size 46 #[.int .u8 (x.op : Nat), .int .u8 (x.client : Nat), V64 x.number, .int .u8 (x.p.a.fam : Nat), V64 x.p.a.hi, V64 x.p.a.lo, .int .i64 x.p.bits, .int .u8 (x.a.fam : Nat), V64 x.a.hi, V64 x.a.lo, S x.owner, S x.to, V64 x.d, V64 x.fr, .int .i64 x.n] ∧ Below w.heap.size w v2 := ⟨hS1.1.up hbv2, Chain.up hS1.2 hbv2⟩
  refine hK.out _ _ hS2 ?_
  clear hK K
  refine wpAnyH_take (i := 8) (v := ?_) rfl (by kernel_rfl) (by kernel_rfl) (by kernel_rfl) (fun _ _ _ h => h) (Or.inl ⟨by rfl, ?_⟩) hS2 ?_
  rotate_left
  · intro wq hSw; go_simp; (try with_reducible rfl)
  simp only [Act.put, List.getElem_toArray, List.getElem_cons_succ, List.getElem_cons_zero, List.setIfInBounds_toArray, List.set_cons_zero, List.set_cons_succ]
  refine wpAnyH_one (i := 11) (by kernel_rfl) rfl (fun K hK => ?_)
  simp only [List.getElem_toArray, List.getElem_cons_succ, List.getElem_cons_zero]
  go_simp
  (with_reducible refine (HC3.out _).mono ?_)
  rintro e v3 ⟨rfl, hbv3⟩
  have hS3 : Bx v3 w.heap.size 46 #[.int .u8 (x.op : Nat), .int .u8 (x.client : Nat), V64 x.number, .int .u8 (x.p.a.fam : Nat), V64 x.p.a.hi, V64 x.p.a.lo, .int .i64 x.p.bits, .int .u8 (x.a.fam : Nat), V64 x.a.hi, V64 x.a.lo, S x.owner, S x.to, V64 x.d, V64 x.fr, .int .i64 x.n] ∧ Below w.heap.size w v3 := ⟨hS2.1.up hbv3, Chain.up hS2.2 hbv3⟩
  refine hK.out _ _ hS3 ?_
  clear hK K
  refine wpAnyH_take (i := 12) (v := ?_) rfl (by kernel_rfl) (by kernel_rfl) (by kernel_rfl) (fun _ _ _ h => h) (Or.inl ⟨by rfl, ?_⟩) hS3 ?_
  rotate_left
  · intro wq hSw; go_simp; (try with_reducible rfl)
  simp only [Act.put, List.getElem_toArray, List.getElem_cons_succ, List.getElem_cons_zero, List.setIfInBounds_toArray, List.set_cons_zero, List.set_cons_succ]
  refine wpAnyH_take (i := 13) (v := ?_) rfl (by kernel_rfl) (by kernel_rfl) (by kernel_rfl) (fun _ _ _ h => h) (Or.inl ⟨by rfl, ?_⟩) hS3 ?_
  rotate_left
  · intro wq hSw; go_simp; (try with_reducible rfl)
  simp only [Act.put, List.getElem_toArray, List.getElem_cons_succ, List.getElem_cons_zero, List.setIfInBounds_toArray, List.set_cons_zero, List.set_cons_succ]
  refine wpAnyH_done (by kernel_rfl) ?_ _
  go_wp2_with fail
  go_ret
  exact ⟨by first | (rw [← Hres.out]; rfl) | (rw [← Hres.out]; simp only [k1, k2, k3]; rfl), hS3.2⟩
set_option maxRecDepth 100000 in
set_option maxHeartbeats 8000000 in
theorem refWrite7 (x : P.Ca) (ht : P.tyC x) (ho : x.owner.length ≤ 20000) (hto : x.to.length ≤ 20000) (hop : x.op = 7) (w : World) : Calls Tryd.prog 16 #[caV x] w fun e w' => e = .returned (S (P.bytesC x)) ∧ Below w.heap.size w w' := by
  have h1 := Bx.fresh w 46 #[.int .u8 (x.op : Nat), .int .u8 (x.client : Nat), V64 x.number, .int .u8 (x.p.a.fam : Nat), V64 x.p.a.hi, V64 x.p.a.lo, .int .i64 x.p.bits, .int .u8 (x.a.fam : Nat), V64 x.a.hi, V64 x.a.lo, S x.owner, S x.to, V64 x.d, V64 x.fr, .int .i64 x.n]
  have hA := (Below.refl w.heap.size w).alloc (Nat.le_refl _) (.cells #[.int .u8 (x.op : Nat), .int .u8 (x.client : Nat), V64 x.number, .int .u8 (x.p.a.fam : Nat), V64 x.p.a.hi, V64 x.p.a.lo, .int .i64 x.p.bits, .int .u8 (x.a.fam : Nat), V64 x.a.hi, V64 x.a.lo, S x.owner, S x.to, V64 x.d, V64 x.fr, .int .i64 x.n] 46)
  have HH := Lib.hid (fun wx => refHead_any x ht.1 ht.2.1 ht.2.2.1 wx)
  obtain ⟨L0, hL0⟩ : ∃ L, L = P.headB x.op x.client x.number := ⟨_, rfl⟩
  have hl0 : L0.length ≤ 10 := by rw [hL0, P.headB_len]; exact Nat.le_refl _
  rw [← hL0] at HH
  have HC1 := Lib.hid (fun wx => refAddress_any x.a ht.2.2.2.2.1 wx)
  obtain ⟨T1, hT1⟩ : ∃ T, T = P.adX x.a := ⟨_, rfl⟩
  have ht1 : T1.length ≤ 20100 := by rw [hT1]; have := P.adX_le x.a; omega
  rw [← hT1] at HC1
  obtain ⟨L1, hL1⟩ : ∃ L, L = L0 ++ T1 := ⟨_, rfl⟩
  have hl1 : L1.length ≤ 20110 := by rw [hL1, List.length_append]; omega
  have k1 := str_catD L0 T1
  rw [← hL1] at k1
  have a1 : ¬ 9223372036854775807 < L0.length + T1.length := by omega
  have HC2 := Lib.hid (fun wx => refText26_any x.owner ho wx)
  obtain ⟨T2, hT2⟩ : ∃ T, T = P.txB x.owner := ⟨_, rfl⟩
  have ht2 : T2.length ≤ 20100 := by rw [hT2]; have := P.txB_le ho; omega
  rw [← hT2] at HC2
  obtain ⟨L2, hL2⟩ : ∃ L, L = L1 ++ T2 := ⟨_, rfl⟩
  have hl2 : L2.length ≤ 40210 := by rw [hL2, List.length_append]; omega
  have k2 := str_catD L1 T2
  rw [← hL2] at k2
  have a2 : ¬ 9223372036854775807 < L1.length + T2.length := by omega
  have HC3 := Lib.hid (fun wx => row_any x.d ht.2.2.2.2.2.1 wx)
  obtain ⟨T3, hT3⟩ : ∃ T, T = P.row x.d := ⟨_, rfl⟩
  have ht3 : T3.length ≤ 20100 := by rw [hT3]; have := P.row_len9 x.d; omega
  rw [← hT3] at HC3
  obtain ⟨L3, hL3⟩ : ∃ L, L = L2 ++ T3 := ⟨_, rfl⟩
  have hl3 : L3.length ≤ 60310 := by rw [hL3, List.length_append]; omega
  have k3 := str_catD L2 T3
  rw [← hL3] at k3
  have a3 : ¬ 9223372036854775807 < L2.length + T3.length := by omega
  have Hres := Lib.hid (show L3 = P.bytesC x by rw [hL3, hL2, hL1, hL0, hT1, hT2, hT3]; unfold P.bytesC; rw [hop]; simp [P.fsB, P.use, P.uses, P.usesL, P.fB, hop])
  clear hL0 hL1 hL2 hL3 hT1 hT2 hT3
  obtain ⟨⟨c0, c1, c2, c3, c4, c5, c6, c7, c8, c9, c10, c11, c12, c13, c14⟩, -⟩ := h1.cells15
  have t1 : ((x.op : Int) == 1) = false := beq_eq_false_iff_ne.2 (by omega)
  have t2 : ((x.op : Int) == 2) = false := beq_eq_false_iff_ne.2 (by omega)
  have t3 : ((x.op : Int) == 3) = false := beq_eq_false_iff_ne.2 (by omega)
  have t4 : ((x.op : Int) == 4) = false := beq_eq_false_iff_ne.2 (by omega)
  have t5 : ((x.op : Int) == 5) = false := beq_eq_false_iff_ne.2 (by omega)
  have t7 : ((x.op : Int) == 7) = true := beq_iff_eq.2 (by omega)
  clear hop
  go_enter Tryd.func16, Tryd.ntmps16
  go_upto_region 10 with (go_at_call 43; (with_reducible refine (HH.out _).mono ?_); rintro e w2 ⟨rfl, hb2⟩; have h2 := h1.up hb2; have hA2 := Chain.up hA hb2; have d0 : w2.cell? ⟨w.heap.size, 0, none⟩ = some (.int .u8 (x.op : Nat)) := h2.cell 0)
  refine wp_region_held_drew (S := fun wx => Bx wx w.heap.size 46 #[.int .u8 (x.op : Nat), .int .u8 (x.client : Nat), V64 x.number, .int .u8 (x.p.a.fam : Nat), V64 x.p.a.hi, V64 x.p.a.lo, .int .i64 x.p.bits, .int .u8 (x.a.fam : Nat), V64 x.a.hi, V64 x.a.lo, S x.owner, S x.to, V64 x.d, V64 x.fr, .int .i64 x.n] ∧ Below w.heap.size w wx) (by kernel_rfl) ⟨h2.drew, hA2.drew⟩ (fun hHeld => ?_)
  refine wpAnyH_take (i := 0) (v := ?_) rfl (by kernel_rfl) (by kernel_rfl) (by kernel_rfl) (fun _ _ _ h => h) (Or.inl ⟨by rfl, ?_⟩) hHeld ?_
  rotate_left
  · intro wq hSw; go_simp; (try with_reducible rfl)
  simp only [Act.put, List.getElem_toArray, List.getElem_cons_succ, List.getElem_cons_zero, List.setIfInBounds_toArray, List.set_cons_zero, List.set_cons_succ]
  refine wpAnyH_take (i := 1) (v := ?_) rfl (by kernel_rfl) (by kernel_rfl) (by kernel_rfl) (fun _ _ _ h => h) (Or.inl ⟨by rfl, ?_⟩) hHeld ?_
  rotate_left
  · intro wq hSw; go_simp; (try with_reducible rfl)
  simp only [Act.put, List.getElem_toArray, List.getElem_cons_succ, List.getElem_cons_zero, List.setIfInBounds_toArray, List.set_cons_zero, List.set_cons_succ]
  refine wpAnyH_take (i := 2) (v := ?_) rfl (by kernel_rfl) (by kernel_rfl) (by kernel_rfl) (fun _ _ _ h => h) (Or.inl ⟨by rfl, ?_⟩) hHeld ?_
  rotate_left
  · intro wq hSw; obtain ⟨⟨q0, q1, q2, q3, q4, q5, q6, q7, q8, q9, q10, q11, q12, q13, q14⟩, -⟩ := hSw.1.cells15; go_simp; (try with_reducible rfl)
  simp only [Act.put, List.getElem_toArray, List.getElem_cons_succ, List.getElem_cons_zero, List.setIfInBounds_toArray, List.set_cons_zero, List.set_cons_succ]
  refine wpAnyH_take (i := 5) (v := ?_) rfl (by kernel_rfl) (by kernel_rfl) (by kernel_rfl) (fun _ _ _ h => h) (Or.inl ⟨by rfl, ?_⟩) hHeld ?_
  rotate_left
  · intro wq hSw; go_simp; (try with_reducible rfl)
  simp only [Act.put, List.getElem_toArray, List.getElem_cons_succ, List.getElem_cons_zero, List.setIfInBounds_toArray, List.set_cons_zero, List.set_cons_succ]
  refine wpAnyH_take (i := 6) (v := ?_) rfl (by kernel_rfl) (by kernel_rfl) (by kernel_rfl) (fun _ _ _ h => h) (Or.inl ⟨by rfl, ?_⟩) hHeld ?_
  rotate_left
  · intro wq hSw; obtain ⟨⟨q0, q1, q2, q3, q4, q5, q6, q7, q8, q9, q10, q11, q12, q13, q14⟩, -⟩ := hSw.1.cells15; go_simp; (try with_reducible rfl)
  simp only [Act.put, List.getElem_toArray, List.getElem_cons_succ, List.getElem_cons_zero, List.setIfInBounds_toArray, List.set_cons_zero, List.set_cons_succ]
  refine wpAnyH_take (i := 9) (v := ?_) rfl (by kernel_rfl) (by kernel_rfl) (by kernel_rfl) (fun _ _ _ h => h) (Or.inl ⟨by rfl, ?_⟩) hHeld ?_
  rotate_left
  · intro wq hSw; go_simp; (try with_reducible rfl)
  simp only [Act.put, List.getElem_toArray, List.getElem_cons_succ, List.getElem_cons_zero, List.setIfInBounds_toArray, List.set_cons_zero, List.set_cons_succ]
  refine wpAnyH_take (i := 10) (v := ?_) rfl (by kernel_rfl) (by kernel_rfl) (by kernel_rfl) (fun _ _ _ h => h) (Or.inl ⟨by rfl, ?_⟩) hHeld ?_
  rotate_left
  · intro wq hSw; obtain ⟨⟨q0, q1, q2, q3, q4, q5, q6, q7, q8, q9, q10, q11, q12, q13, q14⟩, -⟩ := hSw.1.cells15; go_simp; (try with_reducible rfl)
  simp only [Act.put, List.getElem_toArray, List.getElem_cons_succ, List.getElem_cons_zero, List.setIfInBounds_toArray, List.set_cons_zero, List.set_cons_succ]
  refine wpAnyH_one (i := 3) (by kernel_rfl) rfl (fun K hK => ?_)
  simp only [List.getElem_toArray, List.getElem_cons_succ, List.getElem_cons_zero]
  go_simp
  (with_reducible refine (HC1.out _).mono ?_)
  rintro e v1 ⟨rfl, hbv1⟩
  have hS1 : Bx v1 w.heap.size 46 #[.int .u8 (x.op : Nat), .int .u8 (x.client : Nat), V64 x.number, .int .u8 (x.p.a.fam : Nat), V64 x.p.a.hi, V64 x.p.a.lo, .int .i64 x.p.bits, .int .u8 (x.a.fam : Nat), V64 x.a.hi, V64 x.a.lo, S x.owner, S x.to, V64 x.d, V64 x.fr, .int .i64 x.n] ∧ Below w.heap.size w v1 := ⟨hHeld.1.up hbv1, Chain.up hHeld.2 hbv1⟩
  refine hK.out _ _ hS1 ?_
  clear hK K
  refine wpAnyH_take (i := 4) (v := ?_) rfl (by kernel_rfl) (by kernel_rfl) (by kernel_rfl) (fun _ _ _ h => h) (Or.inl ⟨by rfl, ?_⟩) hS1 ?_
  rotate_left
  · intro wq hSw; go_simp; (try with_reducible rfl)
  simp only [Act.put, List.getElem_toArray, List.getElem_cons_succ, List.getElem_cons_zero, List.setIfInBounds_toArray, List.set_cons_zero, List.set_cons_succ]
  refine wpAnyH_one (i := 7) (by kernel_rfl) rfl (fun K hK => ?_)
  simp only [List.getElem_toArray, List.getElem_cons_succ, List.getElem_cons_zero]
  go_simp
  (with_reducible refine (HC2.out _).mono ?_)
  rintro e v2 ⟨rfl, hbv2⟩
  have hS2 : Bx v2 w.heap.size 46 #[.int .u8 (x.op : Nat), .int .u8 (x.client : Nat), V64 x.number, .int .u8 (x.p.a.fam : Nat), V64 x.p.a.hi, V64 x.p.a.lo, .int .i64 x.p.bits, .int .u8 (x.a.fam : Nat), V64 x.a.hi, V64 x.a.lo, S x.owner, S x.to, V64 x.d, V64 x.fr, .int .i64 x.n] ∧ Below w.heap.size w v2 := ⟨hS1.1.up hbv2, Chain.up hS1.2 hbv2⟩
  refine hK.out _ _ hS2 ?_
  clear hK K
  refine wpAnyH_take (i := 8) (v := ?_) rfl (by kernel_rfl) (by kernel_rfl) (by kernel_rfl) (fun _ _ _ h => h) (Or.inl ⟨by rfl, ?_⟩) hS2 ?_
  rotate_left
  · intro wq hSw; go_simp; (try with_reducible rfl)
  simp only [Act.put, List.getElem_toArray, List.getElem_cons_succ, List.getElem_cons_zero, List.setIfInBounds_toArray, List.set_cons_zero, List.set_cons_succ]
  refine wpAnyH_one (i := 11) (by kernel_rfl) rfl (fun K hK => ?_)
  simp only [List.getElem_toArray, List.getElem_cons_succ, List.getElem_cons_zero]
  go_simp
  (with_reducible refine (HC3.out _).mono ?_)
  rintro e v3 ⟨rfl, hbv3⟩
  have hS3 : Bx v3 w.heap.size 46 #[.int .u8 (x.op : Nat), .int .u8 (x.client : Nat), V64 x.number, .int .u8 (x.p.a.fam : Nat), V64 x.p.a.hi, V64 x.p.a.lo, .int .i64 x.p.bits, .int .u8 (x.a.fam : Nat), V64 x.a.hi, V64 x.a.lo, S x.owner, S x.to, V64 x.d, V64 x.fr, .int .i64 x.n] ∧ Below w.heap.size w v3 := ⟨hS2.1.up hbv3, Chain.up hS2.2 hbv3⟩
  refine hK.out _ _ hS3 ?_
  clear hK K
  refine wpAnyH_take (i := 12) (v := ?_) rfl (by kernel_rfl) (by kernel_rfl) (by kernel_rfl) (fun _ _ _ h => h) (Or.inl ⟨by rfl, ?_⟩) hS3 ?_
  rotate_left
  · intro wq hSw; go_simp; (try with_reducible rfl)
  simp only [Act.put, List.getElem_toArray, List.getElem_cons_succ, List.getElem_cons_zero, List.setIfInBounds_toArray, List.set_cons_zero, List.set_cons_succ]
  refine wpAnyH_take (i := 13) (v := ?_) rfl (by kernel_rfl) (by kernel_rfl) (by kernel_rfl) (fun _ _ _ h => h) (Or.inl ⟨by rfl, ?_⟩) hS3 ?_
  rotate_left
  · intro wq hSw; go_simp; (try with_reducible rfl)
  simp only [Act.put, List.getElem_toArray, List.getElem_cons_succ, List.getElem_cons_zero, List.setIfInBounds_toArray, List.set_cons_zero, List.set_cons_succ]
  refine wpAnyH_done (by kernel_rfl) ?_ _
  go_wp2_with fail
  go_ret
  exact ⟨by first | (rw [← Hres.out]; rfl) | (rw [← Hres.out]; simp only [k1, k2, k3]; rfl), hS3.2⟩
set_option maxRecDepth 100000 in
set_option maxHeartbeats 8000000 in
theorem refWrite6 (x : P.Ca) (ht : P.tyC x) (ho : x.owner.length ≤ 20000) (hto : x.to.length ≤ 20000) (hop : x.op = 6) (w : World) : Calls Tryd.prog 16 #[caV x] w fun e w' => e = .returned (S (P.bytesC x)) ∧ Below w.heap.size w w' := by
  have h1 := Bx.fresh w 46 #[.int .u8 (x.op : Nat), .int .u8 (x.client : Nat), V64 x.number, .int .u8 (x.p.a.fam : Nat), V64 x.p.a.hi, V64 x.p.a.lo, .int .i64 x.p.bits, .int .u8 (x.a.fam : Nat), V64 x.a.hi, V64 x.a.lo, S x.owner, S x.to, V64 x.d, V64 x.fr, .int .i64 x.n]
  have hA := (Below.refl w.heap.size w).alloc (Nat.le_refl _) (.cells #[.int .u8 (x.op : Nat), .int .u8 (x.client : Nat), V64 x.number, .int .u8 (x.p.a.fam : Nat), V64 x.p.a.hi, V64 x.p.a.lo, .int .i64 x.p.bits, .int .u8 (x.a.fam : Nat), V64 x.a.hi, V64 x.a.lo, S x.owner, S x.to, V64 x.d, V64 x.fr, .int .i64 x.n] 46)
  have HH := Lib.hid (fun wx => refHead_any x ht.1 ht.2.1 ht.2.2.1 wx)
  obtain ⟨L0, hL0⟩ : ∃ L, L = P.headB x.op x.client x.number := ⟨_, rfl⟩
  have hl0 : L0.length ≤ 10 := by rw [hL0, P.headB_len]; exact Nat.le_refl _
  rw [← hL0] at HH
  have HC1 := Lib.hid (fun wx => refPrefix_any x.p ht.2.2.2.1 wx)
  obtain ⟨T1, hT1⟩ : ∃ T, T = P.pxX x.p := ⟨_, rfl⟩
  have ht1 : T1.length ≤ 20100 := by rw [hT1]; have := P.pxX_le x.p; omega
  rw [← hT1] at HC1
  obtain ⟨L1, hL1⟩ : ∃ L, L = L0 ++ T1 := ⟨_, rfl⟩
  have hl1 : L1.length ≤ 20110 := by rw [hL1, List.length_append]; omega
  have k1 := str_catD L0 T1
  rw [← hL1] at k1
  have a1 : ¬ 9223372036854775807 < L0.length + T1.length := by omega
  have HC2 := Lib.hid (fun wx => refText26_any x.owner ho wx)
  obtain ⟨T2, hT2⟩ : ∃ T, T = P.txB x.owner := ⟨_, rfl⟩
  have ht2 : T2.length ≤ 20100 := by rw [hT2]; have := P.txB_le ho; omega
  rw [← hT2] at HC2
  obtain ⟨L2, hL2⟩ : ∃ L, L = L1 ++ T2 := ⟨_, rfl⟩
  have hl2 : L2.length ≤ 40210 := by rw [hL2, List.length_append]; omega
  have k2 := str_catD L1 T2
  rw [← hL2] at k2
  have a2 : ¬ 9223372036854775807 < L1.length + T2.length := by omega
  have HC3 := Lib.hid (fun wx => row_any x.d ht.2.2.2.2.2.1 wx)
  obtain ⟨T3, hT3⟩ : ∃ T, T = P.row x.d := ⟨_, rfl⟩
  have ht3 : T3.length ≤ 20100 := by rw [hT3]; have := P.row_len9 x.d; omega
  rw [← hT3] at HC3
  obtain ⟨L3, hL3⟩ : ∃ L, L = L2 ++ T3 := ⟨_, rfl⟩
  have hl3 : L3.length ≤ 60310 := by rw [hL3, List.length_append]; omega
  have k3 := str_catD L2 T3
  rw [← hL3] at k3
  have a3 : ¬ 9223372036854775807 < L2.length + T3.length := by omega
  have Hres := Lib.hid (show L3 = P.bytesC x by rw [hL3, hL2, hL1, hL0, hT1, hT2, hT3]; unfold P.bytesC; rw [hop]; simp [P.fsB, P.use, P.uses, P.usesL, P.fB, hop])
  clear hL0 hL1 hL2 hL3 hT1 hT2 hT3
  obtain ⟨⟨c0, c1, c2, c3, c4, c5, c6, c7, c8, c9, c10, c11, c12, c13, c14⟩, -⟩ := h1.cells15
  have t1 : ((x.op : Int) == 1) = false := beq_eq_false_iff_ne.2 (by omega)
  have t2 : ((x.op : Int) == 2) = false := beq_eq_false_iff_ne.2 (by omega)
  have t3 : ((x.op : Int) == 3) = false := beq_eq_false_iff_ne.2 (by omega)
  have t4 : ((x.op : Int) == 4) = false := beq_eq_false_iff_ne.2 (by omega)
  have t5 : ((x.op : Int) == 5) = false := beq_eq_false_iff_ne.2 (by omega)
  have t7 : ((x.op : Int) == 7) = false := beq_eq_false_iff_ne.2 (by omega)
  have t6 : ((x.op : Int) == 6) = true := beq_iff_eq.2 (by omega)
  clear hop
  go_enter Tryd.func16, Tryd.ntmps16
  go_upto_region 12 with (go_at_call 43; (with_reducible refine (HH.out _).mono ?_); rintro e w2 ⟨rfl, hb2⟩; have h2 := h1.up hb2; have hA2 := Chain.up hA hb2; have d0 : w2.cell? ⟨w.heap.size, 0, none⟩ = some (.int .u8 (x.op : Nat)) := h2.cell 0)
  refine wp_region_held_drew (S := fun wx => Bx wx w.heap.size 46 #[.int .u8 (x.op : Nat), .int .u8 (x.client : Nat), V64 x.number, .int .u8 (x.p.a.fam : Nat), V64 x.p.a.hi, V64 x.p.a.lo, .int .i64 x.p.bits, .int .u8 (x.a.fam : Nat), V64 x.a.hi, V64 x.a.lo, S x.owner, S x.to, V64 x.d, V64 x.fr, .int .i64 x.n] ∧ Below w.heap.size w wx) (by kernel_rfl) ⟨h2.drew, hA2.drew⟩ (fun hHeld => ?_)
  refine wpAnyH_take (i := 0) (v := ?_) rfl (by kernel_rfl) (by kernel_rfl) (by kernel_rfl) (fun _ _ _ h => h) (Or.inl ⟨by rfl, ?_⟩) hHeld ?_
  rotate_left
  · intro wq hSw; go_simp; (try with_reducible rfl)
  simp only [Act.put, List.getElem_toArray, List.getElem_cons_succ, List.getElem_cons_zero, List.setIfInBounds_toArray, List.set_cons_zero, List.set_cons_succ]
  refine wpAnyH_take (i := 1) (v := ?_) rfl (by kernel_rfl) (by kernel_rfl) (by kernel_rfl) (fun _ _ _ h => h) (Or.inl ⟨by rfl, ?_⟩) hHeld ?_
  rotate_left
  · intro wq hSw; go_simp; (try with_reducible rfl)
  simp only [Act.put, List.getElem_toArray, List.getElem_cons_succ, List.getElem_cons_zero, List.setIfInBounds_toArray, List.set_cons_zero, List.set_cons_succ]
  refine wpAnyH_take (i := 2) (v := ?_) rfl (by kernel_rfl) (by kernel_rfl) (by kernel_rfl) (fun _ _ _ h => h) (Or.inl ⟨by rfl, ?_⟩) hHeld ?_
  rotate_left
  · intro wq hSw; obtain ⟨⟨q0, q1, q2, q3, q4, q5, q6, q7, q8, q9, q10, q11, q12, q13, q14⟩, -⟩ := hSw.1.cells15; go_simp; (try with_reducible rfl)
  simp only [Act.put, List.getElem_toArray, List.getElem_cons_succ, List.getElem_cons_zero, List.setIfInBounds_toArray, List.set_cons_zero, List.set_cons_succ]
  refine wpAnyH_take (i := 5) (v := ?_) rfl (by kernel_rfl) (by kernel_rfl) (by kernel_rfl) (fun _ _ _ h => h) (Or.inl ⟨by rfl, ?_⟩) hHeld ?_
  rotate_left
  · intro wq hSw; go_simp; (try with_reducible rfl)
  simp only [Act.put, List.getElem_toArray, List.getElem_cons_succ, List.getElem_cons_zero, List.setIfInBounds_toArray, List.set_cons_zero, List.set_cons_succ]
  refine wpAnyH_take (i := 6) (v := ?_) rfl (by kernel_rfl) (by kernel_rfl) (by kernel_rfl) (fun _ _ _ h => h) (Or.inl ⟨by rfl, ?_⟩) hHeld ?_
  rotate_left
  · intro wq hSw; obtain ⟨⟨q0, q1, q2, q3, q4, q5, q6, q7, q8, q9, q10, q11, q12, q13, q14⟩, -⟩ := hSw.1.cells15; go_simp; (try with_reducible rfl)
  simp only [Act.put, List.getElem_toArray, List.getElem_cons_succ, List.getElem_cons_zero, List.setIfInBounds_toArray, List.set_cons_zero, List.set_cons_succ]
  refine wpAnyH_take (i := 9) (v := ?_) rfl (by kernel_rfl) (by kernel_rfl) (by kernel_rfl) (fun _ _ _ h => h) (Or.inl ⟨by rfl, ?_⟩) hHeld ?_
  rotate_left
  · intro wq hSw; go_simp; (try with_reducible rfl)
  simp only [Act.put, List.getElem_toArray, List.getElem_cons_succ, List.getElem_cons_zero, List.setIfInBounds_toArray, List.set_cons_zero, List.set_cons_succ]
  refine wpAnyH_take (i := 10) (v := ?_) rfl (by kernel_rfl) (by kernel_rfl) (by kernel_rfl) (fun _ _ _ h => h) (Or.inl ⟨by rfl, ?_⟩) hHeld ?_
  rotate_left
  · intro wq hSw; obtain ⟨⟨q0, q1, q2, q3, q4, q5, q6, q7, q8, q9, q10, q11, q12, q13, q14⟩, -⟩ := hSw.1.cells15; go_simp; (try with_reducible rfl)
  simp only [Act.put, List.getElem_toArray, List.getElem_cons_succ, List.getElem_cons_zero, List.setIfInBounds_toArray, List.set_cons_zero, List.set_cons_succ]
  refine wpAnyH_one (i := 3) (by kernel_rfl) rfl (fun K hK => ?_)
  simp only [List.getElem_toArray, List.getElem_cons_succ, List.getElem_cons_zero]
  go_simp
  (with_reducible refine (HC1.out _).mono ?_)
  rintro e v1 ⟨rfl, hbv1⟩
  have hS1 : Bx v1 w.heap.size 46 #[.int .u8 (x.op : Nat), .int .u8 (x.client : Nat), V64 x.number, .int .u8 (x.p.a.fam : Nat), V64 x.p.a.hi, V64 x.p.a.lo, .int .i64 x.p.bits, .int .u8 (x.a.fam : Nat), V64 x.a.hi, V64 x.a.lo, S x.owner, S x.to, V64 x.d, V64 x.fr, .int .i64 x.n] ∧ Below w.heap.size w v1 := ⟨hHeld.1.up hbv1, Chain.up hHeld.2 hbv1⟩
  refine hK.out _ _ hS1 ?_
  clear hK K
  refine wpAnyH_take (i := 4) (v := ?_) rfl (by kernel_rfl) (by kernel_rfl) (by kernel_rfl) (fun _ _ _ h => h) (Or.inl ⟨by rfl, ?_⟩) hS1 ?_
  rotate_left
  · intro wq hSw; go_simp; (try with_reducible rfl)
  simp only [Act.put, List.getElem_toArray, List.getElem_cons_succ, List.getElem_cons_zero, List.setIfInBounds_toArray, List.set_cons_zero, List.set_cons_succ]
  refine wpAnyH_one (i := 7) (by kernel_rfl) rfl (fun K hK => ?_)
  simp only [List.getElem_toArray, List.getElem_cons_succ, List.getElem_cons_zero]
  go_simp
  (with_reducible refine (HC2.out _).mono ?_)
  rintro e v2 ⟨rfl, hbv2⟩
  have hS2 : Bx v2 w.heap.size 46 #[.int .u8 (x.op : Nat), .int .u8 (x.client : Nat), V64 x.number, .int .u8 (x.p.a.fam : Nat), V64 x.p.a.hi, V64 x.p.a.lo, .int .i64 x.p.bits, .int .u8 (x.a.fam : Nat), V64 x.a.hi, V64 x.a.lo, S x.owner, S x.to, V64 x.d, V64 x.fr, .int .i64 x.n] ∧ Below w.heap.size w v2 := ⟨hS1.1.up hbv2, Chain.up hS1.2 hbv2⟩
  refine hK.out _ _ hS2 ?_
  clear hK K
  refine wpAnyH_take (i := 8) (v := ?_) rfl (by kernel_rfl) (by kernel_rfl) (by kernel_rfl) (fun _ _ _ h => h) (Or.inl ⟨by rfl, ?_⟩) hS2 ?_
  rotate_left
  · intro wq hSw; go_simp; (try with_reducible rfl)
  simp only [Act.put, List.getElem_toArray, List.getElem_cons_succ, List.getElem_cons_zero, List.setIfInBounds_toArray, List.set_cons_zero, List.set_cons_succ]
  refine wpAnyH_one (i := 11) (by kernel_rfl) rfl (fun K hK => ?_)
  simp only [List.getElem_toArray, List.getElem_cons_succ, List.getElem_cons_zero]
  go_simp
  (with_reducible refine (HC3.out _).mono ?_)
  rintro e v3 ⟨rfl, hbv3⟩
  have hS3 : Bx v3 w.heap.size 46 #[.int .u8 (x.op : Nat), .int .u8 (x.client : Nat), V64 x.number, .int .u8 (x.p.a.fam : Nat), V64 x.p.a.hi, V64 x.p.a.lo, .int .i64 x.p.bits, .int .u8 (x.a.fam : Nat), V64 x.a.hi, V64 x.a.lo, S x.owner, S x.to, V64 x.d, V64 x.fr, .int .i64 x.n] ∧ Below w.heap.size w v3 := ⟨hS2.1.up hbv3, Chain.up hS2.2 hbv3⟩
  refine hK.out _ _ hS3 ?_
  clear hK K
  refine wpAnyH_take (i := 12) (v := ?_) rfl (by kernel_rfl) (by kernel_rfl) (by kernel_rfl) (fun _ _ _ h => h) (Or.inl ⟨by rfl, ?_⟩) hS3 ?_
  rotate_left
  · intro wq hSw; go_simp; (try with_reducible rfl)
  simp only [Act.put, List.getElem_toArray, List.getElem_cons_succ, List.getElem_cons_zero, List.setIfInBounds_toArray, List.set_cons_zero, List.set_cons_succ]
  refine wpAnyH_take (i := 13) (v := ?_) rfl (by kernel_rfl) (by kernel_rfl) (by kernel_rfl) (fun _ _ _ h => h) (Or.inl ⟨by rfl, ?_⟩) hS3 ?_
  rotate_left
  · intro wq hSw; go_simp; (try with_reducible rfl)
  simp only [Act.put, List.getElem_toArray, List.getElem_cons_succ, List.getElem_cons_zero, List.setIfInBounds_toArray, List.set_cons_zero, List.set_cons_succ]
  refine wpAnyH_done (by kernel_rfl) ?_ _
  go_wp2_with fail
  go_ret
  exact ⟨by first | (rw [← Hres.out]; rfl) | (rw [← Hres.out]; simp only [k1, k2, k3]; rfl), hS3.2⟩
set_option maxRecDepth 100000 in
set_option maxHeartbeats 8000000 in
theorem refWrite8 (x : P.Ca) (ht : P.tyC x) (ho : x.owner.length ≤ 20000) (hto : x.to.length ≤ 20000) (hop : x.op = 8) (w : World) : Calls Tryd.prog 16 #[caV x] w fun e w' => e = .returned (S (P.bytesC x)) ∧ Below w.heap.size w w' := by
  have h1 := Bx.fresh w 46 #[.int .u8 (x.op : Nat), .int .u8 (x.client : Nat), V64 x.number, .int .u8 (x.p.a.fam : Nat), V64 x.p.a.hi, V64 x.p.a.lo, .int .i64 x.p.bits, .int .u8 (x.a.fam : Nat), V64 x.a.hi, V64 x.a.lo, S x.owner, S x.to, V64 x.d, V64 x.fr, .int .i64 x.n]
  have hA := (Below.refl w.heap.size w).alloc (Nat.le_refl _) (.cells #[.int .u8 (x.op : Nat), .int .u8 (x.client : Nat), V64 x.number, .int .u8 (x.p.a.fam : Nat), V64 x.p.a.hi, V64 x.p.a.lo, .int .i64 x.p.bits, .int .u8 (x.a.fam : Nat), V64 x.a.hi, V64 x.a.lo, S x.owner, S x.to, V64 x.d, V64 x.fr, .int .i64 x.n] 46)
  have HH := Lib.hid (fun wx => refHead_any x ht.1 ht.2.1 ht.2.2.1 wx)
  obtain ⟨L0, hL0⟩ : ∃ L, L = P.headB x.op x.client x.number := ⟨_, rfl⟩
  have hl0 : L0.length ≤ 10 := by rw [hL0, P.headB_len]; exact Nat.le_refl _
  rw [← hL0] at HH
  have HC1 := Lib.hid (fun wx => refAddress_any x.a ht.2.2.2.2.1 wx)
  obtain ⟨T1, hT1⟩ : ∃ T, T = P.adX x.a := ⟨_, rfl⟩
  have ht1 : T1.length ≤ 20100 := by rw [hT1]; have := P.adX_le x.a; omega
  rw [← hT1] at HC1
  obtain ⟨L1, hL1⟩ : ∃ L, L = L0 ++ T1 := ⟨_, rfl⟩
  have hl1 : L1.length ≤ 20110 := by rw [hL1, List.length_append]; omega
  have k1 := str_catD L0 T1
  rw [← hL1] at k1
  have a1 : ¬ 9223372036854775807 < L0.length + T1.length := by omega
  have HC2 := Lib.hid (fun wx => refText26_any x.owner ho wx)
  obtain ⟨T2, hT2⟩ : ∃ T, T = P.txB x.owner := ⟨_, rfl⟩
  have ht2 : T2.length ≤ 20100 := by rw [hT2]; have := P.txB_le ho; omega
  rw [← hT2] at HC2
  obtain ⟨L2, hL2⟩ : ∃ L, L = L1 ++ T2 := ⟨_, rfl⟩
  have hl2 : L2.length ≤ 40210 := by rw [hL2, List.length_append]; omega
  have k2 := str_catD L1 T2
  rw [← hL2] at k2
  have a2 : ¬ 9223372036854775807 < L1.length + T2.length := by omega
  have Hres := Lib.hid (show L2 = P.bytesC x by rw [hL2, hL1, hL0, hT1, hT2]; unfold P.bytesC; rw [hop]; simp [P.fsB, P.use, P.uses, P.usesL, P.fB, hop])
  clear hL0 hL1 hL2 hT1 hT2
  obtain ⟨⟨c0, c1, c2, c3, c4, c5, c6, c7, c8, c9, c10, c11, c12, c13, c14⟩, -⟩ := h1.cells15
  have t1 : ((x.op : Int) == 1) = false := beq_eq_false_iff_ne.2 (by omega)
  have t2 : ((x.op : Int) == 2) = false := beq_eq_false_iff_ne.2 (by omega)
  have t3 : ((x.op : Int) == 3) = false := beq_eq_false_iff_ne.2 (by omega)
  have t4 : ((x.op : Int) == 4) = false := beq_eq_false_iff_ne.2 (by omega)
  have t5 : ((x.op : Int) == 5) = false := beq_eq_false_iff_ne.2 (by omega)
  have t7 : ((x.op : Int) == 7) = false := beq_eq_false_iff_ne.2 (by omega)
  have t6 : ((x.op : Int) == 6) = false := beq_eq_false_iff_ne.2 (by omega)
  have t8 : ((x.op : Int) == 8) = true := beq_iff_eq.2 (by omega)
  clear hop
  go_enter Tryd.func16, Tryd.ntmps16
  go_upto_region 14 with (go_at_call 43; (with_reducible refine (HH.out _).mono ?_); rintro e w2 ⟨rfl, hb2⟩; have h2 := h1.up hb2; have hA2 := Chain.up hA hb2; have d0 : w2.cell? ⟨w.heap.size, 0, none⟩ = some (.int .u8 (x.op : Nat)) := h2.cell 0)
  refine wp_region_held_drew (S := fun wx => Bx wx w.heap.size 46 #[.int .u8 (x.op : Nat), .int .u8 (x.client : Nat), V64 x.number, .int .u8 (x.p.a.fam : Nat), V64 x.p.a.hi, V64 x.p.a.lo, .int .i64 x.p.bits, .int .u8 (x.a.fam : Nat), V64 x.a.hi, V64 x.a.lo, S x.owner, S x.to, V64 x.d, V64 x.fr, .int .i64 x.n] ∧ Below w.heap.size w wx) (by kernel_rfl) ⟨h2.drew, hA2.drew⟩ (fun hHeld => ?_)
  refine wpAnyH_take (i := 0) (v := ?_) rfl (by kernel_rfl) (by kernel_rfl) (by kernel_rfl) (fun _ _ _ h => h) (Or.inl ⟨by rfl, ?_⟩) hHeld ?_
  rotate_left
  · intro wq hSw; go_simp; (try with_reducible rfl)
  simp only [Act.put, List.getElem_toArray, List.getElem_cons_succ, List.getElem_cons_zero, List.setIfInBounds_toArray, List.set_cons_zero, List.set_cons_succ]
  refine wpAnyH_take (i := 1) (v := ?_) rfl (by kernel_rfl) (by kernel_rfl) (by kernel_rfl) (fun _ _ _ h => h) (Or.inl ⟨by rfl, ?_⟩) hHeld ?_
  rotate_left
  · intro wq hSw; go_simp; (try with_reducible rfl)
  simp only [Act.put, List.getElem_toArray, List.getElem_cons_succ, List.getElem_cons_zero, List.setIfInBounds_toArray, List.set_cons_zero, List.set_cons_succ]
  refine wpAnyH_take (i := 2) (v := ?_) rfl (by kernel_rfl) (by kernel_rfl) (by kernel_rfl) (fun _ _ _ h => h) (Or.inl ⟨by rfl, ?_⟩) hHeld ?_
  rotate_left
  · intro wq hSw; obtain ⟨⟨q0, q1, q2, q3, q4, q5, q6, q7, q8, q9, q10, q11, q12, q13, q14⟩, -⟩ := hSw.1.cells15; go_simp; (try with_reducible rfl)
  simp only [Act.put, List.getElem_toArray, List.getElem_cons_succ, List.getElem_cons_zero, List.setIfInBounds_toArray, List.set_cons_zero, List.set_cons_succ]
  refine wpAnyH_take (i := 5) (v := ?_) rfl (by kernel_rfl) (by kernel_rfl) (by kernel_rfl) (fun _ _ _ h => h) (Or.inl ⟨by rfl, ?_⟩) hHeld ?_
  rotate_left
  · intro wq hSw; go_simp; (try with_reducible rfl)
  simp only [Act.put, List.getElem_toArray, List.getElem_cons_succ, List.getElem_cons_zero, List.setIfInBounds_toArray, List.set_cons_zero, List.set_cons_succ]
  refine wpAnyH_take (i := 6) (v := ?_) rfl (by kernel_rfl) (by kernel_rfl) (by kernel_rfl) (fun _ _ _ h => h) (Or.inl ⟨by rfl, ?_⟩) hHeld ?_
  rotate_left
  · intro wq hSw; obtain ⟨⟨q0, q1, q2, q3, q4, q5, q6, q7, q8, q9, q10, q11, q12, q13, q14⟩, -⟩ := hSw.1.cells15; go_simp; (try with_reducible rfl)
  simp only [Act.put, List.getElem_toArray, List.getElem_cons_succ, List.getElem_cons_zero, List.setIfInBounds_toArray, List.set_cons_zero, List.set_cons_succ]
  refine wpAnyH_one (i := 3) (by kernel_rfl) rfl (fun K hK => ?_)
  simp only [List.getElem_toArray, List.getElem_cons_succ, List.getElem_cons_zero]
  go_simp
  (with_reducible refine (HC1.out _).mono ?_)
  rintro e v1 ⟨rfl, hbv1⟩
  have hS1 : Bx v1 w.heap.size 46 #[.int .u8 (x.op : Nat), .int .u8 (x.client : Nat), V64 x.number, .int .u8 (x.p.a.fam : Nat), V64 x.p.a.hi, V64 x.p.a.lo, .int .i64 x.p.bits, .int .u8 (x.a.fam : Nat), V64 x.a.hi, V64 x.a.lo, S x.owner, S x.to, V64 x.d, V64 x.fr, .int .i64 x.n] ∧ Below w.heap.size w v1 := ⟨hHeld.1.up hbv1, Chain.up hHeld.2 hbv1⟩
  refine hK.out _ _ hS1 ?_
  clear hK K
  refine wpAnyH_take (i := 4) (v := ?_) rfl (by kernel_rfl) (by kernel_rfl) (by kernel_rfl) (fun _ _ _ h => h) (Or.inl ⟨by rfl, ?_⟩) hS1 ?_
  rotate_left
  · intro wq hSw; go_simp; (try with_reducible rfl)
  simp only [Act.put, List.getElem_toArray, List.getElem_cons_succ, List.getElem_cons_zero, List.setIfInBounds_toArray, List.set_cons_zero, List.set_cons_succ]
  refine wpAnyH_one (i := 7) (by kernel_rfl) rfl (fun K hK => ?_)
  simp only [List.getElem_toArray, List.getElem_cons_succ, List.getElem_cons_zero]
  go_simp
  (with_reducible refine (HC2.out _).mono ?_)
  rintro e v2 ⟨rfl, hbv2⟩
  have hS2 : Bx v2 w.heap.size 46 #[.int .u8 (x.op : Nat), .int .u8 (x.client : Nat), V64 x.number, .int .u8 (x.p.a.fam : Nat), V64 x.p.a.hi, V64 x.p.a.lo, .int .i64 x.p.bits, .int .u8 (x.a.fam : Nat), V64 x.a.hi, V64 x.a.lo, S x.owner, S x.to, V64 x.d, V64 x.fr, .int .i64 x.n] ∧ Below w.heap.size w v2 := ⟨hS1.1.up hbv2, Chain.up hS1.2 hbv2⟩
  refine hK.out _ _ hS2 ?_
  clear hK K
  refine wpAnyH_take (i := 8) (v := ?_) rfl (by kernel_rfl) (by kernel_rfl) (by kernel_rfl) (fun _ _ _ h => h) (Or.inl ⟨by rfl, ?_⟩) hS2 ?_
  rotate_left
  · intro wq hSw; go_simp; (try with_reducible rfl)
  simp only [Act.put, List.getElem_toArray, List.getElem_cons_succ, List.getElem_cons_zero, List.setIfInBounds_toArray, List.set_cons_zero, List.set_cons_succ]
  refine wpAnyH_take (i := 9) (v := ?_) rfl (by kernel_rfl) (by kernel_rfl) (by kernel_rfl) (fun _ _ _ h => h) (Or.inl ⟨by rfl, ?_⟩) hS2 ?_
  rotate_left
  · intro wq hSw; go_simp; (try with_reducible rfl)
  simp only [Act.put, List.getElem_toArray, List.getElem_cons_succ, List.getElem_cons_zero, List.setIfInBounds_toArray, List.set_cons_zero, List.set_cons_succ]
  refine wpAnyH_done (by kernel_rfl) ?_ _
  go_wp2_with fail
  go_ret
  exact ⟨by first | (rw [← Hres.out]; rfl) | (rw [← Hres.out]; simp only [k1, k2]; rfl), hS2.2⟩
set_option maxRecDepth 100000 in
set_option maxHeartbeats 8000000 in
theorem refWrite9 (x : P.Ca) (ht : P.tyC x) (ho : x.owner.length ≤ 20000) (hto : x.to.length ≤ 20000) (hop : x.op = 9) (w : World) : Calls Tryd.prog 16 #[caV x] w fun e w' => e = .returned (S (P.bytesC x)) ∧ Below w.heap.size w w' := by
  have h1 := Bx.fresh w 46 #[.int .u8 (x.op : Nat), .int .u8 (x.client : Nat), V64 x.number, .int .u8 (x.p.a.fam : Nat), V64 x.p.a.hi, V64 x.p.a.lo, .int .i64 x.p.bits, .int .u8 (x.a.fam : Nat), V64 x.a.hi, V64 x.a.lo, S x.owner, S x.to, V64 x.d, V64 x.fr, .int .i64 x.n]
  have hA := (Below.refl w.heap.size w).alloc (Nat.le_refl _) (.cells #[.int .u8 (x.op : Nat), .int .u8 (x.client : Nat), V64 x.number, .int .u8 (x.p.a.fam : Nat), V64 x.p.a.hi, V64 x.p.a.lo, .int .i64 x.p.bits, .int .u8 (x.a.fam : Nat), V64 x.a.hi, V64 x.a.lo, S x.owner, S x.to, V64 x.d, V64 x.fr, .int .i64 x.n] 46)
  have HH := Lib.hid (fun wx => refHead_any x ht.1 ht.2.1 ht.2.2.1 wx)
  obtain ⟨L0, hL0⟩ : ∃ L, L = P.headB x.op x.client x.number := ⟨_, rfl⟩
  have hl0 : L0.length ≤ 10 := by rw [hL0, P.headB_len]; exact Nat.le_refl _
  rw [← hL0] at HH
  have HC1 := Lib.hid (fun wx => refAddress_any x.a ht.2.2.2.2.1 wx)
  obtain ⟨T1, hT1⟩ : ∃ T, T = P.adX x.a := ⟨_, rfl⟩
  have ht1 : T1.length ≤ 20100 := by rw [hT1]; have := P.adX_le x.a; omega
  rw [← hT1] at HC1
  obtain ⟨L1, hL1⟩ : ∃ L, L = L0 ++ T1 := ⟨_, rfl⟩
  have hl1 : L1.length ≤ 20110 := by rw [hL1, List.length_append]; omega
  have k1 := str_catD L0 T1
  rw [← hL1] at k1
  have a1 : ¬ 9223372036854775807 < L0.length + T1.length := by omega
  have HC2 := Lib.hid (fun wx => refText26_any x.owner ho wx)
  obtain ⟨T2, hT2⟩ : ∃ T, T = P.txB x.owner := ⟨_, rfl⟩
  have ht2 : T2.length ≤ 20100 := by rw [hT2]; have := P.txB_le ho; omega
  rw [← hT2] at HC2
  obtain ⟨L2, hL2⟩ : ∃ L, L = L1 ++ T2 := ⟨_, rfl⟩
  have hl2 : L2.length ≤ 40210 := by rw [hL2, List.length_append]; omega
  have k2 := str_catD L1 T2
  rw [← hL2] at k2
  have a2 : ¬ 9223372036854775807 < L1.length + T2.length := by omega
  have HC3 := Lib.hid (fun wx => refText26_any x.to hto wx)
  obtain ⟨T3, hT3⟩ : ∃ T, T = P.txB x.to := ⟨_, rfl⟩
  have ht3 : T3.length ≤ 20100 := by rw [hT3]; have := P.txB_le hto; omega
  rw [← hT3] at HC3
  obtain ⟨L3, hL3⟩ : ∃ L, L = L2 ++ T3 := ⟨_, rfl⟩
  have hl3 : L3.length ≤ 60310 := by rw [hL3, List.length_append]; omega
  have k3 := str_catD L2 T3
  rw [← hL3] at k3
  have a3 : ¬ 9223372036854775807 < L2.length + T3.length := by omega
  have Hres := Lib.hid (show L3 = P.bytesC x by rw [hL3, hL2, hL1, hL0, hT1, hT2, hT3]; unfold P.bytesC; rw [hop]; simp [P.fsB, P.use, P.uses, P.usesL, P.fB, hop])
  clear hL0 hL1 hL2 hL3 hT1 hT2 hT3
  obtain ⟨⟨c0, c1, c2, c3, c4, c5, c6, c7, c8, c9, c10, c11, c12, c13, c14⟩, -⟩ := h1.cells15
  have t1 : ((x.op : Int) == 1) = false := beq_eq_false_iff_ne.2 (by omega)
  have t2 : ((x.op : Int) == 2) = false := beq_eq_false_iff_ne.2 (by omega)
  have t3 : ((x.op : Int) == 3) = false := beq_eq_false_iff_ne.2 (by omega)
  have t4 : ((x.op : Int) == 4) = false := beq_eq_false_iff_ne.2 (by omega)
  have t5 : ((x.op : Int) == 5) = false := beq_eq_false_iff_ne.2 (by omega)
  have t7 : ((x.op : Int) == 7) = false := beq_eq_false_iff_ne.2 (by omega)
  have t6 : ((x.op : Int) == 6) = false := beq_eq_false_iff_ne.2 (by omega)
  have t8 : ((x.op : Int) == 8) = false := beq_eq_false_iff_ne.2 (by omega)
  have t9 : ((x.op : Int) == 9) = true := beq_iff_eq.2 (by omega)
  clear hop
  go_enter Tryd.func16, Tryd.ntmps16
  go_upto_region 16 with (go_at_call 43; (with_reducible refine (HH.out _).mono ?_); rintro e w2 ⟨rfl, hb2⟩; have h2 := h1.up hb2; have hA2 := Chain.up hA hb2; have d0 : w2.cell? ⟨w.heap.size, 0, none⟩ = some (.int .u8 (x.op : Nat)) := h2.cell 0)
  refine wp_region_held_drew (S := fun wx => Bx wx w.heap.size 46 #[.int .u8 (x.op : Nat), .int .u8 (x.client : Nat), V64 x.number, .int .u8 (x.p.a.fam : Nat), V64 x.p.a.hi, V64 x.p.a.lo, .int .i64 x.p.bits, .int .u8 (x.a.fam : Nat), V64 x.a.hi, V64 x.a.lo, S x.owner, S x.to, V64 x.d, V64 x.fr, .int .i64 x.n] ∧ Below w.heap.size w wx) (by kernel_rfl) ⟨h2.drew, hA2.drew⟩ (fun hHeld => ?_)
  refine wpAnyH_take (i := 0) (v := ?_) rfl (by kernel_rfl) (by kernel_rfl) (by kernel_rfl) (fun _ _ _ h => h) (Or.inl ⟨by rfl, ?_⟩) hHeld ?_
  rotate_left
  · intro wq hSw; go_simp; (try with_reducible rfl)
  simp only [Act.put, List.getElem_toArray, List.getElem_cons_succ, List.getElem_cons_zero, List.setIfInBounds_toArray, List.set_cons_zero, List.set_cons_succ]
  refine wpAnyH_take (i := 1) (v := ?_) rfl (by kernel_rfl) (by kernel_rfl) (by kernel_rfl) (fun _ _ _ h => h) (Or.inl ⟨by rfl, ?_⟩) hHeld ?_
  rotate_left
  · intro wq hSw; go_simp; (try with_reducible rfl)
  simp only [Act.put, List.getElem_toArray, List.getElem_cons_succ, List.getElem_cons_zero, List.setIfInBounds_toArray, List.set_cons_zero, List.set_cons_succ]
  refine wpAnyH_take (i := 2) (v := ?_) rfl (by kernel_rfl) (by kernel_rfl) (by kernel_rfl) (fun _ _ _ h => h) (Or.inl ⟨by rfl, ?_⟩) hHeld ?_
  rotate_left
  · intro wq hSw; obtain ⟨⟨q0, q1, q2, q3, q4, q5, q6, q7, q8, q9, q10, q11, q12, q13, q14⟩, -⟩ := hSw.1.cells15; go_simp; (try with_reducible rfl)
  simp only [Act.put, List.getElem_toArray, List.getElem_cons_succ, List.getElem_cons_zero, List.setIfInBounds_toArray, List.set_cons_zero, List.set_cons_succ]
  refine wpAnyH_take (i := 5) (v := ?_) rfl (by kernel_rfl) (by kernel_rfl) (by kernel_rfl) (fun _ _ _ h => h) (Or.inl ⟨by rfl, ?_⟩) hHeld ?_
  rotate_left
  · intro wq hSw; go_simp; (try with_reducible rfl)
  simp only [Act.put, List.getElem_toArray, List.getElem_cons_succ, List.getElem_cons_zero, List.setIfInBounds_toArray, List.set_cons_zero, List.set_cons_succ]
  refine wpAnyH_take (i := 6) (v := ?_) rfl (by kernel_rfl) (by kernel_rfl) (by kernel_rfl) (fun _ _ _ h => h) (Or.inl ⟨by rfl, ?_⟩) hHeld ?_
  rotate_left
  · intro wq hSw; obtain ⟨⟨q0, q1, q2, q3, q4, q5, q6, q7, q8, q9, q10, q11, q12, q13, q14⟩, -⟩ := hSw.1.cells15; go_simp; (try with_reducible rfl)
  simp only [Act.put, List.getElem_toArray, List.getElem_cons_succ, List.getElem_cons_zero, List.setIfInBounds_toArray, List.set_cons_zero, List.set_cons_succ]
  refine wpAnyH_take (i := 9) (v := ?_) rfl (by kernel_rfl) (by kernel_rfl) (by kernel_rfl) (fun _ _ _ h => h) (Or.inl ⟨by rfl, ?_⟩) hHeld ?_
  rotate_left
  · intro wq hSw; go_simp; (try with_reducible rfl)
  simp only [Act.put, List.getElem_toArray, List.getElem_cons_succ, List.getElem_cons_zero, List.setIfInBounds_toArray, List.set_cons_zero, List.set_cons_succ]
  refine wpAnyH_take (i := 10) (v := ?_) rfl (by kernel_rfl) (by kernel_rfl) (by kernel_rfl) (fun _ _ _ h => h) (Or.inl ⟨by rfl, ?_⟩) hHeld ?_
  rotate_left
  · intro wq hSw; obtain ⟨⟨q0, q1, q2, q3, q4, q5, q6, q7, q8, q9, q10, q11, q12, q13, q14⟩, -⟩ := hSw.1.cells15; go_simp; (try with_reducible rfl)
  simp only [Act.put, List.getElem_toArray, List.getElem_cons_succ, List.getElem_cons_zero, List.setIfInBounds_toArray, List.set_cons_zero, List.set_cons_succ]
  refine wpAnyH_one (i := 3) (by kernel_rfl) rfl (fun K hK => ?_)
  simp only [List.getElem_toArray, List.getElem_cons_succ, List.getElem_cons_zero]
  go_simp
  (with_reducible refine (HC1.out _).mono ?_)
  rintro e v1 ⟨rfl, hbv1⟩
  have hS1 : Bx v1 w.heap.size 46 #[.int .u8 (x.op : Nat), .int .u8 (x.client : Nat), V64 x.number, .int .u8 (x.p.a.fam : Nat), V64 x.p.a.hi, V64 x.p.a.lo, .int .i64 x.p.bits, .int .u8 (x.a.fam : Nat), V64 x.a.hi, V64 x.a.lo, S x.owner, S x.to, V64 x.d, V64 x.fr, .int .i64 x.n] ∧ Below w.heap.size w v1 := ⟨hHeld.1.up hbv1, Chain.up hHeld.2 hbv1⟩
  refine hK.out _ _ hS1 ?_
  clear hK K
  refine wpAnyH_take (i := 4) (v := ?_) rfl (by kernel_rfl) (by kernel_rfl) (by kernel_rfl) (fun _ _ _ h => h) (Or.inl ⟨by rfl, ?_⟩) hS1 ?_
  rotate_left
  · intro wq hSw; go_simp; (try with_reducible rfl)
  simp only [Act.put, List.getElem_toArray, List.getElem_cons_succ, List.getElem_cons_zero, List.setIfInBounds_toArray, List.set_cons_zero, List.set_cons_succ]
  refine wpAnyH_one (i := 7) (by kernel_rfl) rfl (fun K hK => ?_)
  simp only [List.getElem_toArray, List.getElem_cons_succ, List.getElem_cons_zero]
  go_simp
  (with_reducible refine (HC2.out _).mono ?_)
  rintro e v2 ⟨rfl, hbv2⟩
  have hS2 : Bx v2 w.heap.size 46 #[.int .u8 (x.op : Nat), .int .u8 (x.client : Nat), V64 x.number, .int .u8 (x.p.a.fam : Nat), V64 x.p.a.hi, V64 x.p.a.lo, .int .i64 x.p.bits, .int .u8 (x.a.fam : Nat), V64 x.a.hi, V64 x.a.lo, S x.owner, S x.to, V64 x.d, V64 x.fr, .int .i64 x.n] ∧ Below w.heap.size w v2 := ⟨hS1.1.up hbv2, Chain.up hS1.2 hbv2⟩
  refine hK.out _ _ hS2 ?_
  clear hK K
  refine wpAnyH_take (i := 8) (v := ?_) rfl (by kernel_rfl) (by kernel_rfl) (by kernel_rfl) (fun _ _ _ h => h) (Or.inl ⟨by rfl, ?_⟩) hS2 ?_
  rotate_left
  · intro wq hSw; go_simp; (try with_reducible rfl)
  simp only [Act.put, List.getElem_toArray, List.getElem_cons_succ, List.getElem_cons_zero, List.setIfInBounds_toArray, List.set_cons_zero, List.set_cons_succ]
  refine wpAnyH_one (i := 11) (by kernel_rfl) rfl (fun K hK => ?_)
  simp only [List.getElem_toArray, List.getElem_cons_succ, List.getElem_cons_zero]
  go_simp
  (with_reducible refine (HC3.out _).mono ?_)
  rintro e v3 ⟨rfl, hbv3⟩
  have hS3 : Bx v3 w.heap.size 46 #[.int .u8 (x.op : Nat), .int .u8 (x.client : Nat), V64 x.number, .int .u8 (x.p.a.fam : Nat), V64 x.p.a.hi, V64 x.p.a.lo, .int .i64 x.p.bits, .int .u8 (x.a.fam : Nat), V64 x.a.hi, V64 x.a.lo, S x.owner, S x.to, V64 x.d, V64 x.fr, .int .i64 x.n] ∧ Below w.heap.size w v3 := ⟨hS2.1.up hbv3, Chain.up hS2.2 hbv3⟩
  refine hK.out _ _ hS3 ?_
  clear hK K
  refine wpAnyH_take (i := 12) (v := ?_) rfl (by kernel_rfl) (by kernel_rfl) (by kernel_rfl) (fun _ _ _ h => h) (Or.inl ⟨by rfl, ?_⟩) hS3 ?_
  rotate_left
  · intro wq hSw; go_simp; (try with_reducible rfl)
  simp only [Act.put, List.getElem_toArray, List.getElem_cons_succ, List.getElem_cons_zero, List.setIfInBounds_toArray, List.set_cons_zero, List.set_cons_succ]
  refine wpAnyH_take (i := 13) (v := ?_) rfl (by kernel_rfl) (by kernel_rfl) (by kernel_rfl) (fun _ _ _ h => h) (Or.inl ⟨by rfl, ?_⟩) hS3 ?_
  rotate_left
  · intro wq hSw; go_simp; (try with_reducible rfl)
  simp only [Act.put, List.getElem_toArray, List.getElem_cons_succ, List.getElem_cons_zero, List.setIfInBounds_toArray, List.set_cons_zero, List.set_cons_succ]
  refine wpAnyH_done (by kernel_rfl) ?_ _
  go_wp2_with fail
  go_ret
  exact ⟨by first | (rw [← Hres.out]; rfl) | (rw [← Hres.out]; simp only [k1, k2, k3]; rfl), hS3.2⟩
set_option maxRecDepth 100000 in
set_option maxHeartbeats 8000000 in
theorem refWrite10 (x : P.Ca) (ht : P.tyC x) (ho : x.owner.length ≤ 20000) (hto : x.to.length ≤ 20000) (hop : x.op = 10) (w : World) : Calls Tryd.prog 16 #[caV x] w fun e w' => e = .returned (S (P.bytesC x)) ∧ Below w.heap.size w w' := by
  have h1 := Bx.fresh w 46 #[.int .u8 (x.op : Nat), .int .u8 (x.client : Nat), V64 x.number, .int .u8 (x.p.a.fam : Nat), V64 x.p.a.hi, V64 x.p.a.lo, .int .i64 x.p.bits, .int .u8 (x.a.fam : Nat), V64 x.a.hi, V64 x.a.lo, S x.owner, S x.to, V64 x.d, V64 x.fr, .int .i64 x.n]
  have hA := (Below.refl w.heap.size w).alloc (Nat.le_refl _) (.cells #[.int .u8 (x.op : Nat), .int .u8 (x.client : Nat), V64 x.number, .int .u8 (x.p.a.fam : Nat), V64 x.p.a.hi, V64 x.p.a.lo, .int .i64 x.p.bits, .int .u8 (x.a.fam : Nat), V64 x.a.hi, V64 x.a.lo, S x.owner, S x.to, V64 x.d, V64 x.fr, .int .i64 x.n] 46)
  have HH := Lib.hid (fun wx => refHead_any x ht.1 ht.2.1 ht.2.2.1 wx)
  obtain ⟨L0, hL0⟩ : ∃ L, L = P.headB x.op x.client x.number := ⟨_, rfl⟩
  have hl0 : L0.length ≤ 10 := by rw [hL0, P.headB_len]; exact Nat.le_refl _
  rw [← hL0] at HH
  have HC1 := Lib.hid (fun wx => refAddress_any x.a ht.2.2.2.2.1 wx)
  obtain ⟨T1, hT1⟩ : ∃ T, T = P.adX x.a := ⟨_, rfl⟩
  have ht1 : T1.length ≤ 20100 := by rw [hT1]; have := P.adX_le x.a; omega
  rw [← hT1] at HC1
  obtain ⟨L1, hL1⟩ : ∃ L, L = L0 ++ T1 := ⟨_, rfl⟩
  have hl1 : L1.length ≤ 20110 := by rw [hL1, List.length_append]; omega
  have k1 := str_catD L0 T1
  rw [← hL1] at k1
  have a1 : ¬ 9223372036854775807 < L0.length + T1.length := by omega
  have Hres := Lib.hid (show L1 = P.bytesC x by rw [hL1, hL0, hT1]; unfold P.bytesC; rw [hop]; simp [P.fsB, P.use, P.uses, P.usesL, P.fB, hop])
  clear hL0 hL1 hT1
  obtain ⟨⟨c0, c1, c2, c3, c4, c5, c6, c7, c8, c9, c10, c11, c12, c13, c14⟩, -⟩ := h1.cells15
  have t1 : ((x.op : Int) == 1) = false := beq_eq_false_iff_ne.2 (by omega)
  have t2 : ((x.op : Int) == 2) = false := beq_eq_false_iff_ne.2 (by omega)
  have t3 : ((x.op : Int) == 3) = false := beq_eq_false_iff_ne.2 (by omega)
  have t4 : ((x.op : Int) == 4) = false := beq_eq_false_iff_ne.2 (by omega)
  have t5 : ((x.op : Int) == 5) = false := beq_eq_false_iff_ne.2 (by omega)
  have t7 : ((x.op : Int) == 7) = false := beq_eq_false_iff_ne.2 (by omega)
  have t6 : ((x.op : Int) == 6) = false := beq_eq_false_iff_ne.2 (by omega)
  have t8 : ((x.op : Int) == 8) = false := beq_eq_false_iff_ne.2 (by omega)
  have t9 : ((x.op : Int) == 9) = false := beq_eq_false_iff_ne.2 (by omega)
  have t10 : ((x.op : Int) == 10) = true := beq_iff_eq.2 (by omega)
  clear hop
  go_enter Tryd.func16, Tryd.ntmps16
  go_wp2_with (first
    | (go_at_call 43; (with_reducible refine (HH.out _).mono ?_); rintro e w2 ⟨rfl, hb2⟩; have h2 := h1.up hb2; have hA2 := Chain.up hA hb2; obtain ⟨⟨d0, d1, d2, d3, d4, d5, d6, d7, d8, d9, d10, d11, d12, d13, d14⟩, -⟩ := h2.cells15)
    | (go_at_call 45; (with_reducible refine (HC1.out _).mono ?_); rintro e w3 ⟨rfl, hb3⟩; have hA3 := Chain.up hA2 hb3))
  go_ret
  exact ⟨by first | (rw [← Hres.out]; rfl) | (rw [← Hres.out]; simp only [k1]; rfl), hA3⟩
set_option maxRecDepth 100000 in
set_option maxHeartbeats 8000000 in
theorem refWrite11 (x : P.Ca) (ht : P.tyC x) (ho : x.owner.length ≤ 20000) (hto : x.to.length ≤ 20000) (hop : x.op = 11) (w : World) : Calls Tryd.prog 16 #[caV x] w fun e w' => e = .returned (S (P.bytesC x)) ∧ Below w.heap.size w w' := by
  have h1 := Bx.fresh w 46 #[.int .u8 (x.op : Nat), .int .u8 (x.client : Nat), V64 x.number, .int .u8 (x.p.a.fam : Nat), V64 x.p.a.hi, V64 x.p.a.lo, .int .i64 x.p.bits, .int .u8 (x.a.fam : Nat), V64 x.a.hi, V64 x.a.lo, S x.owner, S x.to, V64 x.d, V64 x.fr, .int .i64 x.n]
  have hA := (Below.refl w.heap.size w).alloc (Nat.le_refl _) (.cells #[.int .u8 (x.op : Nat), .int .u8 (x.client : Nat), V64 x.number, .int .u8 (x.p.a.fam : Nat), V64 x.p.a.hi, V64 x.p.a.lo, .int .i64 x.p.bits, .int .u8 (x.a.fam : Nat), V64 x.a.hi, V64 x.a.lo, S x.owner, S x.to, V64 x.d, V64 x.fr, .int .i64 x.n] 46)
  have HH := Lib.hid (fun wx => refHead_any x ht.1 ht.2.1 ht.2.2.1 wx)
  obtain ⟨L0, hL0⟩ : ∃ L, L = P.headB x.op x.client x.number := ⟨_, rfl⟩
  have hl0 : L0.length ≤ 10 := by rw [hL0, P.headB_len]; exact Nat.le_refl _
  rw [← hL0] at HH
  have HC1 := Lib.hid (fun wx => refPrefix_any x.p ht.2.2.2.1 wx)
  obtain ⟨T1, hT1⟩ : ∃ T, T = P.pxX x.p := ⟨_, rfl⟩
  have ht1 : T1.length ≤ 20100 := by rw [hT1]; have := P.pxX_le x.p; omega
  rw [← hT1] at HC1
  obtain ⟨L1, hL1⟩ : ∃ L, L = L0 ++ T1 := ⟨_, rfl⟩
  have hl1 : L1.length ≤ 20110 := by rw [hL1, List.length_append]; omega
  have k1 := str_catD L0 T1
  rw [← hL1] at k1
  have a1 : ¬ 9223372036854775807 < L0.length + T1.length := by omega
  have HC2 := Lib.hid (fun wx => refAddress_any x.a ht.2.2.2.2.1 wx)
  obtain ⟨T2, hT2⟩ : ∃ T, T = P.adX x.a := ⟨_, rfl⟩
  have ht2 : T2.length ≤ 20100 := by rw [hT2]; have := P.adX_le x.a; omega
  rw [← hT2] at HC2
  obtain ⟨L2, hL2⟩ : ∃ L, L = L1 ++ T2 := ⟨_, rfl⟩
  have hl2 : L2.length ≤ 40210 := by rw [hL2, List.length_append]; omega
  have k2 := str_catD L1 T2
  rw [← hL2] at k2
  have a2 : ¬ 9223372036854775807 < L1.length + T2.length := by omega
  have HC3 := Lib.hid (fun wx => refOne_any x.n wx)
  obtain ⟨T3, hT3⟩ : ∃ T, T = [P.byI x.n] := ⟨_, rfl⟩
  have ht3 : T3.length ≤ 20100 := by rw [hT3]; simp only [List.length_singleton]; omega
  rw [← hT3] at HC3
  obtain ⟨L3, hL3⟩ : ∃ L, L = L2 ++ T3 := ⟨_, rfl⟩
  have hl3 : L3.length ≤ 60310 := by rw [hL3, List.length_append]; omega
  have k3 := str_catD L2 T3
  rw [← hL3] at k3
  have a3 : ¬ 9223372036854775807 < L2.length + T3.length := by omega
  have Hres := Lib.hid (show L3 = P.bytesC x by rw [hL3, hL2, hL1, hL0, hT1, hT2, hT3]; unfold P.bytesC; rw [hop]; simp [P.fsB, P.use, P.uses, P.usesL, P.fB, hop])
  clear hL0 hL1 hL2 hL3 hT1 hT2 hT3
  obtain ⟨⟨c0, c1, c2, c3, c4, c5, c6, c7, c8, c9, c10, c11, c12, c13, c14⟩, -⟩ := h1.cells15
  have t1 : ((x.op : Int) == 1) = false := beq_eq_false_iff_ne.2 (by omega)
  have t2 : ((x.op : Int) == 2) = false := beq_eq_false_iff_ne.2 (by omega)
  have t3 : ((x.op : Int) == 3) = false := beq_eq_false_iff_ne.2 (by omega)
  have t4 : ((x.op : Int) == 4) = false := beq_eq_false_iff_ne.2 (by omega)
  have t5 : ((x.op : Int) == 5) = false := beq_eq_false_iff_ne.2 (by omega)
  have t7 : ((x.op : Int) == 7) = false := beq_eq_false_iff_ne.2 (by omega)
  have t6 : ((x.op : Int) == 6) = false := beq_eq_false_iff_ne.2 (by omega)
  have t8 : ((x.op : Int) == 8) = false := beq_eq_false_iff_ne.2 (by omega)
  have t9 : ((x.op : Int) == 9) = false := beq_eq_false_iff_ne.2 (by omega)
  have t10 : ((x.op : Int) == 10) = false := beq_eq_false_iff_ne.2 (by omega)
  have t11 : ((x.op : Int) == 11) = true := beq_iff_eq.2 (by omega)
  clear hop
  go_enter Tryd.func16, Tryd.ntmps16
  go_upto_region 20 with (go_at_call 43; (with_reducible refine (HH.out _).mono ?_); rintro e w2 ⟨rfl, hb2⟩; have h2 := h1.up hb2; have hA2 := Chain.up hA hb2; have d0 : w2.cell? ⟨w.heap.size, 0, none⟩ = some (.int .u8 (x.op : Nat)) := h2.cell 0)
  refine wp_region_held_drew (S := fun wx => Bx wx w.heap.size 46 #[.int .u8 (x.op : Nat), .int .u8 (x.client : Nat), V64 x.number, .int .u8 (x.p.a.fam : Nat), V64 x.p.a.hi, V64 x.p.a.lo, .int .i64 x.p.bits, .int .u8 (x.a.fam : Nat), V64 x.a.hi, V64 x.a.lo, S x.owner, S x.to, V64 x.d, V64 x.fr, .int .i64 x.n] ∧ Below w.heap.size w wx) (by kernel_rfl) ⟨h2.drew, hA2.drew⟩ (fun hHeld => ?_)
  refine wpAnyH_take (i := 0) (v := ?_) rfl (by kernel_rfl) (by kernel_rfl) (by kernel_rfl) (fun _ _ _ h => h) (Or.inl ⟨by rfl, ?_⟩) hHeld ?_
  rotate_left
  · intro wq hSw; go_simp; (try with_reducible rfl)
  simp only [Act.put, List.getElem_toArray, List.getElem_cons_succ, List.getElem_cons_zero, List.setIfInBounds_toArray, List.set_cons_zero, List.set_cons_succ]
  refine wpAnyH_take (i := 1) (v := ?_) rfl (by kernel_rfl) (by kernel_rfl) (by kernel_rfl) (fun _ _ _ h => h) (Or.inl ⟨by rfl, ?_⟩) hHeld ?_
  rotate_left
  · intro wq hSw; go_simp; (try with_reducible rfl)
  simp only [Act.put, List.getElem_toArray, List.getElem_cons_succ, List.getElem_cons_zero, List.setIfInBounds_toArray, List.set_cons_zero, List.set_cons_succ]
  refine wpAnyH_take (i := 2) (v := ?_) rfl (by kernel_rfl) (by kernel_rfl) (by kernel_rfl) (fun _ _ _ h => h) (Or.inl ⟨by rfl, ?_⟩) hHeld ?_
  rotate_left
  · intro wq hSw; obtain ⟨⟨q0, q1, q2, q3, q4, q5, q6, q7, q8, q9, q10, q11, q12, q13, q14⟩, -⟩ := hSw.1.cells15; go_simp; (try with_reducible rfl)
  simp only [Act.put, List.getElem_toArray, List.getElem_cons_succ, List.getElem_cons_zero, List.setIfInBounds_toArray, List.set_cons_zero, List.set_cons_succ]
  refine wpAnyH_take (i := 5) (v := ?_) rfl (by kernel_rfl) (by kernel_rfl) (by kernel_rfl) (fun _ _ _ h => h) (Or.inl ⟨by rfl, ?_⟩) hHeld ?_
  rotate_left
  · intro wq hSw; go_simp; (try with_reducible rfl)
  simp only [Act.put, List.getElem_toArray, List.getElem_cons_succ, List.getElem_cons_zero, List.setIfInBounds_toArray, List.set_cons_zero, List.set_cons_succ]
  refine wpAnyH_take (i := 6) (v := ?_) rfl (by kernel_rfl) (by kernel_rfl) (by kernel_rfl) (fun _ _ _ h => h) (Or.inl ⟨by rfl, ?_⟩) hHeld ?_
  rotate_left
  · intro wq hSw; obtain ⟨⟨q0, q1, q2, q3, q4, q5, q6, q7, q8, q9, q10, q11, q12, q13, q14⟩, -⟩ := hSw.1.cells15; go_simp; (try with_reducible rfl)
  simp only [Act.put, List.getElem_toArray, List.getElem_cons_succ, List.getElem_cons_zero, List.setIfInBounds_toArray, List.set_cons_zero, List.set_cons_succ]
  refine wpAnyH_take (i := 9) (v := ?_) rfl (by kernel_rfl) (by kernel_rfl) (by kernel_rfl) (fun _ _ _ h => h) (Or.inl ⟨by rfl, ?_⟩) hHeld ?_
  rotate_left
  · intro wq hSw; go_simp; (try with_reducible rfl)
  simp only [Act.put, List.getElem_toArray, List.getElem_cons_succ, List.getElem_cons_zero, List.setIfInBounds_toArray, List.set_cons_zero, List.set_cons_succ]
  refine wpAnyH_take (i := 10) (v := ?_) rfl (by kernel_rfl) (by kernel_rfl) (by kernel_rfl) (fun _ _ _ h => h) (Or.inl ⟨by rfl, ?_⟩) hHeld ?_
  rotate_left
  · intro wq hSw; obtain ⟨⟨q0, q1, q2, q3, q4, q5, q6, q7, q8, q9, q10, q11, q12, q13, q14⟩, -⟩ := hSw.1.cells15; go_simp; (try with_reducible rfl)
  simp only [Act.put, List.getElem_toArray, List.getElem_cons_succ, List.getElem_cons_zero, List.setIfInBounds_toArray, List.set_cons_zero, List.set_cons_succ]
  refine wpAnyH_one (i := 3) (by kernel_rfl) rfl (fun K hK => ?_)
  simp only [List.getElem_toArray, List.getElem_cons_succ, List.getElem_cons_zero]
  go_simp
  (with_reducible refine (HC1.out _).mono ?_)
  rintro e v1 ⟨rfl, hbv1⟩
  have hS1 : Bx v1 w.heap.size 46 #[.int .u8 (x.op : Nat), .int .u8 (x.client : Nat), V64 x.number, .int .u8 (x.p.a.fam : Nat), V64 x.p.a.hi, V64 x.p.a.lo, .int .i64 x.p.bits, .int .u8 (x.a.fam : Nat), V64 x.a.hi, V64 x.a.lo, S x.owner, S x.to, V64 x.d, V64 x.fr, .int .i64 x.n] ∧ Below w.heap.size w v1 := ⟨hHeld.1.up hbv1, Chain.up hHeld.2 hbv1⟩
  refine hK.out _ _ hS1 ?_
  clear hK K
  refine wpAnyH_take (i := 4) (v := ?_) rfl (by kernel_rfl) (by kernel_rfl) (by kernel_rfl) (fun _ _ _ h => h) (Or.inl ⟨by rfl, ?_⟩) hS1 ?_
  rotate_left
  · intro wq hSw; go_simp; (try with_reducible rfl)
  simp only [Act.put, List.getElem_toArray, List.getElem_cons_succ, List.getElem_cons_zero, List.setIfInBounds_toArray, List.set_cons_zero, List.set_cons_succ]
  refine wpAnyH_one (i := 7) (by kernel_rfl) rfl (fun K hK => ?_)
  simp only [List.getElem_toArray, List.getElem_cons_succ, List.getElem_cons_zero]
  go_simp
  (with_reducible refine (HC2.out _).mono ?_)
  rintro e v2 ⟨rfl, hbv2⟩
  have hS2 : Bx v2 w.heap.size 46 #[.int .u8 (x.op : Nat), .int .u8 (x.client : Nat), V64 x.number, .int .u8 (x.p.a.fam : Nat), V64 x.p.a.hi, V64 x.p.a.lo, .int .i64 x.p.bits, .int .u8 (x.a.fam : Nat), V64 x.a.hi, V64 x.a.lo, S x.owner, S x.to, V64 x.d, V64 x.fr, .int .i64 x.n] ∧ Below w.heap.size w v2 := ⟨hS1.1.up hbv2, Chain.up hS1.2 hbv2⟩
  refine hK.out _ _ hS2 ?_
  clear hK K
  refine wpAnyH_take (i := 8) (v := ?_) rfl (by kernel_rfl) (by kernel_rfl) (by kernel_rfl) (fun _ _ _ h => h) (Or.inl ⟨by rfl, ?_⟩) hS2 ?_
  rotate_left
  · intro wq hSw; go_simp; (try with_reducible rfl)
  simp only [Act.put, List.getElem_toArray, List.getElem_cons_succ, List.getElem_cons_zero, List.setIfInBounds_toArray, List.set_cons_zero, List.set_cons_succ]
  refine wpAnyH_one (i := 11) (by kernel_rfl) rfl (fun K hK => ?_)
  simp only [List.getElem_toArray, List.getElem_cons_succ, List.getElem_cons_zero]
  go_simp
  (with_reducible refine (HC3.out _).mono ?_)
  rintro e v3 ⟨rfl, hbv3⟩
  have hS3 : Bx v3 w.heap.size 46 #[.int .u8 (x.op : Nat), .int .u8 (x.client : Nat), V64 x.number, .int .u8 (x.p.a.fam : Nat), V64 x.p.a.hi, V64 x.p.a.lo, .int .i64 x.p.bits, .int .u8 (x.a.fam : Nat), V64 x.a.hi, V64 x.a.lo, S x.owner, S x.to, V64 x.d, V64 x.fr, .int .i64 x.n] ∧ Below w.heap.size w v3 := ⟨hS2.1.up hbv3, Chain.up hS2.2 hbv3⟩
  refine hK.out _ _ hS3 ?_
  clear hK K
  refine wpAnyH_take (i := 12) (v := ?_) rfl (by kernel_rfl) (by kernel_rfl) (by kernel_rfl) (fun _ _ _ h => h) (Or.inl ⟨by rfl, ?_⟩) hS3 ?_
  rotate_left
  · intro wq hSw; go_simp; (try with_reducible rfl)
  simp only [Act.put, List.getElem_toArray, List.getElem_cons_succ, List.getElem_cons_zero, List.setIfInBounds_toArray, List.set_cons_zero, List.set_cons_succ]
  refine wpAnyH_take (i := 13) (v := ?_) rfl (by kernel_rfl) (by kernel_rfl) (by kernel_rfl) (fun _ _ _ h => h) (Or.inl ⟨by rfl, ?_⟩) hS3 ?_
  rotate_left
  · intro wq hSw; go_simp; (try with_reducible rfl)
  simp only [Act.put, List.getElem_toArray, List.getElem_cons_succ, List.getElem_cons_zero, List.setIfInBounds_toArray, List.set_cons_zero, List.set_cons_succ]
  refine wpAnyH_done (by kernel_rfl) ?_ _
  go_wp2_with fail
  go_ret
  exact ⟨by first | (rw [← Hres.out]; rfl) | (rw [← Hres.out]; simp only [k1, k2, k3]; rfl), hS3.2⟩
set_option maxRecDepth 100000 in
set_option maxHeartbeats 8000000 in
theorem refWrite12 (x : P.Ca) (ht : P.tyC x) (ho : x.owner.length ≤ 20000) (hto : x.to.length ≤ 20000) (hop : x.op = 12) (w : World) : Calls Tryd.prog 16 #[caV x] w fun e w' => e = .returned (S (P.bytesC x)) ∧ Below w.heap.size w w' := by
  have h1 := Bx.fresh w 46 #[.int .u8 (x.op : Nat), .int .u8 (x.client : Nat), V64 x.number, .int .u8 (x.p.a.fam : Nat), V64 x.p.a.hi, V64 x.p.a.lo, .int .i64 x.p.bits, .int .u8 (x.a.fam : Nat), V64 x.a.hi, V64 x.a.lo, S x.owner, S x.to, V64 x.d, V64 x.fr, .int .i64 x.n]
  have hA := (Below.refl w.heap.size w).alloc (Nat.le_refl _) (.cells #[.int .u8 (x.op : Nat), .int .u8 (x.client : Nat), V64 x.number, .int .u8 (x.p.a.fam : Nat), V64 x.p.a.hi, V64 x.p.a.lo, .int .i64 x.p.bits, .int .u8 (x.a.fam : Nat), V64 x.a.hi, V64 x.a.lo, S x.owner, S x.to, V64 x.d, V64 x.fr, .int .i64 x.n] 46)
  have HH := Lib.hid (fun wx => refHead_any x ht.1 ht.2.1 ht.2.2.1 wx)
  obtain ⟨L0, hL0⟩ : ∃ L, L = P.headB x.op x.client x.number := ⟨_, rfl⟩
  have hl0 : L0.length ≤ 10 := by rw [hL0, P.headB_len]; exact Nat.le_refl _
  rw [← hL0] at HH
  have HC1 := Lib.hid (fun wx => refAddress_any x.a ht.2.2.2.2.1 wx)
  obtain ⟨T1, hT1⟩ : ∃ T, T = P.adX x.a := ⟨_, rfl⟩
  have ht1 : T1.length ≤ 20100 := by rw [hT1]; have := P.adX_le x.a; omega
  rw [← hT1] at HC1
  obtain ⟨L1, hL1⟩ : ∃ L, L = L0 ++ T1 := ⟨_, rfl⟩
  have hl1 : L1.length ≤ 20110 := by rw [hL1, List.length_append]; omega
  have k1 := str_catD L0 T1
  rw [← hL1] at k1
  have a1 : ¬ 9223372036854775807 < L0.length + T1.length := by omega
  have HC2 := Lib.hid (fun wx => row_any x.fr ht.2.2.2.2.2.2.1 wx)
  obtain ⟨T2, hT2⟩ : ∃ T, T = P.row x.fr := ⟨_, rfl⟩
  have ht2 : T2.length ≤ 20100 := by rw [hT2]; have := P.row_len9 x.fr; omega
  rw [← hT2] at HC2
  obtain ⟨L2, hL2⟩ : ∃ L, L = L1 ++ T2 := ⟨_, rfl⟩
  have hl2 : L2.length ≤ 40210 := by rw [hL2, List.length_append]; omega
  have k2 := str_catD L1 T2
  rw [← hL2] at k2
  have a2 : ¬ 9223372036854775807 < L1.length + T2.length := by omega
  have HC3 := Lib.hid (fun wx => refOne_any x.n wx)
  obtain ⟨T3, hT3⟩ : ∃ T, T = [P.byI x.n] := ⟨_, rfl⟩
  have ht3 : T3.length ≤ 20100 := by rw [hT3]; simp only [List.length_singleton]; omega
  rw [← hT3] at HC3
  obtain ⟨L3, hL3⟩ : ∃ L, L = L2 ++ T3 := ⟨_, rfl⟩
  have hl3 : L3.length ≤ 60310 := by rw [hL3, List.length_append]; omega
  have k3 := str_catD L2 T3
  rw [← hL3] at k3
  have a3 : ¬ 9223372036854775807 < L2.length + T3.length := by omega
  have Hres := Lib.hid (show L3 = P.bytesC x by rw [hL3, hL2, hL1, hL0, hT1, hT2, hT3]; unfold P.bytesC; rw [hop]; simp [P.fsB, P.use, P.uses, P.usesL, P.fB, hop])
  clear hL0 hL1 hL2 hL3 hT1 hT2 hT3
  obtain ⟨⟨c0, c1, c2, c3, c4, c5, c6, c7, c8, c9, c10, c11, c12, c13, c14⟩, -⟩ := h1.cells15
  have t1 : ((x.op : Int) == 1) = false := beq_eq_false_iff_ne.2 (by omega)
  have t2 : ((x.op : Int) == 2) = false := beq_eq_false_iff_ne.2 (by omega)
  have t3 : ((x.op : Int) == 3) = false := beq_eq_false_iff_ne.2 (by omega)
  have t4 : ((x.op : Int) == 4) = false := beq_eq_false_iff_ne.2 (by omega)
  have t5 : ((x.op : Int) == 5) = false := beq_eq_false_iff_ne.2 (by omega)
  have t7 : ((x.op : Int) == 7) = false := beq_eq_false_iff_ne.2 (by omega)
  have t6 : ((x.op : Int) == 6) = false := beq_eq_false_iff_ne.2 (by omega)
  have t8 : ((x.op : Int) == 8) = false := beq_eq_false_iff_ne.2 (by omega)
  have t9 : ((x.op : Int) == 9) = false := beq_eq_false_iff_ne.2 (by omega)
  have t10 : ((x.op : Int) == 10) = false := beq_eq_false_iff_ne.2 (by omega)
  have t11 : ((x.op : Int) == 11) = false := beq_eq_false_iff_ne.2 (by omega)
  have t12 : ((x.op : Int) == 12) = true := beq_iff_eq.2 (by omega)
  clear hop
  go_enter Tryd.func16, Tryd.ntmps16
  go_upto_region 22 with (go_at_call 43; (with_reducible refine (HH.out _).mono ?_); rintro e w2 ⟨rfl, hb2⟩; have h2 := h1.up hb2; have hA2 := Chain.up hA hb2; have d0 : w2.cell? ⟨w.heap.size, 0, none⟩ = some (.int .u8 (x.op : Nat)) := h2.cell 0)
  refine wp_region_held_drew (S := fun wx => Bx wx w.heap.size 46 #[.int .u8 (x.op : Nat), .int .u8 (x.client : Nat), V64 x.number, .int .u8 (x.p.a.fam : Nat), V64 x.p.a.hi, V64 x.p.a.lo, .int .i64 x.p.bits, .int .u8 (x.a.fam : Nat), V64 x.a.hi, V64 x.a.lo, S x.owner, S x.to, V64 x.d, V64 x.fr, .int .i64 x.n] ∧ Below w.heap.size w wx) (by kernel_rfl) ⟨h2.drew, hA2.drew⟩ (fun hHeld => ?_)
  refine wpAnyH_take (i := 0) (v := ?_) rfl (by kernel_rfl) (by kernel_rfl) (by kernel_rfl) (fun _ _ _ h => h) (Or.inl ⟨by rfl, ?_⟩) hHeld ?_
  rotate_left
  · intro wq hSw; go_simp; (try with_reducible rfl)
  simp only [Act.put, List.getElem_toArray, List.getElem_cons_succ, List.getElem_cons_zero, List.setIfInBounds_toArray, List.set_cons_zero, List.set_cons_succ]
  refine wpAnyH_take (i := 1) (v := ?_) rfl (by kernel_rfl) (by kernel_rfl) (by kernel_rfl) (fun _ _ _ h => h) (Or.inl ⟨by rfl, ?_⟩) hHeld ?_
  rotate_left
  · intro wq hSw; go_simp; (try with_reducible rfl)
  simp only [Act.put, List.getElem_toArray, List.getElem_cons_succ, List.getElem_cons_zero, List.setIfInBounds_toArray, List.set_cons_zero, List.set_cons_succ]
  refine wpAnyH_take (i := 2) (v := ?_) rfl (by kernel_rfl) (by kernel_rfl) (by kernel_rfl) (fun _ _ _ h => h) (Or.inl ⟨by rfl, ?_⟩) hHeld ?_
  rotate_left
  · intro wq hSw; obtain ⟨⟨q0, q1, q2, q3, q4, q5, q6, q7, q8, q9, q10, q11, q12, q13, q14⟩, -⟩ := hSw.1.cells15; go_simp; (try with_reducible rfl)
  simp only [Act.put, List.getElem_toArray, List.getElem_cons_succ, List.getElem_cons_zero, List.setIfInBounds_toArray, List.set_cons_zero, List.set_cons_succ]
  refine wpAnyH_take (i := 5) (v := ?_) rfl (by kernel_rfl) (by kernel_rfl) (by kernel_rfl) (fun _ _ _ h => h) (Or.inl ⟨by rfl, ?_⟩) hHeld ?_
  rotate_left
  · intro wq hSw; go_simp; (try with_reducible rfl)
  simp only [Act.put, List.getElem_toArray, List.getElem_cons_succ, List.getElem_cons_zero, List.setIfInBounds_toArray, List.set_cons_zero, List.set_cons_succ]
  refine wpAnyH_take (i := 6) (v := ?_) rfl (by kernel_rfl) (by kernel_rfl) (by kernel_rfl) (fun _ _ _ h => h) (Or.inl ⟨by rfl, ?_⟩) hHeld ?_
  rotate_left
  · intro wq hSw; obtain ⟨⟨q0, q1, q2, q3, q4, q5, q6, q7, q8, q9, q10, q11, q12, q13, q14⟩, -⟩ := hSw.1.cells15; go_simp; (try with_reducible rfl)
  simp only [Act.put, List.getElem_toArray, List.getElem_cons_succ, List.getElem_cons_zero, List.setIfInBounds_toArray, List.set_cons_zero, List.set_cons_succ]
  refine wpAnyH_take (i := 9) (v := ?_) rfl (by kernel_rfl) (by kernel_rfl) (by kernel_rfl) (fun _ _ _ h => h) (Or.inl ⟨by rfl, ?_⟩) hHeld ?_
  rotate_left
  · intro wq hSw; go_simp; (try with_reducible rfl)
  simp only [Act.put, List.getElem_toArray, List.getElem_cons_succ, List.getElem_cons_zero, List.setIfInBounds_toArray, List.set_cons_zero, List.set_cons_succ]
  refine wpAnyH_take (i := 10) (v := ?_) rfl (by kernel_rfl) (by kernel_rfl) (by kernel_rfl) (fun _ _ _ h => h) (Or.inl ⟨by rfl, ?_⟩) hHeld ?_
  rotate_left
  · intro wq hSw; obtain ⟨⟨q0, q1, q2, q3, q4, q5, q6, q7, q8, q9, q10, q11, q12, q13, q14⟩, -⟩ := hSw.1.cells15; go_simp; (try with_reducible rfl)
  simp only [Act.put, List.getElem_toArray, List.getElem_cons_succ, List.getElem_cons_zero, List.setIfInBounds_toArray, List.set_cons_zero, List.set_cons_succ]
  refine wpAnyH_one (i := 3) (by kernel_rfl) rfl (fun K hK => ?_)
  simp only [List.getElem_toArray, List.getElem_cons_succ, List.getElem_cons_zero]
  go_simp
  (with_reducible refine (HC1.out _).mono ?_)
  rintro e v1 ⟨rfl, hbv1⟩
  have hS1 : Bx v1 w.heap.size 46 #[.int .u8 (x.op : Nat), .int .u8 (x.client : Nat), V64 x.number, .int .u8 (x.p.a.fam : Nat), V64 x.p.a.hi, V64 x.p.a.lo, .int .i64 x.p.bits, .int .u8 (x.a.fam : Nat), V64 x.a.hi, V64 x.a.lo, S x.owner, S x.to, V64 x.d, V64 x.fr, .int .i64 x.n] ∧ Below w.heap.size w v1 := ⟨hHeld.1.up hbv1, Chain.up hHeld.2 hbv1⟩
  refine hK.out _ _ hS1 ?_
  clear hK K
  refine wpAnyH_take (i := 4) (v := ?_) rfl (by kernel_rfl) (by kernel_rfl) (by kernel_rfl) (fun _ _ _ h => h) (Or.inl ⟨by rfl, ?_⟩) hS1 ?_
  rotate_left
  · intro wq hSw; go_simp; (try with_reducible rfl)
  simp only [Act.put, List.getElem_toArray, List.getElem_cons_succ, List.getElem_cons_zero, List.setIfInBounds_toArray, List.set_cons_zero, List.set_cons_succ]
  refine wpAnyH_one (i := 7) (by kernel_rfl) rfl (fun K hK => ?_)
  simp only [List.getElem_toArray, List.getElem_cons_succ, List.getElem_cons_zero]
  go_simp
  (with_reducible refine (HC2.out _).mono ?_)
  rintro e v2 ⟨rfl, hbv2⟩
  have hS2 : Bx v2 w.heap.size 46 #[.int .u8 (x.op : Nat), .int .u8 (x.client : Nat), V64 x.number, .int .u8 (x.p.a.fam : Nat), V64 x.p.a.hi, V64 x.p.a.lo, .int .i64 x.p.bits, .int .u8 (x.a.fam : Nat), V64 x.a.hi, V64 x.a.lo, S x.owner, S x.to, V64 x.d, V64 x.fr, .int .i64 x.n] ∧ Below w.heap.size w v2 := ⟨hS1.1.up hbv2, Chain.up hS1.2 hbv2⟩
  refine hK.out _ _ hS2 ?_
  clear hK K
  refine wpAnyH_take (i := 8) (v := ?_) rfl (by kernel_rfl) (by kernel_rfl) (by kernel_rfl) (fun _ _ _ h => h) (Or.inl ⟨by rfl, ?_⟩) hS2 ?_
  rotate_left
  · intro wq hSw; go_simp; (try with_reducible rfl)
  simp only [Act.put, List.getElem_toArray, List.getElem_cons_succ, List.getElem_cons_zero, List.setIfInBounds_toArray, List.set_cons_zero, List.set_cons_succ]
  refine wpAnyH_one (i := 11) (by kernel_rfl) rfl (fun K hK => ?_)
  simp only [List.getElem_toArray, List.getElem_cons_succ, List.getElem_cons_zero]
  go_simp
  (with_reducible refine (HC3.out _).mono ?_)
  rintro e v3 ⟨rfl, hbv3⟩
  have hS3 : Bx v3 w.heap.size 46 #[.int .u8 (x.op : Nat), .int .u8 (x.client : Nat), V64 x.number, .int .u8 (x.p.a.fam : Nat), V64 x.p.a.hi, V64 x.p.a.lo, .int .i64 x.p.bits, .int .u8 (x.a.fam : Nat), V64 x.a.hi, V64 x.a.lo, S x.owner, S x.to, V64 x.d, V64 x.fr, .int .i64 x.n] ∧ Below w.heap.size w v3 := ⟨hS2.1.up hbv3, Chain.up hS2.2 hbv3⟩
  refine hK.out _ _ hS3 ?_
  clear hK K
  refine wpAnyH_take (i := 12) (v := ?_) rfl (by kernel_rfl) (by kernel_rfl) (by kernel_rfl) (fun _ _ _ h => h) (Or.inl ⟨by rfl, ?_⟩) hS3 ?_
  rotate_left
  · intro wq hSw; go_simp; (try with_reducible rfl)
  simp only [Act.put, List.getElem_toArray, List.getElem_cons_succ, List.getElem_cons_zero, List.setIfInBounds_toArray, List.set_cons_zero, List.set_cons_succ]
  refine wpAnyH_take (i := 13) (v := ?_) rfl (by kernel_rfl) (by kernel_rfl) (by kernel_rfl) (fun _ _ _ h => h) (Or.inl ⟨by rfl, ?_⟩) hS3 ?_
  rotate_left
  · intro wq hSw; go_simp; (try with_reducible rfl)
  simp only [Act.put, List.getElem_toArray, List.getElem_cons_succ, List.getElem_cons_zero, List.setIfInBounds_toArray, List.set_cons_zero, List.set_cons_succ]
  refine wpAnyH_done (by kernel_rfl) ?_ _
  go_wp2_with fail
  go_ret
  exact ⟨by first | (rw [← Hres.out]; rfl) | (rw [← Hres.out]; simp only [k1, k2, k3]; rfl), hS3.2⟩
set_option maxRecDepth 100000 in
set_option maxHeartbeats 8000000 in
theorem refWrite13 (x : P.Ca) (ht : P.tyC x) (ho : x.owner.length ≤ 20000) (hto : x.to.length ≤ 20000) (hop : x.op = 13) (w : World) : Calls Tryd.prog 16 #[caV x] w fun e w' => e = .returned (S (P.bytesC x)) ∧ Below w.heap.size w w' := by
  have h1 := Bx.fresh w 46 #[.int .u8 (x.op : Nat), .int .u8 (x.client : Nat), V64 x.number, .int .u8 (x.p.a.fam : Nat), V64 x.p.a.hi, V64 x.p.a.lo, .int .i64 x.p.bits, .int .u8 (x.a.fam : Nat), V64 x.a.hi, V64 x.a.lo, S x.owner, S x.to, V64 x.d, V64 x.fr, .int .i64 x.n]
  have hA := (Below.refl w.heap.size w).alloc (Nat.le_refl _) (.cells #[.int .u8 (x.op : Nat), .int .u8 (x.client : Nat), V64 x.number, .int .u8 (x.p.a.fam : Nat), V64 x.p.a.hi, V64 x.p.a.lo, .int .i64 x.p.bits, .int .u8 (x.a.fam : Nat), V64 x.a.hi, V64 x.a.lo, S x.owner, S x.to, V64 x.d, V64 x.fr, .int .i64 x.n] 46)
  have HH := Lib.hid (fun wx => refHead_any x ht.1 ht.2.1 ht.2.2.1 wx)
  obtain ⟨L0, hL0⟩ : ∃ L, L = P.headB x.op x.client x.number := ⟨_, rfl⟩
  have hl0 : L0.length ≤ 10 := by rw [hL0, P.headB_len]; exact Nat.le_refl _
  rw [← hL0] at HH
  have HC1 := Lib.hid (fun wx => refPrefix_any x.p ht.2.2.2.1 wx)
  obtain ⟨T1, hT1⟩ : ∃ T, T = P.pxX x.p := ⟨_, rfl⟩
  have ht1 : T1.length ≤ 20100 := by rw [hT1]; have := P.pxX_le x.p; omega
  rw [← hT1] at HC1
  obtain ⟨L1, hL1⟩ : ∃ L, L = L0 ++ T1 := ⟨_, rfl⟩
  have hl1 : L1.length ≤ 20110 := by rw [hL1, List.length_append]; omega
  have k1 := str_catD L0 T1
  rw [← hL1] at k1
  have a1 : ¬ 9223372036854775807 < L0.length + T1.length := by omega
  have HC2 := Lib.hid (fun wx => refOne_any x.n wx)
  obtain ⟨T2, hT2⟩ : ∃ T, T = [P.byI x.n] := ⟨_, rfl⟩
  have ht2 : T2.length ≤ 20100 := by rw [hT2]; simp only [List.length_singleton]; omega
  rw [← hT2] at HC2
  obtain ⟨L2, hL2⟩ : ∃ L, L = L1 ++ T2 := ⟨_, rfl⟩
  have hl2 : L2.length ≤ 40210 := by rw [hL2, List.length_append]; omega
  have k2 := str_catD L1 T2
  rw [← hL2] at k2
  have a2 : ¬ 9223372036854775807 < L1.length + T2.length := by omega
  have Hres := Lib.hid (show L2 = P.bytesC x by rw [hL2, hL1, hL0, hT1, hT2]; unfold P.bytesC; rw [hop]; simp [P.fsB, P.use, P.uses, P.usesL, P.fB, hop])
  clear hL0 hL1 hL2 hT1 hT2
  obtain ⟨⟨c0, c1, c2, c3, c4, c5, c6, c7, c8, c9, c10, c11, c12, c13, c14⟩, -⟩ := h1.cells15
  have t1 : ((x.op : Int) == 1) = false := beq_eq_false_iff_ne.2 (by omega)
  have t2 : ((x.op : Int) == 2) = false := beq_eq_false_iff_ne.2 (by omega)
  have t3 : ((x.op : Int) == 3) = false := beq_eq_false_iff_ne.2 (by omega)
  have t4 : ((x.op : Int) == 4) = false := beq_eq_false_iff_ne.2 (by omega)
  have t5 : ((x.op : Int) == 5) = false := beq_eq_false_iff_ne.2 (by omega)
  have t7 : ((x.op : Int) == 7) = false := beq_eq_false_iff_ne.2 (by omega)
  have t6 : ((x.op : Int) == 6) = false := beq_eq_false_iff_ne.2 (by omega)
  have t8 : ((x.op : Int) == 8) = false := beq_eq_false_iff_ne.2 (by omega)
  have t9 : ((x.op : Int) == 9) = false := beq_eq_false_iff_ne.2 (by omega)
  have t10 : ((x.op : Int) == 10) = false := beq_eq_false_iff_ne.2 (by omega)
  have t11 : ((x.op : Int) == 11) = false := beq_eq_false_iff_ne.2 (by omega)
  have t12 : ((x.op : Int) == 12) = false := beq_eq_false_iff_ne.2 (by omega)
  have t13 : ((x.op : Int) == 13) = true := beq_iff_eq.2 (by omega)
  clear hop
  go_enter Tryd.func16, Tryd.ntmps16
  go_upto_region 25 with (go_at_call 43; (with_reducible refine (HH.out _).mono ?_); rintro e w2 ⟨rfl, hb2⟩; have h2 := h1.up hb2; have hA2 := Chain.up hA hb2; have d0 : w2.cell? ⟨w.heap.size, 0, none⟩ = some (.int .u8 (x.op : Nat)) := h2.cell 0)
  refine wp_region_held_drew (S := fun wx => Bx wx w.heap.size 46 #[.int .u8 (x.op : Nat), .int .u8 (x.client : Nat), V64 x.number, .int .u8 (x.p.a.fam : Nat), V64 x.p.a.hi, V64 x.p.a.lo, .int .i64 x.p.bits, .int .u8 (x.a.fam : Nat), V64 x.a.hi, V64 x.a.lo, S x.owner, S x.to, V64 x.d, V64 x.fr, .int .i64 x.n] ∧ Below w.heap.size w wx) (by kernel_rfl) ⟨h2.drew, hA2.drew⟩ (fun hHeld => ?_)
  refine wpAnyH_take (i := 0) (v := ?_) rfl (by kernel_rfl) (by kernel_rfl) (by kernel_rfl) (fun _ _ _ h => h) (Or.inl ⟨by rfl, ?_⟩) hHeld ?_
  rotate_left
  · intro wq hSw; go_simp; (try with_reducible rfl)
  simp only [Act.put, List.getElem_toArray, List.getElem_cons_succ, List.getElem_cons_zero, List.setIfInBounds_toArray, List.set_cons_zero, List.set_cons_succ]
  refine wpAnyH_take (i := 1) (v := ?_) rfl (by kernel_rfl) (by kernel_rfl) (by kernel_rfl) (fun _ _ _ h => h) (Or.inl ⟨by rfl, ?_⟩) hHeld ?_
  rotate_left
  · intro wq hSw; go_simp; (try with_reducible rfl)
  simp only [Act.put, List.getElem_toArray, List.getElem_cons_succ, List.getElem_cons_zero, List.setIfInBounds_toArray, List.set_cons_zero, List.set_cons_succ]
  refine wpAnyH_take (i := 2) (v := ?_) rfl (by kernel_rfl) (by kernel_rfl) (by kernel_rfl) (fun _ _ _ h => h) (Or.inl ⟨by rfl, ?_⟩) hHeld ?_
  rotate_left
  · intro wq hSw; obtain ⟨⟨q0, q1, q2, q3, q4, q5, q6, q7, q8, q9, q10, q11, q12, q13, q14⟩, -⟩ := hSw.1.cells15; go_simp; (try with_reducible rfl)
  simp only [Act.put, List.getElem_toArray, List.getElem_cons_succ, List.getElem_cons_zero, List.setIfInBounds_toArray, List.set_cons_zero, List.set_cons_succ]
  refine wpAnyH_take (i := 5) (v := ?_) rfl (by kernel_rfl) (by kernel_rfl) (by kernel_rfl) (fun _ _ _ h => h) (Or.inl ⟨by rfl, ?_⟩) hHeld ?_
  rotate_left
  · intro wq hSw; go_simp; (try with_reducible rfl)
  simp only [Act.put, List.getElem_toArray, List.getElem_cons_succ, List.getElem_cons_zero, List.setIfInBounds_toArray, List.set_cons_zero, List.set_cons_succ]
  refine wpAnyH_take (i := 6) (v := ?_) rfl (by kernel_rfl) (by kernel_rfl) (by kernel_rfl) (fun _ _ _ h => h) (Or.inl ⟨by rfl, ?_⟩) hHeld ?_
  rotate_left
  · intro wq hSw; obtain ⟨⟨q0, q1, q2, q3, q4, q5, q6, q7, q8, q9, q10, q11, q12, q13, q14⟩, -⟩ := hSw.1.cells15; go_simp; (try with_reducible rfl)
  simp only [Act.put, List.getElem_toArray, List.getElem_cons_succ, List.getElem_cons_zero, List.setIfInBounds_toArray, List.set_cons_zero, List.set_cons_succ]
  refine wpAnyH_one (i := 3) (by kernel_rfl) rfl (fun K hK => ?_)
  simp only [List.getElem_toArray, List.getElem_cons_succ, List.getElem_cons_zero]
  go_simp
  (with_reducible refine (HC1.out _).mono ?_)
  rintro e v1 ⟨rfl, hbv1⟩
  have hS1 : Bx v1 w.heap.size 46 #[.int .u8 (x.op : Nat), .int .u8 (x.client : Nat), V64 x.number, .int .u8 (x.p.a.fam : Nat), V64 x.p.a.hi, V64 x.p.a.lo, .int .i64 x.p.bits, .int .u8 (x.a.fam : Nat), V64 x.a.hi, V64 x.a.lo, S x.owner, S x.to, V64 x.d, V64 x.fr, .int .i64 x.n] ∧ Below w.heap.size w v1 := ⟨hHeld.1.up hbv1, Chain.up hHeld.2 hbv1⟩
  refine hK.out _ _ hS1 ?_
  clear hK K
  refine wpAnyH_take (i := 4) (v := ?_) rfl (by kernel_rfl) (by kernel_rfl) (by kernel_rfl) (fun _ _ _ h => h) (Or.inl ⟨by rfl, ?_⟩) hS1 ?_
  rotate_left
  · intro wq hSw; go_simp; (try with_reducible rfl)
  simp only [Act.put, List.getElem_toArray, List.getElem_cons_succ, List.getElem_cons_zero, List.setIfInBounds_toArray, List.set_cons_zero, List.set_cons_succ]
  refine wpAnyH_one (i := 7) (by kernel_rfl) rfl (fun K hK => ?_)
  simp only [List.getElem_toArray, List.getElem_cons_succ, List.getElem_cons_zero]
  go_simp
  (with_reducible refine (HC2.out _).mono ?_)
  rintro e v2 ⟨rfl, hbv2⟩
  have hS2 : Bx v2 w.heap.size 46 #[.int .u8 (x.op : Nat), .int .u8 (x.client : Nat), V64 x.number, .int .u8 (x.p.a.fam : Nat), V64 x.p.a.hi, V64 x.p.a.lo, .int .i64 x.p.bits, .int .u8 (x.a.fam : Nat), V64 x.a.hi, V64 x.a.lo, S x.owner, S x.to, V64 x.d, V64 x.fr, .int .i64 x.n] ∧ Below w.heap.size w v2 := ⟨hS1.1.up hbv2, Chain.up hS1.2 hbv2⟩
  refine hK.out _ _ hS2 ?_
  clear hK K
  refine wpAnyH_take (i := 8) (v := ?_) rfl (by kernel_rfl) (by kernel_rfl) (by kernel_rfl) (fun _ _ _ h => h) (Or.inl ⟨by rfl, ?_⟩) hS2 ?_
  rotate_left
  · intro wq hSw; go_simp; (try with_reducible rfl)
  simp only [Act.put, List.getElem_toArray, List.getElem_cons_succ, List.getElem_cons_zero, List.setIfInBounds_toArray, List.set_cons_zero, List.set_cons_succ]
  refine wpAnyH_take (i := 9) (v := ?_) rfl (by kernel_rfl) (by kernel_rfl) (by kernel_rfl) (fun _ _ _ h => h) (Or.inl ⟨by rfl, ?_⟩) hS2 ?_
  rotate_left
  · intro wq hSw; go_simp; (try with_reducible rfl)
  simp only [Act.put, List.getElem_toArray, List.getElem_cons_succ, List.getElem_cons_zero, List.setIfInBounds_toArray, List.set_cons_zero, List.set_cons_succ]
  refine wpAnyH_done (by kernel_rfl) ?_ _
  go_wp2_with fail
  go_ret
  exact ⟨by first | (rw [← Hres.out]; rfl) | (rw [← Hres.out]; simp only [k1, k2]; rfl), hS2.2⟩
set_option maxRecDepth 100000 in
set_option maxHeartbeats 8000000 in
theorem refWrite14 (x : P.Ca) (ht : P.tyC x) (ho : x.owner.length ≤ 20000) (hto : x.to.length ≤ 20000) (hop : x.op = 14) (w : World) : Calls Tryd.prog 16 #[caV x] w fun e w' => e = .returned (S (P.bytesC x)) ∧ Below w.heap.size w w' := by
  have h1 := Bx.fresh w 46 #[.int .u8 (x.op : Nat), .int .u8 (x.client : Nat), V64 x.number, .int .u8 (x.p.a.fam : Nat), V64 x.p.a.hi, V64 x.p.a.lo, .int .i64 x.p.bits, .int .u8 (x.a.fam : Nat), V64 x.a.hi, V64 x.a.lo, S x.owner, S x.to, V64 x.d, V64 x.fr, .int .i64 x.n]
  have hA := (Below.refl w.heap.size w).alloc (Nat.le_refl _) (.cells #[.int .u8 (x.op : Nat), .int .u8 (x.client : Nat), V64 x.number, .int .u8 (x.p.a.fam : Nat), V64 x.p.a.hi, V64 x.p.a.lo, .int .i64 x.p.bits, .int .u8 (x.a.fam : Nat), V64 x.a.hi, V64 x.a.lo, S x.owner, S x.to, V64 x.d, V64 x.fr, .int .i64 x.n] 46)
  have HH := Lib.hid (fun wx => refHead_any x ht.1 ht.2.1 ht.2.2.1 wx)
  obtain ⟨L0, hL0⟩ : ∃ L, L = P.headB x.op x.client x.number := ⟨_, rfl⟩
  have hl0 : L0.length ≤ 10 := by rw [hL0, P.headB_len]; exact Nat.le_refl _
  rw [← hL0] at HH
  have HC1 := Lib.hid (fun wx => refPrefix_any x.p ht.2.2.2.1 wx)
  obtain ⟨T1, hT1⟩ : ∃ T, T = P.pxX x.p := ⟨_, rfl⟩
  have ht1 : T1.length ≤ 20100 := by rw [hT1]; have := P.pxX_le x.p; omega
  rw [← hT1] at HC1
  obtain ⟨L1, hL1⟩ : ∃ L, L = L0 ++ T1 := ⟨_, rfl⟩
  have hl1 : L1.length ≤ 20110 := by rw [hL1, List.length_append]; omega
  have k1 := str_catD L0 T1
  rw [← hL1] at k1
  have a1 : ¬ 9223372036854775807 < L0.length + T1.length := by omega
  have HC2 := Lib.hid (fun wx => refOne_any x.n wx)
  obtain ⟨T2, hT2⟩ : ∃ T, T = [P.byI x.n] := ⟨_, rfl⟩
  have ht2 : T2.length ≤ 20100 := by rw [hT2]; simp only [List.length_singleton]; omega
  rw [← hT2] at HC2
  obtain ⟨L2, hL2⟩ : ∃ L, L = L1 ++ T2 := ⟨_, rfl⟩
  have hl2 : L2.length ≤ 40210 := by rw [hL2, List.length_append]; omega
  have k2 := str_catD L1 T2
  rw [← hL2] at k2
  have a2 : ¬ 9223372036854775807 < L1.length + T2.length := by omega
  have Hres := Lib.hid (show L2 = P.bytesC x by rw [hL2, hL1, hL0, hT1, hT2]; unfold P.bytesC; rw [hop]; simp [P.fsB, P.use, P.uses, P.usesL, P.fB, hop])
  clear hL0 hL1 hL2 hT1 hT2
  obtain ⟨⟨c0, c1, c2, c3, c4, c5, c6, c7, c8, c9, c10, c11, c12, c13, c14⟩, -⟩ := h1.cells15
  have t1 : ((x.op : Int) == 1) = false := beq_eq_false_iff_ne.2 (by omega)
  have t2 : ((x.op : Int) == 2) = false := beq_eq_false_iff_ne.2 (by omega)
  have t3 : ((x.op : Int) == 3) = false := beq_eq_false_iff_ne.2 (by omega)
  have t4 : ((x.op : Int) == 4) = false := beq_eq_false_iff_ne.2 (by omega)
  have t5 : ((x.op : Int) == 5) = false := beq_eq_false_iff_ne.2 (by omega)
  have t7 : ((x.op : Int) == 7) = false := beq_eq_false_iff_ne.2 (by omega)
  have t6 : ((x.op : Int) == 6) = false := beq_eq_false_iff_ne.2 (by omega)
  have t8 : ((x.op : Int) == 8) = false := beq_eq_false_iff_ne.2 (by omega)
  have t9 : ((x.op : Int) == 9) = false := beq_eq_false_iff_ne.2 (by omega)
  have t10 : ((x.op : Int) == 10) = false := beq_eq_false_iff_ne.2 (by omega)
  have t11 : ((x.op : Int) == 11) = false := beq_eq_false_iff_ne.2 (by omega)
  have t12 : ((x.op : Int) == 12) = false := beq_eq_false_iff_ne.2 (by omega)
  have t13 : ((x.op : Int) == 13) = false := beq_eq_false_iff_ne.2 (by omega)
  have t14 : ((x.op : Int) == 14) = true := beq_iff_eq.2 (by omega)
  clear hop
  go_enter Tryd.func16, Tryd.ntmps16
  go_upto_region 25 with (go_at_call 43; (with_reducible refine (HH.out _).mono ?_); rintro e w2 ⟨rfl, hb2⟩; have h2 := h1.up hb2; have hA2 := Chain.up hA hb2; have d0 : w2.cell? ⟨w.heap.size, 0, none⟩ = some (.int .u8 (x.op : Nat)) := h2.cell 0)
  refine wp_region_held_drew (S := fun wx => Bx wx w.heap.size 46 #[.int .u8 (x.op : Nat), .int .u8 (x.client : Nat), V64 x.number, .int .u8 (x.p.a.fam : Nat), V64 x.p.a.hi, V64 x.p.a.lo, .int .i64 x.p.bits, .int .u8 (x.a.fam : Nat), V64 x.a.hi, V64 x.a.lo, S x.owner, S x.to, V64 x.d, V64 x.fr, .int .i64 x.n] ∧ Below w.heap.size w wx) (by kernel_rfl) ⟨h2.drew, hA2.drew⟩ (fun hHeld => ?_)
  refine wpAnyH_take (i := 0) (v := ?_) rfl (by kernel_rfl) (by kernel_rfl) (by kernel_rfl) (fun _ _ _ h => h) (Or.inl ⟨by rfl, ?_⟩) hHeld ?_
  rotate_left
  · intro wq hSw; go_simp; (try with_reducible rfl)
  simp only [Act.put, List.getElem_toArray, List.getElem_cons_succ, List.getElem_cons_zero, List.setIfInBounds_toArray, List.set_cons_zero, List.set_cons_succ]
  refine wpAnyH_take (i := 1) (v := ?_) rfl (by kernel_rfl) (by kernel_rfl) (by kernel_rfl) (fun _ _ _ h => h) (Or.inl ⟨by rfl, ?_⟩) hHeld ?_
  rotate_left
  · intro wq hSw; go_simp; (try with_reducible rfl)
  simp only [Act.put, List.getElem_toArray, List.getElem_cons_succ, List.getElem_cons_zero, List.setIfInBounds_toArray, List.set_cons_zero, List.set_cons_succ]
  refine wpAnyH_take (i := 2) (v := ?_) rfl (by kernel_rfl) (by kernel_rfl) (by kernel_rfl) (fun _ _ _ h => h) (Or.inl ⟨by rfl, ?_⟩) hHeld ?_
  rotate_left
  · intro wq hSw; obtain ⟨⟨q0, q1, q2, q3, q4, q5, q6, q7, q8, q9, q10, q11, q12, q13, q14⟩, -⟩ := hSw.1.cells15; go_simp; (try with_reducible rfl)
  simp only [Act.put, List.getElem_toArray, List.getElem_cons_succ, List.getElem_cons_zero, List.setIfInBounds_toArray, List.set_cons_zero, List.set_cons_succ]
  refine wpAnyH_take (i := 5) (v := ?_) rfl (by kernel_rfl) (by kernel_rfl) (by kernel_rfl) (fun _ _ _ h => h) (Or.inl ⟨by rfl, ?_⟩) hHeld ?_
  rotate_left
  · intro wq hSw; go_simp; (try with_reducible rfl)
  simp only [Act.put, List.getElem_toArray, List.getElem_cons_succ, List.getElem_cons_zero, List.setIfInBounds_toArray, List.set_cons_zero, List.set_cons_succ]
  refine wpAnyH_take (i := 6) (v := ?_) rfl (by kernel_rfl) (by kernel_rfl) (by kernel_rfl) (fun _ _ _ h => h) (Or.inl ⟨by rfl, ?_⟩) hHeld ?_
  rotate_left
  · intro wq hSw; obtain ⟨⟨q0, q1, q2, q3, q4, q5, q6, q7, q8, q9, q10, q11, q12, q13, q14⟩, -⟩ := hSw.1.cells15; go_simp; (try with_reducible rfl)
  simp only [Act.put, List.getElem_toArray, List.getElem_cons_succ, List.getElem_cons_zero, List.setIfInBounds_toArray, List.set_cons_zero, List.set_cons_succ]
  refine wpAnyH_one (i := 3) (by kernel_rfl) rfl (fun K hK => ?_)
  simp only [List.getElem_toArray, List.getElem_cons_succ, List.getElem_cons_zero]
  go_simp
  (with_reducible refine (HC1.out _).mono ?_)
  rintro e v1 ⟨rfl, hbv1⟩
  have hS1 : Bx v1 w.heap.size 46 #[.int .u8 (x.op : Nat), .int .u8 (x.client : Nat), V64 x.number, .int .u8 (x.p.a.fam : Nat), V64 x.p.a.hi, V64 x.p.a.lo, .int .i64 x.p.bits, .int .u8 (x.a.fam : Nat), V64 x.a.hi, V64 x.a.lo, S x.owner, S x.to, V64 x.d, V64 x.fr, .int .i64 x.n] ∧ Below w.heap.size w v1 := ⟨hHeld.1.up hbv1, Chain.up hHeld.2 hbv1⟩
  refine hK.out _ _ hS1 ?_
  clear hK K
  refine wpAnyH_take (i := 4) (v := ?_) rfl (by kernel_rfl) (by kernel_rfl) (by kernel_rfl) (fun _ _ _ h => h) (Or.inl ⟨by rfl, ?_⟩) hS1 ?_
  rotate_left
  · intro wq hSw; go_simp; (try with_reducible rfl)
  simp only [Act.put, List.getElem_toArray, List.getElem_cons_succ, List.getElem_cons_zero, List.setIfInBounds_toArray, List.set_cons_zero, List.set_cons_succ]
  refine wpAnyH_one (i := 7) (by kernel_rfl) rfl (fun K hK => ?_)
  simp only [List.getElem_toArray, List.getElem_cons_succ, List.getElem_cons_zero]
  go_simp
  (with_reducible refine (HC2.out _).mono ?_)
  rintro e v2 ⟨rfl, hbv2⟩
  have hS2 : Bx v2 w.heap.size 46 #[.int .u8 (x.op : Nat), .int .u8 (x.client : Nat), V64 x.number, .int .u8 (x.p.a.fam : Nat), V64 x.p.a.hi, V64 x.p.a.lo, .int .i64 x.p.bits, .int .u8 (x.a.fam : Nat), V64 x.a.hi, V64 x.a.lo, S x.owner, S x.to, V64 x.d, V64 x.fr, .int .i64 x.n] ∧ Below w.heap.size w v2 := ⟨hS1.1.up hbv2, Chain.up hS1.2 hbv2⟩
  refine hK.out _ _ hS2 ?_
  clear hK K
  refine wpAnyH_take (i := 8) (v := ?_) rfl (by kernel_rfl) (by kernel_rfl) (by kernel_rfl) (fun _ _ _ h => h) (Or.inl ⟨by rfl, ?_⟩) hS2 ?_
  rotate_left
  · intro wq hSw; go_simp; (try with_reducible rfl)
  simp only [Act.put, List.getElem_toArray, List.getElem_cons_succ, List.getElem_cons_zero, List.setIfInBounds_toArray, List.set_cons_zero, List.set_cons_succ]
  refine wpAnyH_take (i := 9) (v := ?_) rfl (by kernel_rfl) (by kernel_rfl) (by kernel_rfl) (fun _ _ _ h => h) (Or.inl ⟨by rfl, ?_⟩) hS2 ?_
  rotate_left
  · intro wq hSw; go_simp; (try with_reducible rfl)
  simp only [Act.put, List.getElem_toArray, List.getElem_cons_succ, List.getElem_cons_zero, List.setIfInBounds_toArray, List.set_cons_zero, List.set_cons_succ]
  refine wpAnyH_done (by kernel_rfl) ?_ _
  go_wp2_with fail
  go_ret
  exact ⟨by first | (rw [← Hres.out]; rfl) | (rw [← Hres.out]; simp only [k1, k2]; rfl), hS2.2⟩
end Go.Proofs.YtcobfoiajdbahaaDoor

namespace Go.Proofs.YtcobfoiajdbahaaDoor
open Go.RowKit
set_option linter.unusedVariables false
set_option linter.unusedSimpArgs false
set_option maxRecDepth 100000 in
set_option maxHeartbeats 8000000 in
theorem refWrite15 (x : P.Ca) (ht : P.tyC x) (hop : x.op = 15) (w : World) : Calls Tryd.prog 16 #[caV x] w fun e w' => e = .returned (S (P.bytesC x)) ∧ Below w.heap.size w w' := by
  have h1 := Bx.fresh w 46 #[.int .u8 (x.op : Nat), .int .u8 (x.client : Nat), V64 x.number, .int .u8 (x.p.a.fam : Nat), V64 x.p.a.hi, V64 x.p.a.lo, .int .i64 x.p.bits, .int .u8 (x.a.fam : Nat), V64 x.a.hi, V64 x.a.lo, S x.owner, S x.to, V64 x.d, V64 x.fr, .int .i64 x.n]
  have hA := (Below.refl w.heap.size w).alloc (Nat.le_refl _) (.cells #[.int .u8 (x.op : Nat), .int .u8 (x.client : Nat), V64 x.number, .int .u8 (x.p.a.fam : Nat), V64 x.p.a.hi, V64 x.p.a.lo, .int .i64 x.p.bits, .int .u8 (x.a.fam : Nat), V64 x.a.hi, V64 x.a.lo, S x.owner, S x.to, V64 x.d, V64 x.fr, .int .i64 x.n] 46)
  have HH := Lib.hid (fun wx => refHead_any x ht.1 ht.2.1 ht.2.2.1 wx)
  have Hres := Lib.hid (show P.headB x.op x.client x.number = P.bytesC x by unfold P.bytesC; rw [hop]; simp [P.fsB, P.use, P.uses, P.usesL, P.fB, hop])
  generalize P.headB x.op x.client x.number = L0 at *
  generalize P.bytesC x = res at *
  obtain ⟨⟨c0, c1, c2, c3, c4, c5, c6, c7, c8, c9, c10, c11, c12, c13, c14⟩, -⟩ := h1.cells15
  have t1 : ((x.op : Int) == 1) = false := beq_eq_false_iff_ne.2 (by omega)
  have t2 : ((x.op : Int) == 2) = false := beq_eq_false_iff_ne.2 (by omega)
  have t3 : ((x.op : Int) == 3) = false := beq_eq_false_iff_ne.2 (by omega)
  have t4 : ((x.op : Int) == 4) = false := beq_eq_false_iff_ne.2 (by omega)
  have t5 : ((x.op : Int) == 5) = false := beq_eq_false_iff_ne.2 (by omega)
  have t7 : ((x.op : Int) == 7) = false := beq_eq_false_iff_ne.2 (by omega)
  have t6 : ((x.op : Int) == 6) = false := beq_eq_false_iff_ne.2 (by omega)
  have t8 : ((x.op : Int) == 8) = false := beq_eq_false_iff_ne.2 (by omega)
  have t9 : ((x.op : Int) == 9) = false := beq_eq_false_iff_ne.2 (by omega)
  have t10 : ((x.op : Int) == 10) = false := beq_eq_false_iff_ne.2 (by omega)
  have t11 : ((x.op : Int) == 11) = false := beq_eq_false_iff_ne.2 (by omega)
  have t12 : ((x.op : Int) == 12) = false := beq_eq_false_iff_ne.2 (by omega)
  have t13 : ((x.op : Int) == 13) = false := beq_eq_false_iff_ne.2 (by omega)
  have t14 : ((x.op : Int) == 14) = false := beq_eq_false_iff_ne.2 (by omega)
  clear hop
  go_enter Tryd.func16, Tryd.ntmps16
  go_wp2_with (go_at_call 43; (with_reducible refine (HH.out _).mono ?_); rintro e w2 ⟨rfl, hb2⟩; have h2 := h1.up hb2; have hA2 := Chain.up hA hb2; have d0 : w2.cell? ⟨w.heap.size, 0, none⟩ = some (.int .u8 (x.op : Nat)) := h2.cell 0)
  go_ret
  exact ⟨by rw [← Hres.out]; rfl, hA2⟩
theorem refWrite_any (x : P.Ca) (ht : P.tyC x) (ho : x.owner.length ≤ 20000) (hto : x.to.length ≤ 20000) (hk : 1 ≤ x.op ∧ x.op ≤ 15) (w : World) : Calls Tryd.prog 16 #[caV x] w fun e w' => e = .returned (S (P.bytesC x)) ∧ Below w.heap.size w w' := by
  rcases (show x.op = 1 ∨ x.op = 2 ∨ x.op = 3 ∨ x.op = 4 ∨ x.op = 5 ∨ x.op = 6 ∨ x.op = 7 ∨ x.op = 8 ∨ x.op = 9 ∨ x.op = 10 ∨ x.op = 11 ∨ x.op = 12 ∨ x.op = 13 ∨ x.op = 14 ∨ x.op = 15 by omega) with h | h | h | h | h | h | h | h | h | h | h | h | h | h | h
  · exact refWrite1 x ht ho hto h w
  · exact refWrite2 x ht ho hto h w
  · exact refWrite3 x ht ho hto h w
  · exact refWrite4 x ht ho hto h w
  · exact refWrite5 x ht ho hto h w
  · exact refWrite6 x ht ho hto h w
  · exact refWrite7 x ht ho hto h w
  · exact refWrite8 x ht ho hto h w
  · exact refWrite9 x ht ho hto h w
  · exact refWrite10 x ht ho hto h w
  · exact refWrite11 x ht ho hto h w
  · exact refWrite12 x ht ho hto h w
  · exact refWrite13 x ht ho hto h w
  · exact refWrite14 x ht ho hto h w
  · exact refWrite15 x ht h w
end Go.Proofs.YtcobfoiajdbahaaDoor
