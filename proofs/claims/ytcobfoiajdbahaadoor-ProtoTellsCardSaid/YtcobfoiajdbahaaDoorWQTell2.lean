/- The walk of proto.Tell: a clock, nothing; lists that are empty. -/
import Derived.Test.YtcobfoiajdbahaaDoorWQTell
import Derived.Test.YtcobfoiajdbahaaDoorWQAns
namespace Go.Proofs.YtcobfoiajdbahaaDoor
open Go.RowKit
set_option linter.unusedVariables false
set_option linter.unusedSimpArgs false
theorem wrap_midT {z : Int} (h1 : -9223372036854775808 ≤ z) (h2 : z ≤ 9223372036854775807) : IntKind.i64.wrap z = z := by
  unfold IntKind.wrap
  simp [IntKind.signed, IntKind.bits]
  omega
theorem take_flat {α : Type} (f : α → List UInt8) (l : List α) (j : Nat) (h : j < l.length) : (l.take (j + 1)).flatMap f = (l.take j).flatMap f ++ f l[j] := by
  rw [List.take_add_one, List.getElem?_eq_getElem h, List.flatMap_append]
  simp
theorem flat_len_le {α : Type} (f : α → List UInt8) (b : Nat) (l : List α) (h : ∀ y ∈ l, (f y).length ≤ b) (j : Nat) : ((l.take j).flatMap f).length ≤ b * j := by
  induction j with
  | zero => simp
  | succ j ih =>
    by_cases hj : j < l.length
    · rw [take_flat f l j hj, List.length_append]
      have := h _ (List.getElem_mem hj)
      rw [Nat.mul_add]
      omega
    · rw [List.take_of_length_le (by omega)]
      rw [List.take_of_length_le (by omega)] at ih
      exact Nat.le_trans ih (Nat.mul_le_mul_left _ (by omega))
theorem P.txB_le2 {s : List UInt8} (h : s.length ≤ 2000) : (P.txB s).length ≤ 2009 := by unfold P.txB; rw [List.length_append]; have := P.row_len9 s.length; omega
theorem P.leB_le3 {s : List UInt8} (h : s.length ≤ 2000) (n : Nat) : (P.leB s n).length ≤ 2018 := by unfold P.leB; rw [List.length_append]; have := P.txB_le2 h; have := P.row_len9 n; omega
theorem P.rwB_le {r : P.Rw} (h : r.owner.length ≤ 2000) : (P.rwB r).length ≤ 2035 := by unfold P.rwB; rw [List.length_append]; have := P.adX_le r.a; have := P.leB_le3 h r.til; omega
theorem P.evB_le {r : P.Ev} (h : r.owner.length ≤ 2000) : (P.evB r).length ≤ 2035 := by unfold P.evB; simp only [List.length_cons, List.length_append]; have := P.txB_le2 h; have := P.row_len9 r.at'; have := P.row_len9 r.til; omega
theorem infoRw1 : (Tryd.prog.info? 80).map (·.size) = some 5 := by kernel_rfl
theorem infoEv1 : (Tryd.prog.info? 82).map (·.size) = some 4 := by kernel_rfl
set_option maxRecDepth 100000 in
set_option maxHeartbeats 8000000 in
theorem tell_clock (x : P.Ca) (a : P.An) (r : Option Addr) (rc : Nat) (v : Option Addr) (vc : Nat) (p : Option Addr) (pc : Nat) (ht : P.tyC x) (hta : P.tyAn a) (hop : x.op = 15) (w : World) :
    Calls Tryd.prog 21 #[caV x, anV a r rc v vc p pc, .int .i64 0] w fun e' w' => e' = .returned (S (P.tellB x.op x.client x.number a 0)) ∧ Below w.heap.size w w' := by
  obtain ⟨hc, ha, hwb, hA⟩ := three_bx w #[.int .u8 (x.op : Nat), .int .u8 (x.client : Nat), V64 x.number, .int .u8 (x.p.a.fam : Nat), V64 x.p.a.hi, V64 x.p.a.lo, .int .i64 x.p.bits, .int .u8 (x.a.fam : Nat), V64 x.a.hi, V64 x.a.lo, S x.owner, S x.to, V64 x.d, V64 x.fr, .int .i64 x.n] #[.int .u8 (a.a.fam : Nat), V64 a.a.hi, V64 a.a.lo, S a.owner, V64 a.til, .int .u8 (a.pool.a.fam : Nat), V64 a.pool.a.hi, V64 a.pool.a.lo, .int .i64 a.pool.bits, .bool a.has, .bool a.held, .bool a.live, V64 a.clock, .slice r a.rows.length rc, .slice v a.events.length vc, .slice p a.pools.length pc] #[.slice none 0 0] 28 36 87
  obtain ⟨L0, hL0⟩ : ∃ L : List UInt8, L = [] := ⟨_, rfl⟩
  have hl0 : L0.length ≤ 0 := by rw [hL0]; exact Nat.le_refl _
  obtain ⟨L1, hL1⟩ : ∃ L, L = L0 ++ [P.byI 0] := ⟨_, rfl⟩
  have hl1 : L1.length ≤ 1 := by rw [hL1, List.length_append]; simp only [List.length_singleton]; omega
  have H1 := Lib.hid (fun wx (h : Wr wx (w.heap.size + 1 + 1) L0) => show Calls Tryd.prog 36 #[.pointer (some ⟨w.heap.size + 1 + 1, 0, none⟩), .int .i64 0] wx fun e w' => e = .returned (.tuple #[]) ∧ Wr w' (w.heap.size + 1 + 1) L1 ∧ Below (w.heap.size + 1 + 1) wx w' ∧ KeptW (w.heap.size + 1 + 1) wx w' from by rw [hL1]; exact wbyte_any _ L0 0 wx (by omega) h)
  obtain ⟨L2, hL2⟩ : ∃ L, L = L1 ++ P.headB x.op x.client x.number := ⟨_, rfl⟩
  have hl2 : L2.length ≤ 11 := by rw [hL2, List.length_append]; have := P.headB_len x.op x.client x.number; omega
  have H2 := Lib.hid (fun wx (h : Wr wx (w.heap.size + 1 + 1) L1) => show Calls Tryd.prog 31 #[.pointer (some ⟨w.heap.size + 1 + 1, 0, none⟩), caV x] wx fun e w' => e = .returned (.tuple #[]) ∧ Wr w' (w.heap.size + 1 + 1) L2 ∧ Below (w.heap.size + 1 + 1) wx w' ∧ KeptW (w.heap.size + 1 + 1) wx w' from by rw [hL2]; exact whead_any _ L1 x wx (by omega) h ht.1 ht.2.1 ht.2.2.1)
  obtain ⟨L3, hL3⟩ : ∃ L, L = L2 ++ P.row a.clock := ⟨_, rfl⟩
  have hl3 : L3.length ≤ 20 := by rw [hL3, List.length_append]; have := P.row_len9 a.clock; omega
  have H3 := Lib.hid (fun wx (h : Wr wx (w.heap.size + 1 + 1) L2) => show Calls Tryd.prog 35 #[.pointer (some ⟨w.heap.size + 1 + 1, 0, none⟩), V64 a.clock] wx fun e w' => e = .returned (.tuple #[]) ∧ Wr w' (w.heap.size + 1 + 1) L3 ∧ Below (w.heap.size + 1 + 1) wx w' ∧ KeptW (w.heap.size + 1 + 1) wx w' from by rw [hL3]; exact wnumber_any _ L2 a.clock wx (by omega) h hta.2.2.2.1)
  have Hres := Lib.hid (show L3 = P.tellB x.op x.client x.number a 0 by rw [hop]; unfold P.tellB P.tailB; simp only [hL3, hL2, hL1, hL0, hop]; simp)
  clear hL3 hL2 hL1
  have t5 : ((x.op : Int) == 5) = false := beq_eq_false_iff_ne.2 (by omega)
  have t6 : ((x.op : Int) == 6) = false := beq_eq_false_iff_ne.2 (by omega)
  have t7 : ((x.op : Int) == 7) = false := beq_eq_false_iff_ne.2 (by omega)
  have t10 : ((x.op : Int) == 10) = false := beq_eq_false_iff_ne.2 (by omega)
  have t11 : ((x.op : Int) == 11) = false := beq_eq_false_iff_ne.2 (by omega)
  have t12 : ((x.op : Int) == 12) = false := beq_eq_false_iff_ne.2 (by omega)
  have t13 : ((x.op : Int) == 13) = false := beq_eq_false_iff_ne.2 (by omega)
  have t14 : ((x.op : Int) == 14) = false := beq_eq_false_iff_ne.2 (by omega)
  have t15 : ((x.op : Int) == 15) = true := beq_iff_eq.2 (by omega)
  clear hop
  go_enter Tryd.func21, Tryd.ntmps21
  go_upto_region 2 with fail
  generalize hW : ((w.alloc (.cells #[.int .u8 (x.op : Nat), .int .u8 (x.client : Nat), V64 x.number, .int .u8 (x.p.a.fam : Nat), V64 x.p.a.hi, V64 x.p.a.lo, .int .i64 x.p.bits, .int .u8 (x.a.fam : Nat), V64 x.a.hi, V64 x.a.lo, S x.owner, S x.to, V64 x.d, V64 x.fr, .int .i64 x.n] 28)).alloc (.cells #[.int .u8 (a.a.fam : Nat), V64 a.a.hi, V64 a.a.lo, S a.owner, V64 a.til, .int .u8 (a.pool.a.fam : Nat), V64 a.pool.a.hi, V64 a.pool.a.lo, .int .i64 a.pool.bits, .bool a.has, .bool a.held, .bool a.live, V64 a.clock, .slice r a.rows.length rc, .slice v a.events.length vc, .slice p a.pools.length pc] 36)).alloc (.cells #[.slice none 0 0] 87) = w1 at *
  clear hW
  have hW0 : Wr w1 (w.heap.size + 1 + 1) L0 := by rw [hL0]; exact ⟨none, 0, hwb, own_nil _ _⟩
  clear hwb
  go_wp2_with (first
    | (go_at_call 36; (with_reducible refine (H1.out _ hW0).mono ?_); rintro e w2 ⟨rfl, hW1, hb1, -⟩; have hc1 := hc.below hb1 (by omega); have ha1 := ha.below hb1 (by omega); have hA1 := hA.trans (hb1.mono (by omega)); obtain ⟨⟨c0, c1, c2, c3, c4, c5, c6, c7, c8, c9, c10, c11, c12, c13, c14⟩, -⟩ := hc1.cells15; skip)
    | (go_at_call 31; (with_reducible refine (H2.out _ hW1).mono ?_); rintro e w3 ⟨rfl, hW2, hb2, -⟩; have hc2 := hc1.below hb2 (by omega); have ha2 := ha1.below hb2 (by omega); have hA2 := hA1.trans (hb2.mono (by omega)); obtain ⟨⟨c0, -, -, -, -, -, -, -, -, -, -, -, -, -, -⟩, -⟩ := hc2.cells15; obtain ⟨⟨-, -, -, -, -, -, -, -, -, -, -, -, a12, -, -, -⟩, -⟩ := ha2.cells16; skip)
    | (go_at_call 35; (with_reducible refine (H3.out _ hW2).mono ?_); rintro e w4 ⟨rfl, hW3, hb3, -⟩; have hc3 := hc2.below hb3 (by omega); have ha3 := ha2.below hb3 (by omega); have hA3 := hA2.trans (hb3.mono (by omega)); obtain ⟨sa, sc, hwx, hwo⟩ := hW3; have q0 := hwx.cell 0; skip)
    | (refine wpList_conv_own (by rfl) hwo ?_))
  go_ret
  exact ⟨by rw [Hres.out]; rfl, hA3⟩
set_option maxRecDepth 100000 in
set_option maxHeartbeats 8000000 in
theorem tell_other (x : P.Ca) (a : P.An) (r : Option Addr) (rc : Nat) (v : Option Addr) (vc : Nat) (p : Option Addr) (pc : Nat) (ht : P.tyC x) (hta : P.tyAn a) (hop : ¬ (5 ≤ x.op ∧ x.op ≤ 7) ∧ ¬ (10 ≤ x.op ∧ x.op ≤ 15)) (w : World) :
    Calls Tryd.prog 21 #[caV x, anV a r rc v vc p pc, .int .i64 0] w fun e' w' => e' = .returned (S (P.tellB x.op x.client x.number a 0)) ∧ Below w.heap.size w w' := by
  obtain ⟨hc, ha, hwb, hA⟩ := three_bx w #[.int .u8 (x.op : Nat), .int .u8 (x.client : Nat), V64 x.number, .int .u8 (x.p.a.fam : Nat), V64 x.p.a.hi, V64 x.p.a.lo, .int .i64 x.p.bits, .int .u8 (x.a.fam : Nat), V64 x.a.hi, V64 x.a.lo, S x.owner, S x.to, V64 x.d, V64 x.fr, .int .i64 x.n] #[.int .u8 (a.a.fam : Nat), V64 a.a.hi, V64 a.a.lo, S a.owner, V64 a.til, .int .u8 (a.pool.a.fam : Nat), V64 a.pool.a.hi, V64 a.pool.a.lo, .int .i64 a.pool.bits, .bool a.has, .bool a.held, .bool a.live, V64 a.clock, .slice r a.rows.length rc, .slice v a.events.length vc, .slice p a.pools.length pc] #[.slice none 0 0] 28 36 87
  obtain ⟨L0, hL0⟩ : ∃ L : List UInt8, L = [] := ⟨_, rfl⟩
  have hl0 : L0.length ≤ 0 := by rw [hL0]; exact Nat.le_refl _
  obtain ⟨L1, hL1⟩ : ∃ L, L = L0 ++ [P.byI 0] := ⟨_, rfl⟩
  have hl1 : L1.length ≤ 1 := by rw [hL1, List.length_append]; simp only [List.length_singleton]; omega
  have H1 := Lib.hid (fun wx (h : Wr wx (w.heap.size + 1 + 1) L0) => show Calls Tryd.prog 36 #[.pointer (some ⟨w.heap.size + 1 + 1, 0, none⟩), .int .i64 0] wx fun e w' => e = .returned (.tuple #[]) ∧ Wr w' (w.heap.size + 1 + 1) L1 ∧ Below (w.heap.size + 1 + 1) wx w' ∧ KeptW (w.heap.size + 1 + 1) wx w' from by rw [hL1]; exact wbyte_any _ L0 0 wx (by omega) h)
  obtain ⟨L2, hL2⟩ : ∃ L, L = L1 ++ P.headB x.op x.client x.number := ⟨_, rfl⟩
  have hl2 : L2.length ≤ 11 := by rw [hL2, List.length_append]; have := P.headB_len x.op x.client x.number; omega
  have H2 := Lib.hid (fun wx (h : Wr wx (w.heap.size + 1 + 1) L1) => show Calls Tryd.prog 31 #[.pointer (some ⟨w.heap.size + 1 + 1, 0, none⟩), caV x] wx fun e w' => e = .returned (.tuple #[]) ∧ Wr w' (w.heap.size + 1 + 1) L2 ∧ Below (w.heap.size + 1 + 1) wx w' ∧ KeptW (w.heap.size + 1 + 1) wx w' from by rw [hL2]; exact whead_any _ L1 x wx (by omega) h ht.1 ht.2.1 ht.2.2.1)
  have Hres := Lib.hid (show L2 = P.tellB x.op x.client x.number a 0 by unfold P.tellB P.tailB; rw [if_pos rfl, if_neg hop.1, if_neg (by omega), if_neg (by omega), if_neg (by omega), if_neg (by omega), if_neg (by omega), hL2, hL1, hL0]; simp)
  clear hL2 hL1
  have t5 : ((x.op : Int) == 5) = false := beq_eq_false_iff_ne.2 (by omega)
  have t6 : ((x.op : Int) == 6) = false := beq_eq_false_iff_ne.2 (by omega)
  have t7 : ((x.op : Int) == 7) = false := beq_eq_false_iff_ne.2 (by omega)
  have t10 : ((x.op : Int) == 10) = false := beq_eq_false_iff_ne.2 (by omega)
  have t11 : ((x.op : Int) == 11) = false := beq_eq_false_iff_ne.2 (by omega)
  have t12 : ((x.op : Int) == 12) = false := beq_eq_false_iff_ne.2 (by omega)
  have t13 : ((x.op : Int) == 13) = false := beq_eq_false_iff_ne.2 (by omega)
  have t14 : ((x.op : Int) == 14) = false := beq_eq_false_iff_ne.2 (by omega)
  have t15 : ((x.op : Int) == 15) = false := beq_eq_false_iff_ne.2 (by omega)
  clear hop
  go_enter Tryd.func21, Tryd.ntmps21
  go_upto_region 2 with fail
  generalize hW : ((w.alloc (.cells #[.int .u8 (x.op : Nat), .int .u8 (x.client : Nat), V64 x.number, .int .u8 (x.p.a.fam : Nat), V64 x.p.a.hi, V64 x.p.a.lo, .int .i64 x.p.bits, .int .u8 (x.a.fam : Nat), V64 x.a.hi, V64 x.a.lo, S x.owner, S x.to, V64 x.d, V64 x.fr, .int .i64 x.n] 28)).alloc (.cells #[.int .u8 (a.a.fam : Nat), V64 a.a.hi, V64 a.a.lo, S a.owner, V64 a.til, .int .u8 (a.pool.a.fam : Nat), V64 a.pool.a.hi, V64 a.pool.a.lo, .int .i64 a.pool.bits, .bool a.has, .bool a.held, .bool a.live, V64 a.clock, .slice r a.rows.length rc, .slice v a.events.length vc, .slice p a.pools.length pc] 36)).alloc (.cells #[.slice none 0 0] 87) = w1 at *
  clear hW
  have hW0 : Wr w1 (w.heap.size + 1 + 1) L0 := by rw [hL0]; exact ⟨none, 0, hwb, own_nil _ _⟩
  clear hwb
  go_wp2_with (first
    | (go_at_call 36; (with_reducible refine (H1.out _ hW0).mono ?_); rintro e w2 ⟨rfl, hW1, hb1, -⟩; have hc1 := hc.below hb1 (by omega); have ha1 := ha.below hb1 (by omega); have hA1 := hA.trans (hb1.mono (by omega)); obtain ⟨⟨c0, c1, c2, c3, c4, c5, c6, c7, c8, c9, c10, c11, c12, c13, c14⟩, -⟩ := hc1.cells15; skip)
    | (go_at_call 31; (with_reducible refine (H2.out _ hW1).mono ?_); rintro e w3 ⟨rfl, hW2, hb2, -⟩; have hc2 := hc1.below hb2 (by omega); have ha2 := ha1.below hb2 (by omega); have hA2 := hA1.trans (hb2.mono (by omega)); obtain ⟨⟨c0, -, -, -, -, -, -, -, -, -, -, -, -, -, -⟩, -⟩ := hc2.cells15; obtain ⟨sa, sc, hwx, hwo⟩ := hW2; have q0 := hwx.cell 0; skip)
    | (refine wpList_conv_own (by rfl) hwo ?_))
  go_ret
  exact ⟨by rw [Hres.out]; rfl, hA2⟩
set_option maxRecDepth 100000 in
set_option maxHeartbeats 8000000 in
theorem tell_rows0 (x : P.Ca) (a : P.An) (r : Option Addr) (rc : Nat) (v : Option Addr) (vc : Nat) (p : Option Addr) (pc : Nat) (ht : P.tyC x) (hta : P.tyAn a) (hn : a.rows.length ≤ 40) (hos : ∀ y ∈ a.rows, y.owner.length ≤ 2000) (hop : x.op = 11) (w : World) (hr : a.rows.length = 0) :
    Calls Tryd.prog 21 #[caV x, anV a r rc v vc p pc, .int .i64 0] w fun e' w' => e' = .returned (S (P.tellB x.op x.client x.number a 0)) ∧ Below w.heap.size w w' := by
  obtain ⟨hc, ha, hwb, hA⟩ := three_bx w #[.int .u8 (x.op : Nat), .int .u8 (x.client : Nat), V64 x.number, .int .u8 (x.p.a.fam : Nat), V64 x.p.a.hi, V64 x.p.a.lo, .int .i64 x.p.bits, .int .u8 (x.a.fam : Nat), V64 x.a.hi, V64 x.a.lo, S x.owner, S x.to, V64 x.d, V64 x.fr, .int .i64 x.n] #[.int .u8 (a.a.fam : Nat), V64 a.a.hi, V64 a.a.lo, S a.owner, V64 a.til, .int .u8 (a.pool.a.fam : Nat), V64 a.pool.a.hi, V64 a.pool.a.lo, .int .i64 a.pool.bits, .bool a.has, .bool a.held, .bool a.live, V64 a.clock, .slice r a.rows.length rc, .slice v a.events.length vc, .slice p a.pools.length pc] #[.slice none 0 0] 28 36 87
  obtain ⟨L0, hL0⟩ : ∃ L : List UInt8, L = [] := ⟨_, rfl⟩
  have hl0 : L0.length ≤ 0 := by rw [hL0]; exact Nat.le_refl _
  have Hr := Lib.hid hr
  clear hr
  obtain ⟨L1, hL1⟩ : ∃ L, L = L0 ++ [P.byI 0] := ⟨_, rfl⟩
  have hl1 : L1.length ≤ 1 := by rw [hL1, List.length_append]; simp only [List.length_singleton]; omega
  have H1 := Lib.hid (fun wx (h : Wr wx (w.heap.size + 1 + 1) L0) => show Calls Tryd.prog 36 #[.pointer (some ⟨w.heap.size + 1 + 1, 0, none⟩), .int .i64 0] wx fun e w' => e = .returned (.tuple #[]) ∧ Wr w' (w.heap.size + 1 + 1) L1 ∧ Below (w.heap.size + 1 + 1) wx w' ∧ KeptW (w.heap.size + 1 + 1) wx w' from by rw [hL1]; exact wbyte_any _ L0 0 wx (by omega) h)
  obtain ⟨L2, hL2⟩ : ∃ L, L = L1 ++ P.headB x.op x.client x.number := ⟨_, rfl⟩
  have hl2 : L2.length ≤ 11 := by rw [hL2, List.length_append]; have := P.headB_len x.op x.client x.number; omega
  have H2 := Lib.hid (fun wx (h : Wr wx (w.heap.size + 1 + 1) L1) => show Calls Tryd.prog 31 #[.pointer (some ⟨w.heap.size + 1 + 1, 0, none⟩), caV x] wx fun e w' => e = .returned (.tuple #[]) ∧ Wr w' (w.heap.size + 1 + 1) L2 ∧ Below (w.heap.size + 1 + 1) wx w' ∧ KeptW (w.heap.size + 1 + 1) wx w' from by rw [hL2]; exact whead_any _ L1 x wx (by omega) h ht.1 ht.2.1 ht.2.2.1)
  obtain ⟨L3, hL3⟩ : ∃ L, L = L2 ++ [P.byI (a.rows.length : Int)] := ⟨_, rfl⟩
  have hl3 : L3.length ≤ 12 := by rw [hL3, List.length_append]; simp only [List.length_singleton]; omega
  have H3 := Lib.hid (fun wx (h : Wr wx (w.heap.size + 1 + 1) L2) => show Calls Tryd.prog 36 #[.pointer (some ⟨w.heap.size + 1 + 1, 0, none⟩), .int .i64 (a.rows.length : Int)] wx fun e w' => e = .returned (.tuple #[]) ∧ Wr w' (w.heap.size + 1 + 1) L3 ∧ Below (w.heap.size + 1 + 1) wx w' ∧ KeptW (w.heap.size + 1 + 1) wx w' from by rw [hL3]; exact wbyte_any _ L2 (a.rows.length : Int) wx (by omega) h)
  have Hres := Lib.hid (show L3 ++ (a.rows.take a.rows.length).flatMap P.rwB = P.tellB x.op x.client x.number a 0 by rw [List.take_length, hL3, hL2, hL1, hL0]; unfold P.tellB P.tailB; simp only [hop]; simp)
  clear hL3 hL2 hL1
  have t5 : ((x.op : Int) == 5) = false := beq_eq_false_iff_ne.2 (by omega)
  have t6 : ((x.op : Int) == 6) = false := beq_eq_false_iff_ne.2 (by omega)
  have t7 : ((x.op : Int) == 7) = false := beq_eq_false_iff_ne.2 (by omega)
  have t10 : ((x.op : Int) == 10) = false := beq_eq_false_iff_ne.2 (by omega)
  have t11 : ((x.op : Int) == 11) = true := beq_iff_eq.2 (by omega)
  clear hop
  go_enter Tryd.func21, Tryd.ntmps21
  go_upto_region 2 with fail
  generalize hW : ((w.alloc (.cells #[.int .u8 (x.op : Nat), .int .u8 (x.client : Nat), V64 x.number, .int .u8 (x.p.a.fam : Nat), V64 x.p.a.hi, V64 x.p.a.lo, .int .i64 x.p.bits, .int .u8 (x.a.fam : Nat), V64 x.a.hi, V64 x.a.lo, S x.owner, S x.to, V64 x.d, V64 x.fr, .int .i64 x.n] 28)).alloc (.cells #[.int .u8 (a.a.fam : Nat), V64 a.a.hi, V64 a.a.lo, S a.owner, V64 a.til, .int .u8 (a.pool.a.fam : Nat), V64 a.pool.a.hi, V64 a.pool.a.lo, .int .i64 a.pool.bits, .bool a.has, .bool a.held, .bool a.live, V64 a.clock, .slice r a.rows.length rc, .slice v a.events.length vc, .slice p a.pools.length pc] 36)).alloc (.cells #[.slice none 0 0] 87) = w1 at *
  clear hW
  have hW0 : Wr w1 (w.heap.size + 1 + 1) L0 := by rw [hL0]; exact ⟨none, 0, hwb, own_nil _ _⟩
  clear hwb
  go_wp2_with (first
    | (go_at_call 36; (with_reducible refine (H1.out _ hW0).mono ?_); rintro e w2 ⟨rfl, hW1, hb1, -⟩; have hc1 := hc.below hb1 (by omega); have ha1 := ha.below hb1 (by omega); have hA1 := hA.trans (hb1.mono (by omega)); obtain ⟨⟨c0, c1, c2, c3, c4, c5, c6, c7, c8, c9, c10, c11, c12, c13, c14⟩, -⟩ := hc1.cells15; skip)
    | (go_at_call 31; (with_reducible refine (H2.out _ hW1).mono ?_); rintro e w3 ⟨rfl, hW2, hb2, -⟩; have hc2 := hc1.below hb2 (by omega); have ha2 := ha1.below hb2 (by omega); have hA2 := hA1.trans (hb2.mono (by omega)); obtain ⟨⟨c0, -, -, -, -, -, -, -, -, -, -, -, -, -, -⟩, -⟩ := hc2.cells15; obtain ⟨⟨-, -, -, -, -, -, -, -, -, -, -, -, -, a13, -, -⟩, -⟩ := ha2.cells16; skip)
    | (go_at_call 36; (with_reducible refine (H3.out _ hW2).mono ?_); rintro e w4 ⟨rfl, hW3, hb3, -⟩; have hc3 := hc2.below hb3 (by omega); have ha3 := ha2.below hb3 (by omega); have hA3 := hA2.trans (hb3.mono (by omega)); obtain ⟨⟨-, -, -, -, -, -, -, -, -, -, -, -, -, a13, -, -⟩, -⟩ := ha3.cells16; skip))
  clear hc ha hA hc1 ha1 hA1 hc2 ha2 hA2 hW0 hW1 hW2 hb1 hb2 hb3 H1 H2 H3 hc3 ha3
  have hG : w.heap.size + 1 + 1 < w4.heap.size := hW3.lt
  go_loopw [9, 58] (fun _ i wr => ∃ j : Nat, j ≤ a.rows.length ∧ i = .int .i64 (j : Int) ∧ Wr wr (w.heap.size + 1 + 1) (L3 ++ (a.rows.take j).flatMap P.rwB) ∧ Below w.heap.size w wr) (fun _ i _ => a.rows.length - (intOf i).toNat)
  case atStart => exact ⟨0, by omega, rfl, by simpa using hW3, hA3⟩
  case round =>
    clear hW3 hA3 hG
    obtain ⟨j, hj, rfl, hW, hb⟩ := hrel
    have hG : w.heap.size + 1 + 1 < wr.heap.size := hW.lt
    by_cases hjn : j < a.rows.length
    · exact absurd hjn (by have := Hr.out; omega)
    · have hji : decide ((j : Int) < (a.rows.length : Int)) = false := decide_eq_false (by omega)
      obtain rfl : j = a.rows.length := by omega
      rw [Hres.out] at hW
      obtain ⟨sa, sc, hwx, hwo⟩ := hW
      have q0 := hwx.cell 0
      go_wp2_with (refine wpList_conv_own (by rfl) hwo ?_)
      go_ret
      exact ⟨rfl, hb⟩
set_option maxRecDepth 100000 in
set_option maxHeartbeats 8000000 in
theorem tell_events0 (x : P.Ca) (a : P.An) (r : Option Addr) (rc : Nat) (v : Option Addr) (vc : Nat) (p : Option Addr) (pc : Nat) (ht : P.tyC x) (hta : P.tyAn a) (hn : a.events.length ≤ 40) (hos : ∀ y ∈ a.events, y.owner.length ≤ 2000) (hop : x.op = 12) (w : World) (hr : a.events.length = 0) :
    Calls Tryd.prog 21 #[caV x, anV a r rc v vc p pc, .int .i64 0] w fun e' w' => e' = .returned (S (P.tellB x.op x.client x.number a 0)) ∧ Below w.heap.size w w' := by
  obtain ⟨hc, ha, hwb, hA⟩ := three_bx w #[.int .u8 (x.op : Nat), .int .u8 (x.client : Nat), V64 x.number, .int .u8 (x.p.a.fam : Nat), V64 x.p.a.hi, V64 x.p.a.lo, .int .i64 x.p.bits, .int .u8 (x.a.fam : Nat), V64 x.a.hi, V64 x.a.lo, S x.owner, S x.to, V64 x.d, V64 x.fr, .int .i64 x.n] #[.int .u8 (a.a.fam : Nat), V64 a.a.hi, V64 a.a.lo, S a.owner, V64 a.til, .int .u8 (a.pool.a.fam : Nat), V64 a.pool.a.hi, V64 a.pool.a.lo, .int .i64 a.pool.bits, .bool a.has, .bool a.held, .bool a.live, V64 a.clock, .slice r a.rows.length rc, .slice v a.events.length vc, .slice p a.pools.length pc] #[.slice none 0 0] 28 36 87
  obtain ⟨L0, hL0⟩ : ∃ L : List UInt8, L = [] := ⟨_, rfl⟩
  have hl0 : L0.length ≤ 0 := by rw [hL0]; exact Nat.le_refl _
  have Hr := Lib.hid hr
  clear hr
  obtain ⟨L1, hL1⟩ : ∃ L, L = L0 ++ [P.byI 0] := ⟨_, rfl⟩
  have hl1 : L1.length ≤ 1 := by rw [hL1, List.length_append]; simp only [List.length_singleton]; omega
  have H1 := Lib.hid (fun wx (h : Wr wx (w.heap.size + 1 + 1) L0) => show Calls Tryd.prog 36 #[.pointer (some ⟨w.heap.size + 1 + 1, 0, none⟩), .int .i64 0] wx fun e w' => e = .returned (.tuple #[]) ∧ Wr w' (w.heap.size + 1 + 1) L1 ∧ Below (w.heap.size + 1 + 1) wx w' ∧ KeptW (w.heap.size + 1 + 1) wx w' from by rw [hL1]; exact wbyte_any _ L0 0 wx (by omega) h)
  obtain ⟨L2, hL2⟩ : ∃ L, L = L1 ++ P.headB x.op x.client x.number := ⟨_, rfl⟩
  have hl2 : L2.length ≤ 11 := by rw [hL2, List.length_append]; have := P.headB_len x.op x.client x.number; omega
  have H2 := Lib.hid (fun wx (h : Wr wx (w.heap.size + 1 + 1) L1) => show Calls Tryd.prog 31 #[.pointer (some ⟨w.heap.size + 1 + 1, 0, none⟩), caV x] wx fun e w' => e = .returned (.tuple #[]) ∧ Wr w' (w.heap.size + 1 + 1) L2 ∧ Below (w.heap.size + 1 + 1) wx w' ∧ KeptW (w.heap.size + 1 + 1) wx w' from by rw [hL2]; exact whead_any _ L1 x wx (by omega) h ht.1 ht.2.1 ht.2.2.1)
  obtain ⟨L3, hL3⟩ : ∃ L, L = L2 ++ [P.byI (a.events.length : Int)] := ⟨_, rfl⟩
  have hl3 : L3.length ≤ 12 := by rw [hL3, List.length_append]; simp only [List.length_singleton]; omega
  have H3 := Lib.hid (fun wx (h : Wr wx (w.heap.size + 1 + 1) L2) => show Calls Tryd.prog 36 #[.pointer (some ⟨w.heap.size + 1 + 1, 0, none⟩), .int .i64 (a.events.length : Int)] wx fun e w' => e = .returned (.tuple #[]) ∧ Wr w' (w.heap.size + 1 + 1) L3 ∧ Below (w.heap.size + 1 + 1) wx w' ∧ KeptW (w.heap.size + 1 + 1) wx w' from by rw [hL3]; exact wbyte_any _ L2 (a.events.length : Int) wx (by omega) h)
  have Hres := Lib.hid (show L3 ++ (a.events.take a.events.length).flatMap P.evB = P.tellB x.op x.client x.number a 0 by rw [List.take_length, hL3, hL2, hL1, hL0]; unfold P.tellB P.tailB; simp only [hop]; simp)
  clear hL3 hL2 hL1
  have t5 : ((x.op : Int) == 5) = false := beq_eq_false_iff_ne.2 (by omega)
  have t6 : ((x.op : Int) == 6) = false := beq_eq_false_iff_ne.2 (by omega)
  have t7 : ((x.op : Int) == 7) = false := beq_eq_false_iff_ne.2 (by omega)
  have t10 : ((x.op : Int) == 10) = false := beq_eq_false_iff_ne.2 (by omega)
  have t11 : ((x.op : Int) == 11) = false := beq_eq_false_iff_ne.2 (by omega)
  have t12 : ((x.op : Int) == 12) = true := beq_iff_eq.2 (by omega)
  clear hop
  go_enter Tryd.func21, Tryd.ntmps21
  go_upto_region 2 with fail
  generalize hW : ((w.alloc (.cells #[.int .u8 (x.op : Nat), .int .u8 (x.client : Nat), V64 x.number, .int .u8 (x.p.a.fam : Nat), V64 x.p.a.hi, V64 x.p.a.lo, .int .i64 x.p.bits, .int .u8 (x.a.fam : Nat), V64 x.a.hi, V64 x.a.lo, S x.owner, S x.to, V64 x.d, V64 x.fr, .int .i64 x.n] 28)).alloc (.cells #[.int .u8 (a.a.fam : Nat), V64 a.a.hi, V64 a.a.lo, S a.owner, V64 a.til, .int .u8 (a.pool.a.fam : Nat), V64 a.pool.a.hi, V64 a.pool.a.lo, .int .i64 a.pool.bits, .bool a.has, .bool a.held, .bool a.live, V64 a.clock, .slice r a.rows.length rc, .slice v a.events.length vc, .slice p a.pools.length pc] 36)).alloc (.cells #[.slice none 0 0] 87) = w1 at *
  clear hW
  have hW0 : Wr w1 (w.heap.size + 1 + 1) L0 := by rw [hL0]; exact ⟨none, 0, hwb, own_nil _ _⟩
  clear hwb
  go_wp2_with (first
    | (go_at_call 36; (with_reducible refine (H1.out _ hW0).mono ?_); rintro e w2 ⟨rfl, hW1, hb1, -⟩; have hc1 := hc.below hb1 (by omega); have ha1 := ha.below hb1 (by omega); have hA1 := hA.trans (hb1.mono (by omega)); obtain ⟨⟨c0, c1, c2, c3, c4, c5, c6, c7, c8, c9, c10, c11, c12, c13, c14⟩, -⟩ := hc1.cells15; skip)
    | (go_at_call 31; (with_reducible refine (H2.out _ hW1).mono ?_); rintro e w3 ⟨rfl, hW2, hb2, -⟩; have hc2 := hc1.below hb2 (by omega); have ha2 := ha1.below hb2 (by omega); have hA2 := hA1.trans (hb2.mono (by omega)); obtain ⟨⟨c0, -, -, -, -, -, -, -, -, -, -, -, -, -, -⟩, -⟩ := hc2.cells15; obtain ⟨⟨-, -, -, -, -, -, -, -, -, -, -, -, -, -, a14, -⟩, -⟩ := ha2.cells16; skip)
    | (go_at_call 36; (with_reducible refine (H3.out _ hW2).mono ?_); rintro e w4 ⟨rfl, hW3, hb3, -⟩; have hc3 := hc2.below hb3 (by omega); have ha3 := ha2.below hb3 (by omega); have hA3 := hA2.trans (hb3.mono (by omega)); obtain ⟨⟨-, -, -, -, -, -, -, -, -, -, -, -, -, -, a14, -⟩, -⟩ := ha3.cells16; skip))
  clear hc ha hA hc1 ha1 hA1 hc2 ha2 hA2 hW0 hW1 hW2 hb1 hb2 hb3 H1 H2 H3 hc3 ha3
  have hG : w.heap.size + 1 + 1 < w4.heap.size := hW3.lt
  go_loopw [11, 81] (fun _ i wr => ∃ j : Nat, j ≤ a.events.length ∧ i = .int .i64 (j : Int) ∧ Wr wr (w.heap.size + 1 + 1) (L3 ++ (a.events.take j).flatMap P.evB) ∧ Below w.heap.size w wr) (fun _ i _ => a.events.length - (intOf i).toNat)
  case atStart => exact ⟨0, by omega, rfl, by simpa using hW3, hA3⟩
  case round =>
    clear hW3 hA3 hG
    obtain ⟨j, hj, rfl, hW, hb⟩ := hrel
    have hG : w.heap.size + 1 + 1 < wr.heap.size := hW.lt
    by_cases hjn : j < a.events.length
    · exact absurd hjn (by have := Hr.out; omega)
    · have hji : decide ((j : Int) < (a.events.length : Int)) = false := decide_eq_false (by omega)
      obtain rfl : j = a.events.length := by omega
      rw [Hres.out] at hW
      obtain ⟨sa, sc, hwx, hwo⟩ := hW
      have q0 := hwx.cell 0
      go_wp2_with (refine wpList_conv_own (by rfl) hwo ?_)
      go_ret
      exact ⟨rfl, hb⟩
set_option maxRecDepth 100000 in
set_option maxHeartbeats 8000000 in
theorem tell_pools0 (x : P.Ca) (a : P.An) (r : Option Addr) (rc : Nat) (v : Option Addr) (vc : Nat) (p : Option Addr) (pc : Nat) (ht : P.tyC x) (hta : P.tyAn a) (hn : a.pools.length ≤ 40) (hop : x.op = 13 ∨ x.op = 14) (w : World) (hr : a.pools.length = 0) :
    Calls Tryd.prog 21 #[caV x, anV a r rc v vc p pc, .int .i64 0] w fun e' w' => e' = .returned (S (P.tellB x.op x.client x.number a 0)) ∧ Below w.heap.size w w' := by
  obtain ⟨hc, ha, hwb, hA⟩ := three_bx w #[.int .u8 (x.op : Nat), .int .u8 (x.client : Nat), V64 x.number, .int .u8 (x.p.a.fam : Nat), V64 x.p.a.hi, V64 x.p.a.lo, .int .i64 x.p.bits, .int .u8 (x.a.fam : Nat), V64 x.a.hi, V64 x.a.lo, S x.owner, S x.to, V64 x.d, V64 x.fr, .int .i64 x.n] #[.int .u8 (a.a.fam : Nat), V64 a.a.hi, V64 a.a.lo, S a.owner, V64 a.til, .int .u8 (a.pool.a.fam : Nat), V64 a.pool.a.hi, V64 a.pool.a.lo, .int .i64 a.pool.bits, .bool a.has, .bool a.held, .bool a.live, V64 a.clock, .slice r a.rows.length rc, .slice v a.events.length vc, .slice p a.pools.length pc] #[.slice none 0 0] 28 36 87
  obtain ⟨L0, hL0⟩ : ∃ L : List UInt8, L = [] := ⟨_, rfl⟩
  have hl0 : L0.length ≤ 0 := by rw [hL0]; exact Nat.le_refl _
  have Hr := Lib.hid hr
  clear hr
  obtain ⟨L1, hL1⟩ : ∃ L, L = L0 ++ [P.byI 0] := ⟨_, rfl⟩
  have hl1 : L1.length ≤ 1 := by rw [hL1, List.length_append]; simp only [List.length_singleton]; omega
  have H1 := Lib.hid (fun wx (h : Wr wx (w.heap.size + 1 + 1) L0) => show Calls Tryd.prog 36 #[.pointer (some ⟨w.heap.size + 1 + 1, 0, none⟩), .int .i64 0] wx fun e w' => e = .returned (.tuple #[]) ∧ Wr w' (w.heap.size + 1 + 1) L1 ∧ Below (w.heap.size + 1 + 1) wx w' ∧ KeptW (w.heap.size + 1 + 1) wx w' from by rw [hL1]; exact wbyte_any _ L0 0 wx (by omega) h)
  obtain ⟨L2, hL2⟩ : ∃ L, L = L1 ++ P.headB x.op x.client x.number := ⟨_, rfl⟩
  have hl2 : L2.length ≤ 11 := by rw [hL2, List.length_append]; have := P.headB_len x.op x.client x.number; omega
  have H2 := Lib.hid (fun wx (h : Wr wx (w.heap.size + 1 + 1) L1) => show Calls Tryd.prog 31 #[.pointer (some ⟨w.heap.size + 1 + 1, 0, none⟩), caV x] wx fun e w' => e = .returned (.tuple #[]) ∧ Wr w' (w.heap.size + 1 + 1) L2 ∧ Below (w.heap.size + 1 + 1) wx w' ∧ KeptW (w.heap.size + 1 + 1) wx w' from by rw [hL2]; exact whead_any _ L1 x wx (by omega) h ht.1 ht.2.1 ht.2.2.1)
  obtain ⟨L3, hL3⟩ : ∃ L, L = L2 ++ [P.byI (a.pools.length : Int)] := ⟨_, rfl⟩
  have hl3 : L3.length ≤ 12 := by rw [hL3, List.length_append]; simp only [List.length_singleton]; omega
  have H3 := Lib.hid (fun wx (h : Wr wx (w.heap.size + 1 + 1) L2) => show Calls Tryd.prog 36 #[.pointer (some ⟨w.heap.size + 1 + 1, 0, none⟩), .int .i64 (a.pools.length : Int)] wx fun e w' => e = .returned (.tuple #[]) ∧ Wr w' (w.heap.size + 1 + 1) L3 ∧ Below (w.heap.size + 1 + 1) wx w' ∧ KeptW (w.heap.size + 1 + 1) wx w' from by rw [hL3]; exact wbyte_any _ L2 (a.pools.length : Int) wx (by omega) h)
  have Hres := Lib.hid (show L3 ++ (a.pools.take a.pools.length).flatMap P.pxX = P.tellB x.op x.client x.number a 0 by rw [List.take_length, hL3, hL2, hL1, hL0]; unfold P.tellB P.tailB; rcases hop with hop | hop <;> (simp only [hop]; simp))
  clear hL3 hL2 hL1
  rcases hop with hop | hop
  · skip
    have t5 : ((x.op : Int) == 5) = false := beq_eq_false_iff_ne.2 (by omega)
    have t6 : ((x.op : Int) == 6) = false := beq_eq_false_iff_ne.2 (by omega)
    have t7 : ((x.op : Int) == 7) = false := beq_eq_false_iff_ne.2 (by omega)
    have t10 : ((x.op : Int) == 10) = false := beq_eq_false_iff_ne.2 (by omega)
    have t11 : ((x.op : Int) == 11) = false := beq_eq_false_iff_ne.2 (by omega)
    have t12 : ((x.op : Int) == 12) = false := beq_eq_false_iff_ne.2 (by omega)
    have t13 : ((x.op : Int) == 13) = true := beq_iff_eq.2 (by omega)
    clear hop
    go_enter Tryd.func21, Tryd.ntmps21
    go_upto_region 2 with fail
    generalize hW : ((w.alloc (.cells #[.int .u8 (x.op : Nat), .int .u8 (x.client : Nat), V64 x.number, .int .u8 (x.p.a.fam : Nat), V64 x.p.a.hi, V64 x.p.a.lo, .int .i64 x.p.bits, .int .u8 (x.a.fam : Nat), V64 x.a.hi, V64 x.a.lo, S x.owner, S x.to, V64 x.d, V64 x.fr, .int .i64 x.n] 28)).alloc (.cells #[.int .u8 (a.a.fam : Nat), V64 a.a.hi, V64 a.a.lo, S a.owner, V64 a.til, .int .u8 (a.pool.a.fam : Nat), V64 a.pool.a.hi, V64 a.pool.a.lo, .int .i64 a.pool.bits, .bool a.has, .bool a.held, .bool a.live, V64 a.clock, .slice r a.rows.length rc, .slice v a.events.length vc, .slice p a.pools.length pc] 36)).alloc (.cells #[.slice none 0 0] 87) = w1 at *
    clear hW
    have hW0 : Wr w1 (w.heap.size + 1 + 1) L0 := by rw [hL0]; exact ⟨none, 0, hwb, own_nil _ _⟩
    clear hwb
    go_wp2_with (first
      | (go_at_call 36; (with_reducible refine (H1.out _ hW0).mono ?_); rintro e w2 ⟨rfl, hW1, hb1, -⟩; have hc1 := hc.below hb1 (by omega); have ha1 := ha.below hb1 (by omega); have hA1 := hA.trans (hb1.mono (by omega)); obtain ⟨⟨c0, c1, c2, c3, c4, c5, c6, c7, c8, c9, c10, c11, c12, c13, c14⟩, -⟩ := hc1.cells15; skip)
      | (go_at_call 31; (with_reducible refine (H2.out _ hW1).mono ?_); rintro e w3 ⟨rfl, hW2, hb2, -⟩; have hc2 := hc1.below hb2 (by omega); have ha2 := ha1.below hb2 (by omega); have hA2 := hA1.trans (hb2.mono (by omega)); obtain ⟨⟨c0, -, -, -, -, -, -, -, -, -, -, -, -, -, -⟩, -⟩ := hc2.cells15; obtain ⟨⟨-, -, -, -, -, -, -, -, -, -, -, -, -, -, -, a15⟩, -⟩ := ha2.cells16; skip)
      | (go_at_call 36; (with_reducible refine (H3.out _ hW2).mono ?_); rintro e w4 ⟨rfl, hW3, hb3, -⟩; have hc3 := hc2.below hb3 (by omega); have ha3 := ha2.below hb3 (by omega); have hA3 := hA2.trans (hb3.mono (by omega)); obtain ⟨⟨-, -, -, -, -, -, -, -, -, -, -, -, -, -, -, a15⟩, -⟩ := ha3.cells16; skip))
    clear hc ha hA hc1 ha1 hA1 hc2 ha2 hA2 hW0 hW1 hW2 hb1 hb2 hb3 H1 H2 H3 hc3 ha3
    have hG : w.heap.size + 1 + 1 < w4.heap.size := hW3.lt
    go_loopw [13, 113] (fun _ i wr => ∃ j : Nat, j ≤ a.pools.length ∧ i = .int .i64 (j : Int) ∧ Wr wr (w.heap.size + 1 + 1) (L3 ++ (a.pools.take j).flatMap P.pxX) ∧ Below w.heap.size w wr) (fun _ i _ => a.pools.length - (intOf i).toNat)
    case atStart => exact ⟨0, by omega, rfl, by simpa using hW3, hA3⟩
    case round =>
      clear hW3 hA3 hG
      obtain ⟨j, hj, rfl, hW, hb⟩ := hrel
      have hG : w.heap.size + 1 + 1 < wr.heap.size := hW.lt
      by_cases hjn : j < a.pools.length
      · exact absurd hjn (by have := Hr.out; omega)
      · have hji : decide ((j : Int) < (a.pools.length : Int)) = false := decide_eq_false (by omega)
        obtain rfl : j = a.pools.length := by omega
        rw [Hres.out] at hW
        obtain ⟨sa, sc, hwx, hwo⟩ := hW
        have q0 := hwx.cell 0
        go_wp2_with (refine wpList_conv_own (by rfl) hwo ?_)
        go_ret
        exact ⟨rfl, hb⟩
  · skip
    have t5 : ((x.op : Int) == 5) = false := beq_eq_false_iff_ne.2 (by omega)
    have t6 : ((x.op : Int) == 6) = false := beq_eq_false_iff_ne.2 (by omega)
    have t7 : ((x.op : Int) == 7) = false := beq_eq_false_iff_ne.2 (by omega)
    have t10 : ((x.op : Int) == 10) = false := beq_eq_false_iff_ne.2 (by omega)
    have t11 : ((x.op : Int) == 11) = false := beq_eq_false_iff_ne.2 (by omega)
    have t12 : ((x.op : Int) == 12) = false := beq_eq_false_iff_ne.2 (by omega)
    have t13 : ((x.op : Int) == 13) = false := beq_eq_false_iff_ne.2 (by omega)
    have t14 : ((x.op : Int) == 14) = true := beq_iff_eq.2 (by omega)
    clear hop
    go_enter Tryd.func21, Tryd.ntmps21
    go_upto_region 2 with fail
    generalize hW : ((w.alloc (.cells #[.int .u8 (x.op : Nat), .int .u8 (x.client : Nat), V64 x.number, .int .u8 (x.p.a.fam : Nat), V64 x.p.a.hi, V64 x.p.a.lo, .int .i64 x.p.bits, .int .u8 (x.a.fam : Nat), V64 x.a.hi, V64 x.a.lo, S x.owner, S x.to, V64 x.d, V64 x.fr, .int .i64 x.n] 28)).alloc (.cells #[.int .u8 (a.a.fam : Nat), V64 a.a.hi, V64 a.a.lo, S a.owner, V64 a.til, .int .u8 (a.pool.a.fam : Nat), V64 a.pool.a.hi, V64 a.pool.a.lo, .int .i64 a.pool.bits, .bool a.has, .bool a.held, .bool a.live, V64 a.clock, .slice r a.rows.length rc, .slice v a.events.length vc, .slice p a.pools.length pc] 36)).alloc (.cells #[.slice none 0 0] 87) = w1 at *
    clear hW
    have hW0 : Wr w1 (w.heap.size + 1 + 1) L0 := by rw [hL0]; exact ⟨none, 0, hwb, own_nil _ _⟩
    clear hwb
    go_wp2_with (first
      | (go_at_call 36; (with_reducible refine (H1.out _ hW0).mono ?_); rintro e w2 ⟨rfl, hW1, hb1, -⟩; have hc1 := hc.below hb1 (by omega); have ha1 := ha.below hb1 (by omega); have hA1 := hA.trans (hb1.mono (by omega)); obtain ⟨⟨c0, c1, c2, c3, c4, c5, c6, c7, c8, c9, c10, c11, c12, c13, c14⟩, -⟩ := hc1.cells15; skip)
      | (go_at_call 31; (with_reducible refine (H2.out _ hW1).mono ?_); rintro e w3 ⟨rfl, hW2, hb2, -⟩; have hc2 := hc1.below hb2 (by omega); have ha2 := ha1.below hb2 (by omega); have hA2 := hA1.trans (hb2.mono (by omega)); obtain ⟨⟨c0, -, -, -, -, -, -, -, -, -, -, -, -, -, -⟩, -⟩ := hc2.cells15; obtain ⟨⟨-, -, -, -, -, -, -, -, -, -, -, -, -, -, -, a15⟩, -⟩ := ha2.cells16; skip)
      | (go_at_call 36; (with_reducible refine (H3.out _ hW2).mono ?_); rintro e w4 ⟨rfl, hW3, hb3, -⟩; have hc3 := hc2.below hb3 (by omega); have ha3 := ha2.below hb3 (by omega); have hA3 := hA2.trans (hb3.mono (by omega)); obtain ⟨⟨-, -, -, -, -, -, -, -, -, -, -, -, -, -, -, a15⟩, -⟩ := ha3.cells16; skip))
    clear hc ha hA hc1 ha1 hA1 hc2 ha2 hA2 hW0 hW1 hW2 hb1 hb2 hb3 H1 H2 H3 hc3 ha3
    have hG : w.heap.size + 1 + 1 < w4.heap.size := hW3.lt
    go_loopw [13, 113] (fun _ i wr => ∃ j : Nat, j ≤ a.pools.length ∧ i = .int .i64 (j : Int) ∧ Wr wr (w.heap.size + 1 + 1) (L3 ++ (a.pools.take j).flatMap P.pxX) ∧ Below w.heap.size w wr) (fun _ i _ => a.pools.length - (intOf i).toNat)
    case atStart => exact ⟨0, by omega, rfl, by simpa using hW3, hA3⟩
    case round =>
      clear hW3 hA3 hG
      obtain ⟨j, hj, rfl, hW, hb⟩ := hrel
      have hG : w.heap.size + 1 + 1 < wr.heap.size := hW.lt
      by_cases hjn : j < a.pools.length
      · exact absurd hjn (by have := Hr.out; omega)
      · have hji : decide ((j : Int) < (a.pools.length : Int)) = false := decide_eq_false (by omega)
        obtain rfl : j = a.pools.length := by omega
        rw [Hres.out] at hW
        obtain ⟨sa, sc, hwx, hwo⟩ := hW
        have q0 := hwx.cell 0
        go_wp2_with (refine wpList_conv_own (by rfl) hwo ?_)
        go_ret
        exact ⟨rfl, hb⟩
end Go.Proofs.YtcobfoiajdbahaaDoor
