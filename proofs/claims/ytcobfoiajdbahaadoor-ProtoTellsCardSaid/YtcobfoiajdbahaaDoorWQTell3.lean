/- The walk of proto.Tell: rows, events, pools. -/
import Derived.Test.YtcobfoiajdbahaaDoorWQTell2
namespace Go.Proofs.YtcobfoiajdbahaaDoor
open Go.RowKit
set_option linter.unusedVariables false
set_option linter.unusedSimpArgs false
set_option maxRecDepth 100000 in
set_option maxHeartbeats 8000000 in
theorem tell_rows (x : P.Ca) (a : P.An) (r : Option Addr) (rc : Nat) (v : Option Addr) (vc : Nat) (p : Option Addr) (pc : Nat) (ht : P.tyC x) (hta : P.tyAn a) (hn : a.rows.length ≤ 40) (hos : ∀ y ∈ a.rows, y.owner.length ≤ 2000) (hop : x.op = 11) (w : World) (b o : Nat) (hr : r = some ⟨b, o, none⟩) (hat : RowsAt 5 rwC w r a.rows) :
    Calls Tryd.prog 21 #[caV x, anV a r rc v vc p pc, .int .i64 0] w fun e' w' => e' = .returned (S (P.tellB x.op x.client x.number a 0)) ∧ Below w.heap.size w w' := by
  obtain ⟨hc, ha, hwb, hA⟩ := three_bx w #[.int .u8 (x.op : Nat), .int .u8 (x.client : Nat), V64 x.number, .int .u8 (x.p.a.fam : Nat), V64 x.p.a.hi, V64 x.p.a.lo, .int .i64 x.p.bits, .int .u8 (x.a.fam : Nat), V64 x.a.hi, V64 x.a.lo, S x.owner, S x.to, V64 x.d, V64 x.fr, .int .i64 x.n] #[.int .u8 (a.a.fam : Nat), V64 a.a.hi, V64 a.a.lo, S a.owner, V64 a.til, .int .u8 (a.pool.a.fam : Nat), V64 a.pool.a.hi, V64 a.pool.a.lo, .int .i64 a.pool.bits, .bool a.has, .bool a.held, .bool a.live, V64 a.clock, .slice r a.rows.length rc, .slice v a.events.length vc, .slice p a.pools.length pc] #[.slice none 0 0] 28 36 87
  obtain ⟨L0, hL0⟩ : ∃ L : List UInt8, L = [] := ⟨_, rfl⟩
  have hl0 : L0.length ≤ 0 := by rw [hL0]; exact Nat.le_refl _
  subst hr
  obtain ⟨L1, hL1⟩ : ∃ L, L = L0 ++ [P.byI 0] := ⟨_, rfl⟩
  have hl1 : L1.length ≤ 1 := by rw [hL1, List.length_append]; simp only [List.length_singleton]; omega
  have H1 := Lib.hid (fun wx (h : Wr wx (w.heap.size + 1 + 1) L0) => show Calls Tryd.prog 36 #[.pointer (some ⟨w.heap.size + 1 + 1, 0, none⟩), .int .i64 0] wx fun e w' => e = .returned (.tuple #[]) ∧ Wr w' (w.heap.size + 1 + 1) L1 ∧ Below (w.heap.size + 1 + 1) wx w' ∧ KeptW (w.heap.size + 1 + 1) wx w' from by rw [hL1]; exact wbyte_any _ L0 0 wx (by omega) h)
  obtain ⟨L2, hL2⟩ : ∃ L, L = L1 ++ P.headB x.op x.client x.number := ⟨_, rfl⟩
  have hl2 : L2.length ≤ 11 := by rw [hL2, List.length_append]; have := P.headB_len x.op x.client x.number; omega
  have H2 := Lib.hid (fun wx (h : Wr wx (w.heap.size + 1 + 1) L1) => show Calls Tryd.prog 31 #[.pointer (some ⟨w.heap.size + 1 + 1, 0, none⟩), caV x] wx fun e w' => e = .returned (.tuple #[]) ∧ Wr w' (w.heap.size + 1 + 1) L2 ∧ Below (w.heap.size + 1 + 1) wx w' ∧ KeptW (w.heap.size + 1 + 1) wx w' from by rw [hL2]; exact whead_any _ L1 x wx (by omega) h ht.1 ht.2.1 ht.2.2.1)
  obtain ⟨L3, hL3⟩ : ∃ L, L = L2 ++ [P.byI (a.rows.length : Int)] := ⟨_, rfl⟩
  have hl3 : L3.length ≤ 12 := by rw [hL3, List.length_append]; simp only [List.length_singleton]; omega
  have H3 := Lib.hid (fun wx (h : Wr wx (w.heap.size + 1 + 1) L2) => show Calls Tryd.prog 36 #[.pointer (some ⟨w.heap.size + 1 + 1, 0, none⟩), .int .i64 (a.rows.length : Int)] wx fun e w' => e = .returned (.tuple #[]) ∧ Wr w' (w.heap.size + 1 + 1) L3 ∧ Below (w.heap.size + 1 + 1) wx w' ∧ KeptW (w.heap.size + 1 + 1) wx w' from by rw [hL3]; exact wbyte_any _ L2 (a.rows.length : Int) wx (by omega) h)
  have Hres := Lib.hid (show L3 ++ (a.rows.take a.rows.length).flatMap P.rwB = P.tellB x.op x.client x.number a 0 by rw [List.take_length, hL3, hL2, hL1, hL0]; unfold P.tellB P.tailB; simp only [hop]; simp)
  clear hL3 hL2 hL1
  have t5 : ((x.op : Int) == 5) = false := beq_eq_false_iff_ne.2 (by omega)
  have t6 : ((x.op : Int) == 6) = false := beq_eq_false_iff_ne.2 (by omega)
  have t7 : ((x.op : Int) == 7) = false := beq_eq_false_iff_ne.2 (by omega)
  have t10 : ((x.op : Int) == 10) = false := beq_eq_false_iff_ne.2 (by omega)
  have t11 : ((x.op : Int) == 11) = true := beq_iff_eq.2 (by omega)
  clear hop
  go_enter Tryd.func21, Tryd.ntmps21
  go_upto_region 2 with fail
  generalize hW : ((w.alloc (.cells #[.int .u8 (x.op : Nat), .int .u8 (x.client : Nat), V64 x.number, .int .u8 (x.p.a.fam : Nat), V64 x.p.a.hi, V64 x.p.a.lo, .int .i64 x.p.bits, .int .u8 (x.a.fam : Nat), V64 x.a.hi, V64 x.a.lo, S x.owner, S x.to, V64 x.d, V64 x.fr, .int .i64 x.n] 28)).alloc (.cells #[.int .u8 (a.a.fam : Nat), V64 a.a.hi, V64 a.a.lo, S a.owner, V64 a.til, .int .u8 (a.pool.a.fam : Nat), V64 a.pool.a.hi, V64 a.pool.a.lo, .int .i64 a.pool.bits, .bool a.has, .bool a.held, .bool a.live, V64 a.clock, .slice (some ⟨b, o, none⟩) a.rows.length rc, .slice v a.events.length vc, .slice p a.pools.length pc] 36)).alloc (.cells #[.slice none 0 0] 87) = w1 at *
  clear hW
  have hW0 : Wr w1 (w.heap.size + 1 + 1) L0 := by rw [hL0]; exact ⟨none, 0, hwb, own_nil _ _⟩
  clear hwb
  go_wp2_with (first
    | (go_at_call 36; (with_reducible refine (H1.out _ hW0).mono ?_); rintro e w2 ⟨rfl, hW1, hb1, -⟩; have hc1 := hc.below hb1 (by omega); have ha1 := ha.below hb1 (by omega); have hA1 := hA.trans (hb1.mono (by omega)); obtain ⟨⟨c0, c1, c2, c3, c4, c5, c6, c7, c8, c9, c10, c11, c12, c13, c14⟩, -⟩ := hc1.cells15; skip)
    | (go_at_call 31; (with_reducible refine (H2.out _ hW1).mono ?_); rintro e w3 ⟨rfl, hW2, hb2, -⟩; have hc2 := hc1.below hb2 (by omega); have ha2 := ha1.below hb2 (by omega); have hA2 := hA1.trans (hb2.mono (by omega)); obtain ⟨⟨c0, -, -, -, -, -, -, -, -, -, -, -, -, -, -⟩, -⟩ := hc2.cells15; obtain ⟨⟨-, -, -, -, -, -, -, -, -, -, -, -, -, a13, -, -⟩, -⟩ := ha2.cells16; skip)
    | (go_at_call 36; (with_reducible refine (H3.out _ hW2).mono ?_); rintro e w4 ⟨rfl, hW3, hb3, -⟩; have hc3 := hc2.below hb3 (by omega); have ha3 := ha2.below hb3 (by omega); have hA3 := hA2.trans (hb3.mono (by omega)); obtain ⟨⟨-, -, -, -, -, -, -, -, -, -, -, -, -, a13, -, -⟩, -⟩ := ha3.cells16; skip))
  clear hc ha hA hc1 ha1 hA1 hc2 ha2 hA2 hW0 hW1 hW2 hb1 hb2 hb3 H1 H2 H3 hc3 ha3
  have hG : w.heap.size + 1 + 1 < w4.heap.size := hW3.lt
  go_loopw [9, 58] (fun _ i wr => ∃ j : Nat, j ≤ a.rows.length ∧ i = .int .i64 (j : Int) ∧ Wr wr (w.heap.size + 1 + 1) (L3 ++ (a.rows.take j).flatMap P.rwB) ∧ Below w.heap.size w wr) (fun _ i _ => a.rows.length - (intOf i).toNat)
  case atStart => exact ⟨0, by omega, rfl, by simpa using hW3, hA3⟩
  case round =>
    clear hW3 hA3 hG
    obtain ⟨j, hj, rfl, hW, hb⟩ := hrel
    have hG : w.heap.size + 1 + 1 < wr.heap.size := hW.lt
    by_cases hjn : j < a.rows.length
    · have hji : decide ((j : Int) < (a.rows.length : Int)) = true := decide_eq_true (by omega)
      have hwj : IntKind.i64.wrap ((j : Int) + 1) = (j : Int) + 1 := wrap_midT (by omega) (by omega)
      obtain ⟨b', o', hbo, hlt, hcell⟩ := hat.up hb j hjn
      injection hbo with hbo
      injection hbo with hbo1 hbo2
      subst hbo1 hbo2
      have hll := flat_len_le P.rwB 2035 a.rows (fun y hy => P.rwB_le (hos y hy)) j
      have htk := take_flat P.rwB a.rows j hjn
      have hmem : a.rows[j] ∈ a.rows := List.getElem_mem hjn
      have hty := hta.2.2.2.2.1 _ hmem
      have hown := hos _ hmem
      generalize hy : a.rows[j] = y at *
      clear hy
      obtain ⟨M, hM⟩ : ∃ M, M = L3 ++ (a.rows.take j).flatMap P.rwB := ⟨_, rfl⟩
      have hMl : M.length ≤ 12 + 2035 * j := by rw [hM, List.length_append]; omega
      have hMl2 : M.length ≤ 12 + 2035 * 40 := Nat.le_trans hMl (by have : 2035 * j ≤ 2035 * 40 := Nat.mul_le_mul_left _ (by omega); omega)
      have HM := Lib.hid (show L3 ++ (a.rows.take (j + 1)).flatMap P.rwB = M ++ P.rwB y by rw [htk, hM, List.append_assoc])
      rw [← hM] at hW
      clear hM htk hll hMl hmem
      have e0 := hcell 0 (by omega)
      have e1 := hcell 1 (by omega)
      have e2 := hcell 2 (by omega)
      have e3 := hcell 3 (by omega)
      have e4 := hcell 4 (by omega)
      clear hcell
      simp only [rwC, List.getElem?_cons_zero, List.getElem?_cons_succ, Nat.add_zero] at e0 e1 e2 e3 e4
      obtain ⟨P0, hP0⟩ : ∃ L, L = M ++ P.adX y.a := ⟨_, rfl⟩
      have hPl0 : P0.length ≤ 12 + 2035 * 40 + 17 := by rw [hP0, List.length_append]; have := P.adX_le y.a; omega
      have HC0 := Lib.hid (fun wx (h : Wr wx (w.heap.size + 1 + 1) M) => show Calls Tryd.prog 33 #[.pointer (some ⟨w.heap.size + 1 + 1, 0, none⟩), adV y.a] wx fun e w' => e = .returned (.tuple #[]) ∧ Wr w' (w.heap.size + 1 + 1) P0 ∧ Below (w.heap.size + 1 + 1) wx w' ∧ KeptW (w.heap.size + 1 + 1) wx w' from by rw [hP0]; exact waddr_any _ M y.a wx (by omega) h hty.1)
      obtain ⟨P1, hP1⟩ : ∃ L, L = P0 ++ P.leB y.owner y.til := ⟨_, rfl⟩
      have hPl1 : P1.length ≤ 12 + 2035 * 40 + 2035 := by rw [hP1, List.length_append]; have := P.leB_le3 hown y.til; omega
      have HC1 := Lib.hid (fun wx (h : Wr wx (w.heap.size + 1 + 1) P0) => show Calls Tryd.prog 63 #[.pointer (some ⟨w.heap.size + 1 + 1, 0, none⟩), .agg #[S y.owner, V64 y.til]] wx fun e w' => e = .returned (.tuple #[]) ∧ Wr w' (w.heap.size + 1 + 1) P1 ∧ Below (w.heap.size + 1 + 1) wx w' ∧ KeptW (w.heap.size + 1 + 1) wx w' from by rw [hP1]; exact wlease_any _ P0 (y.owner, y.til) wx (by omega) h (by show y.owner.length ≤ _; omega) hty.2)
      have HE := Lib.hid (show P1 = M ++ P.rwB y by first | (rw [hP1, hP0]; done) | (rw [hP1, hP0]; simp [P.rwB, P.leB]))
      clear hP0 hP1
      have hr0 := Bx.fresh wr 80 #[.int .u8 0, .int .u64 0, .int .u64 0, .string ⟨#[]⟩, .int .u64 0]
      have hB0 := (Below.refl wr.heap.size wr).alloc (Nat.le_refl _) (.cells #[.int .u8 0, .int .u64 0, .int .u64 0, .string ⟨#[]⟩, .int .u64 0] 80)
      go_wp2_with (first
        | (refine wpList_stB (by rfl) _ _ _ (by rfl) hr0 _ _ (by rfl) (by rfl) 5 5 (by rfl) (by rfl) (by decide) infoRw1 (by rfl) (by rfl) ?_; intro v0 hz' hs0; have hr1 : Bx v0 wr.heap.size 80 #[.int .u8 (y.a.fam : Nat), V64 y.a.hi, V64 y.a.lo, S y.owner, V64 y.til] := hz'; clear hz'; have hbs := hB0.trans (hs0.below (Nat.le_refl _) hB0.size); have hV0 := hW.up hbs; have d0 := hr1.cell 0; have d1 := hr1.cell 1; have d2 := hr1.cell 2; have d3 := hr1.cell 3; have d4 := hr1.cell 4; simp only [List.getElem?_toArray, List.getElem?_cons_succ, List.getElem?_cons_zero] at d0 d1 d2 d3 d4)
            | (go_at_call 33; (with_reducible refine (HC0.out _ hV0).mono ?_); rintro e v1 ⟨rfl, hV1, hbv0, hkv0⟩; have hr2 := hr1.keptW hkv0 (by decide) (by omega); have d0 := hr2.cell 0; have d1 := hr2.cell 1; have d2 := hr2.cell 2; have d3 := hr2.cell 3; have d4 := hr2.cell 4; simp only [List.getElem?_toArray, List.getElem?_cons_succ, List.getElem?_cons_zero] at d0 d1 d2 d3 d4)
        | (go_at_call 63; (with_reducible refine (HC1.out _ hV1).mono ?_); rintro e v2 ⟨rfl, hV2, hbv1, hkv1⟩; have hr3 := hr2.keptW hkv1 (by decide) (by omega); have d0 := hr3.cell 0; have d1 := hr3.cell 1; have d2 := hr3.cell 2; have d3 := hr3.cell 3; have d4 := hr3.cell 4; simp only [List.getElem?_toArray, List.getElem?_cons_succ, List.getElem?_cons_zero] at d0 d1 d2 d3 d4))
      go_roundw
      case rel => exact ⟨j + 1, by omega, by go_num, by rw [HM.out, ← HE.out]; exact hV2, (((hb.trans (hbs.mono (by have := hb.size; omega))).trans (hbv0.mono (by omega))).trans (hbv1.mono (by omega)))⟩
      case measure => simp [intOf]; omega
    · have hji : decide ((j : Int) < (a.rows.length : Int)) = false := decide_eq_false (by omega)
      obtain rfl : j = a.rows.length := by omega
      rw [Hres.out] at hW
      obtain ⟨sa, sc, hwx, hwo⟩ := hW
      have q0 := hwx.cell 0
      go_wp2_with (refine wpList_conv_own (by rfl) hwo ?_)
      go_ret
      exact ⟨rfl, hb⟩
set_option maxRecDepth 100000 in
set_option maxHeartbeats 8000000 in
theorem tell_events (x : P.Ca) (a : P.An) (r : Option Addr) (rc : Nat) (v : Option Addr) (vc : Nat) (p : Option Addr) (pc : Nat) (ht : P.tyC x) (hta : P.tyAn a) (hn : a.events.length ≤ 40) (hos : ∀ y ∈ a.events, y.owner.length ≤ 2000) (hop : x.op = 12) (w : World) (b o : Nat) (hr : v = some ⟨b, o, none⟩) (hat : RowsAt 4 evC w v a.events) :
    Calls Tryd.prog 21 #[caV x, anV a r rc v vc p pc, .int .i64 0] w fun e' w' => e' = .returned (S (P.tellB x.op x.client x.number a 0)) ∧ Below w.heap.size w w' := by
  obtain ⟨hc, ha, hwb, hA⟩ := three_bx w #[.int .u8 (x.op : Nat), .int .u8 (x.client : Nat), V64 x.number, .int .u8 (x.p.a.fam : Nat), V64 x.p.a.hi, V64 x.p.a.lo, .int .i64 x.p.bits, .int .u8 (x.a.fam : Nat), V64 x.a.hi, V64 x.a.lo, S x.owner, S x.to, V64 x.d, V64 x.fr, .int .i64 x.n] #[.int .u8 (a.a.fam : Nat), V64 a.a.hi, V64 a.a.lo, S a.owner, V64 a.til, .int .u8 (a.pool.a.fam : Nat), V64 a.pool.a.hi, V64 a.pool.a.lo, .int .i64 a.pool.bits, .bool a.has, .bool a.held, .bool a.live, V64 a.clock, .slice r a.rows.length rc, .slice v a.events.length vc, .slice p a.pools.length pc] #[.slice none 0 0] 28 36 87
  obtain ⟨L0, hL0⟩ : ∃ L : List UInt8, L = [] := ⟨_, rfl⟩
  have hl0 : L0.length ≤ 0 := by rw [hL0]; exact Nat.le_refl _
  subst hr
  obtain ⟨L1, hL1⟩ : ∃ L, L = L0 ++ [P.byI 0] := ⟨_, rfl⟩
  have hl1 : L1.length ≤ 1 := by rw [hL1, List.length_append]; simp only [List.length_singleton]; omega
  have H1 := Lib.hid (fun wx (h : Wr wx (w.heap.size + 1 + 1) L0) => show Calls Tryd.prog 36 #[.pointer (some ⟨w.heap.size + 1 + 1, 0, none⟩), .int .i64 0] wx fun e w' => e = .returned (.tuple #[]) ∧ Wr w' (w.heap.size + 1 + 1) L1 ∧ Below (w.heap.size + 1 + 1) wx w' ∧ KeptW (w.heap.size + 1 + 1) wx w' from by rw [hL1]; exact wbyte_any _ L0 0 wx (by omega) h)
  obtain ⟨L2, hL2⟩ : ∃ L, L = L1 ++ P.headB x.op x.client x.number := ⟨_, rfl⟩
  have hl2 : L2.length ≤ 11 := by rw [hL2, List.length_append]; have := P.headB_len x.op x.client x.number; omega
  have H2 := Lib.hid (fun wx (h : Wr wx (w.heap.size + 1 + 1) L1) => show Calls Tryd.prog 31 #[.pointer (some ⟨w.heap.size + 1 + 1, 0, none⟩), caV x] wx fun e w' => e = .returned (.tuple #[]) ∧ Wr w' (w.heap.size + 1 + 1) L2 ∧ Below (w.heap.size + 1 + 1) wx w' ∧ KeptW (w.heap.size + 1 + 1) wx w' from by rw [hL2]; exact whead_any _ L1 x wx (by omega) h ht.1 ht.2.1 ht.2.2.1)
  obtain ⟨L3, hL3⟩ : ∃ L, L = L2 ++ [P.byI (a.events.length : Int)] := ⟨_, rfl⟩
  have hl3 : L3.length ≤ 12 := by rw [hL3, List.length_append]; simp only [List.length_singleton]; omega
  have H3 := Lib.hid (fun wx (h : Wr wx (w.heap.size + 1 + 1) L2) => show Calls Tryd.prog 36 #[.pointer (some ⟨w.heap.size + 1 + 1, 0, none⟩), .int .i64 (a.events.length : Int)] wx fun e w' => e = .returned (.tuple #[]) ∧ Wr w' (w.heap.size + 1 + 1) L3 ∧ Below (w.heap.size + 1 + 1) wx w' ∧ KeptW (w.heap.size + 1 + 1) wx w' from by rw [hL3]; exact wbyte_any _ L2 (a.events.length : Int) wx (by omega) h)
  have Hres := Lib.hid (show L3 ++ (a.events.take a.events.length).flatMap P.evB = P.tellB x.op x.client x.number a 0 by rw [List.take_length, hL3, hL2, hL1, hL0]; unfold P.tellB P.tailB; simp only [hop]; simp)
  clear hL3 hL2 hL1
  have t5 : ((x.op : Int) == 5) = false := beq_eq_false_iff_ne.2 (by omega)
  have t6 : ((x.op : Int) == 6) = false := beq_eq_false_iff_ne.2 (by omega)
  have t7 : ((x.op : Int) == 7) = false := beq_eq_false_iff_ne.2 (by omega)
  have t10 : ((x.op : Int) == 10) = false := beq_eq_false_iff_ne.2 (by omega)
  have t11 : ((x.op : Int) == 11) = false := beq_eq_false_iff_ne.2 (by omega)
  have t12 : ((x.op : Int) == 12) = true := beq_iff_eq.2 (by omega)
  clear hop
  go_enter Tryd.func21, Tryd.ntmps21
  go_upto_region 2 with fail
  generalize hW : ((w.alloc (.cells #[.int .u8 (x.op : Nat), .int .u8 (x.client : Nat), V64 x.number, .int .u8 (x.p.a.fam : Nat), V64 x.p.a.hi, V64 x.p.a.lo, .int .i64 x.p.bits, .int .u8 (x.a.fam : Nat), V64 x.a.hi, V64 x.a.lo, S x.owner, S x.to, V64 x.d, V64 x.fr, .int .i64 x.n] 28)).alloc (.cells #[.int .u8 (a.a.fam : Nat), V64 a.a.hi, V64 a.a.lo, S a.owner, V64 a.til, .int .u8 (a.pool.a.fam : Nat), V64 a.pool.a.hi, V64 a.pool.a.lo, .int .i64 a.pool.bits, .bool a.has, .bool a.held, .bool a.live, V64 a.clock, .slice r a.rows.length rc, .slice (some ⟨b, o, none⟩) a.events.length vc, .slice p a.pools.length pc] 36)).alloc (.cells #[.slice none 0 0] 87) = w1 at *
  clear hW
  have hW0 : Wr w1 (w.heap.size + 1 + 1) L0 := by rw [hL0]; exact ⟨none, 0, hwb, own_nil _ _⟩
  clear hwb
  go_wp2_with (first
    | (go_at_call 36; (with_reducible refine (H1.out _ hW0).mono ?_); rintro e w2 ⟨rfl, hW1, hb1, -⟩; have hc1 := hc.below hb1 (by omega); have ha1 := ha.below hb1 (by omega); have hA1 := hA.trans (hb1.mono (by omega)); obtain ⟨⟨c0, c1, c2, c3, c4, c5, c6, c7, c8, c9, c10, c11, c12, c13, c14⟩, -⟩ := hc1.cells15; skip)
    | (go_at_call 31; (with_reducible refine (H2.out _ hW1).mono ?_); rintro e w3 ⟨rfl, hW2, hb2, -⟩; have hc2 := hc1.below hb2 (by omega); have ha2 := ha1.below hb2 (by omega); have hA2 := hA1.trans (hb2.mono (by omega)); obtain ⟨⟨c0, -, -, -, -, -, -, -, -, -, -, -, -, -, -⟩, -⟩ := hc2.cells15; obtain ⟨⟨-, -, -, -, -, -, -, -, -, -, -, -, -, -, a14, -⟩, -⟩ := ha2.cells16; skip)
    | (go_at_call 36; (with_reducible refine (H3.out _ hW2).mono ?_); rintro e w4 ⟨rfl, hW3, hb3, -⟩; have hc3 := hc2.below hb3 (by omega); have ha3 := ha2.below hb3 (by omega); have hA3 := hA2.trans (hb3.mono (by omega)); obtain ⟨⟨-, -, -, -, -, -, -, -, -, -, -, -, -, -, a14, -⟩, -⟩ := ha3.cells16; skip))
  clear hc ha hA hc1 ha1 hA1 hc2 ha2 hA2 hW0 hW1 hW2 hb1 hb2 hb3 H1 H2 H3 hc3 ha3
  have hG : w.heap.size + 1 + 1 < w4.heap.size := hW3.lt
  go_loopw [11, 81] (fun _ i wr => ∃ j : Nat, j ≤ a.events.length ∧ i = .int .i64 (j : Int) ∧ Wr wr (w.heap.size + 1 + 1) (L3 ++ (a.events.take j).flatMap P.evB) ∧ Below w.heap.size w wr) (fun _ i _ => a.events.length - (intOf i).toNat)
  case atStart => exact ⟨0, by omega, rfl, by simpa using hW3, hA3⟩
  case round =>
    clear hW3 hA3 hG
    obtain ⟨j, hj, rfl, hW, hb⟩ := hrel
    have hG : w.heap.size + 1 + 1 < wr.heap.size := hW.lt
    by_cases hjn : j < a.events.length
    · have hji : decide ((j : Int) < (a.events.length : Int)) = true := decide_eq_true (by omega)
      have hwj : IntKind.i64.wrap ((j : Int) + 1) = (j : Int) + 1 := wrap_midT (by omega) (by omega)
      obtain ⟨b', o', hbo, hlt, hcell⟩ := hat.up hb j hjn
      injection hbo with hbo
      injection hbo with hbo1 hbo2
      subst hbo1 hbo2
      have hll := flat_len_le P.evB 2035 a.events (fun y hy => P.evB_le (hos y hy)) j
      have htk := take_flat P.evB a.events j hjn
      have hmem : a.events[j] ∈ a.events := List.getElem_mem hjn
      have hty := hta.2.2.2.2.2.1 _ hmem
      have hown := hos _ hmem
      generalize hy : a.events[j] = y at *
      clear hy
      obtain ⟨M, hM⟩ : ∃ M, M = L3 ++ (a.events.take j).flatMap P.evB := ⟨_, rfl⟩
      have hMl : M.length ≤ 12 + 2035 * j := by rw [hM, List.length_append]; omega
      have hMl2 : M.length ≤ 12 + 2035 * 40 := Nat.le_trans hMl (by have : 2035 * j ≤ 2035 * 40 := Nat.mul_le_mul_left _ (by omega); omega)
      have HM := Lib.hid (show L3 ++ (a.events.take (j + 1)).flatMap P.evB = M ++ P.evB y by rw [htk, hM, List.append_assoc])
      rw [← hM] at hW
      clear hM htk hll hMl hmem
      have e0 := hcell 0 (by omega)
      have e1 := hcell 1 (by omega)
      have e2 := hcell 2 (by omega)
      have e3 := hcell 3 (by omega)
      clear hcell
      simp only [evC, List.getElem?_cons_zero, List.getElem?_cons_succ, Nat.add_zero] at e0 e1 e2 e3
      obtain ⟨P0, hP0⟩ : ∃ L, L = M ++ [P.byI y.how] := ⟨_, rfl⟩
      have hPl0 : P0.length ≤ 12 + 2035 * 40 + 1 := by rw [hP0, List.length_append]; simp only [List.length_singleton]; omega
      have HC0 := Lib.hid (fun wx (h : Wr wx (w.heap.size + 1 + 1) M) => show Calls Tryd.prog 36 #[.pointer (some ⟨w.heap.size + 1 + 1, 0, none⟩), .int .i64 y.how] wx fun e w' => e = .returned (.tuple #[]) ∧ Wr w' (w.heap.size + 1 + 1) P0 ∧ Below (w.heap.size + 1 + 1) wx w' ∧ KeptW (w.heap.size + 1 + 1) wx w' from by rw [hP0]; exact wbyte_any _ M y.how wx (by omega) h)
      obtain ⟨P1, hP1⟩ : ∃ L, L = P0 ++ P.txB y.owner := ⟨_, rfl⟩
      have hPl1 : P1.length ≤ 12 + 2035 * 40 + 2010 := by rw [hP1, List.length_append]; have := P.txB_le2 hown; omega
      have HC1 := Lib.hid (fun wx (h : Wr wx (w.heap.size + 1 + 1) P0) => show Calls Tryd.prog 34 #[.pointer (some ⟨w.heap.size + 1 + 1, 0, none⟩), S y.owner] wx fun e w' => e = .returned (.tuple #[]) ∧ Wr w' (w.heap.size + 1 + 1) P1 ∧ Below (w.heap.size + 1 + 1) wx w' ∧ KeptW (w.heap.size + 1 + 1) wx w' from by rw [hP1]; exact wtext_any _ P0 y.owner wx (by omega) h (by omega))
      obtain ⟨P2, hP2⟩ : ∃ L, L = P1 ++ P.row y.at' := ⟨_, rfl⟩
      have hPl2 : P2.length ≤ 12 + 2035 * 40 + 2019 := by rw [hP2, List.length_append]; have := P.row_len9 y.at'; omega
      have HC2 := Lib.hid (fun wx (h : Wr wx (w.heap.size + 1 + 1) P1) => show Calls Tryd.prog 35 #[.pointer (some ⟨w.heap.size + 1 + 1, 0, none⟩), V64 y.at'] wx fun e w' => e = .returned (.tuple #[]) ∧ Wr w' (w.heap.size + 1 + 1) P2 ∧ Below (w.heap.size + 1 + 1) wx w' ∧ KeptW (w.heap.size + 1 + 1) wx w' from by rw [hP2]; exact wnumber_any _ P1 y.at' wx (by omega) h hty.2.1)
      obtain ⟨P3, hP3⟩ : ∃ L, L = P2 ++ P.row y.til := ⟨_, rfl⟩
      have hPl3 : P3.length ≤ 12 + 2035 * 40 + 2028 := by rw [hP3, List.length_append]; have := P.row_len9 y.til; omega
      have HC3 := Lib.hid (fun wx (h : Wr wx (w.heap.size + 1 + 1) P2) => show Calls Tryd.prog 35 #[.pointer (some ⟨w.heap.size + 1 + 1, 0, none⟩), V64 y.til] wx fun e w' => e = .returned (.tuple #[]) ∧ Wr w' (w.heap.size + 1 + 1) P3 ∧ Below (w.heap.size + 1 + 1) wx w' ∧ KeptW (w.heap.size + 1 + 1) wx w' from by rw [hP3]; exact wnumber_any _ P2 y.til wx (by omega) h hty.2.2)
      have HE := Lib.hid (show P3 = M ++ P.evB y by first | (rw [hP3, hP2, hP1, hP0]; done) | (rw [hP3, hP2, hP1, hP0]; simp [P.evB, P.leB]))
      clear hP0 hP1 hP2 hP3
      have hr0 := Bx.fresh wr 82 #[.int .i64 0, .string ⟨#[]⟩, .int .u64 0, .int .u64 0]
      have hB0 := (Below.refl wr.heap.size wr).alloc (Nat.le_refl _) (.cells #[.int .i64 0, .string ⟨#[]⟩, .int .u64 0, .int .u64 0] 82)
      go_wp2_with (first
        | (refine wpList_stB (by rfl) _ _ _ (by rfl) hr0 _ _ (by rfl) (by rfl) 4 4 (by rfl) (by rfl) (by decide) infoEv1 (by rfl) (by rfl) ?_; intro v0 hz' hs0; have hr1 : Bx v0 wr.heap.size 82 #[.int .i64 y.how, S y.owner, V64 y.at', V64 y.til] := hz'; clear hz'; have hbs := hB0.trans (hs0.below (Nat.le_refl _) hB0.size); have hV0 := hW.up hbs; have d0 := hr1.cell 0; have d1 := hr1.cell 1; have d2 := hr1.cell 2; have d3 := hr1.cell 3; simp only [List.getElem?_toArray, List.getElem?_cons_succ, List.getElem?_cons_zero] at d0 d1 d2 d3)
            | (go_at_call 36; (with_reducible refine (HC0.out _ hV0).mono ?_); rintro e v1 ⟨rfl, hV1, hbv0, hkv0⟩; have hr2 := hr1.keptW hkv0 (by decide) (by omega); have d0 := hr2.cell 0; have d1 := hr2.cell 1; have d2 := hr2.cell 2; have d3 := hr2.cell 3; simp only [List.getElem?_toArray, List.getElem?_cons_succ, List.getElem?_cons_zero] at d0 d1 d2 d3)
        | (go_at_call 34; (with_reducible refine (HC1.out _ hV1).mono ?_); rintro e v2 ⟨rfl, hV2, hbv1, hkv1⟩; have hr3 := hr2.keptW hkv1 (by decide) (by omega); have d0 := hr3.cell 0; have d1 := hr3.cell 1; have d2 := hr3.cell 2; have d3 := hr3.cell 3; simp only [List.getElem?_toArray, List.getElem?_cons_succ, List.getElem?_cons_zero] at d0 d1 d2 d3)
        | (go_at_call 35; (with_reducible refine (HC2.out _ hV2).mono ?_); rintro e v3 ⟨rfl, hV3, hbv2, hkv2⟩; have hr4 := hr3.keptW hkv2 (by decide) (by omega); have d0 := hr4.cell 0; have d1 := hr4.cell 1; have d2 := hr4.cell 2; have d3 := hr4.cell 3; simp only [List.getElem?_toArray, List.getElem?_cons_succ, List.getElem?_cons_zero] at d0 d1 d2 d3)
        | (go_at_call 35; (with_reducible refine (HC3.out _ hV3).mono ?_); rintro e v4 ⟨rfl, hV4, hbv3, hkv3⟩; have hr5 := hr4.keptW hkv3 (by decide) (by omega); have d0 := hr5.cell 0; have d1 := hr5.cell 1; have d2 := hr5.cell 2; have d3 := hr5.cell 3; simp only [List.getElem?_toArray, List.getElem?_cons_succ, List.getElem?_cons_zero] at d0 d1 d2 d3))
      go_roundw
      case rel => exact ⟨j + 1, by omega, by go_num, by rw [HM.out, ← HE.out]; exact hV4, (((((hb.trans (hbs.mono (by have := hb.size; omega))).trans (hbv0.mono (by omega))).trans (hbv1.mono (by omega))).trans (hbv2.mono (by omega))).trans (hbv3.mono (by omega)))⟩
      case measure => simp [intOf]; omega
    · have hji : decide ((j : Int) < (a.events.length : Int)) = false := decide_eq_false (by omega)
      obtain rfl : j = a.events.length := by omega
      rw [Hres.out] at hW
      obtain ⟨sa, sc, hwx, hwo⟩ := hW
      have q0 := hwx.cell 0
      go_wp2_with (refine wpList_conv_own (by rfl) hwo ?_)
      go_ret
      exact ⟨rfl, hb⟩
set_option maxRecDepth 100000 in
set_option maxHeartbeats 8000000 in
theorem tell_pools (x : P.Ca) (a : P.An) (r : Option Addr) (rc : Nat) (v : Option Addr) (vc : Nat) (p : Option Addr) (pc : Nat) (ht : P.tyC x) (hta : P.tyAn a) (hn : a.pools.length ≤ 40) (hop : x.op = 13 ∨ x.op = 14) (w : World) (b o : Nat) (hr : p = some ⟨b, o, none⟩) (hat : RowsAt 4 pxC w p a.pools) :
    Calls Tryd.prog 21 #[caV x, anV a r rc v vc p pc, .int .i64 0] w fun e' w' => e' = .returned (S (P.tellB x.op x.client x.number a 0)) ∧ Below w.heap.size w w' := by
  obtain ⟨hc, ha, hwb, hA⟩ := three_bx w #[.int .u8 (x.op : Nat), .int .u8 (x.client : Nat), V64 x.number, .int .u8 (x.p.a.fam : Nat), V64 x.p.a.hi, V64 x.p.a.lo, .int .i64 x.p.bits, .int .u8 (x.a.fam : Nat), V64 x.a.hi, V64 x.a.lo, S x.owner, S x.to, V64 x.d, V64 x.fr, .int .i64 x.n] #[.int .u8 (a.a.fam : Nat), V64 a.a.hi, V64 a.a.lo, S a.owner, V64 a.til, .int .u8 (a.pool.a.fam : Nat), V64 a.pool.a.hi, V64 a.pool.a.lo, .int .i64 a.pool.bits, .bool a.has, .bool a.held, .bool a.live, V64 a.clock, .slice r a.rows.length rc, .slice v a.events.length vc, .slice p a.pools.length pc] #[.slice none 0 0] 28 36 87
  obtain ⟨L0, hL0⟩ : ∃ L : List UInt8, L = [] := ⟨_, rfl⟩
  have hl0 : L0.length ≤ 0 := by rw [hL0]; exact Nat.le_refl _
  subst hr
  obtain ⟨L1, hL1⟩ : ∃ L, L = L0 ++ [P.byI 0] := ⟨_, rfl⟩
  have hl1 : L1.length ≤ 1 := by rw [hL1, List.length_append]; simp only [List.length_singleton]; omega
  have H1 := Lib.hid (fun wx (h : Wr wx (w.heap.size + 1 + 1) L0) => show Calls Tryd.prog 36 #[.pointer (some ⟨w.heap.size + 1 + 1, 0, none⟩), .int .i64 0] wx fun e w' => e = .returned (.tuple #[]) ∧ Wr w' (w.heap.size + 1 + 1) L1 ∧ Below (w.heap.size + 1 + 1) wx w' ∧ KeptW (w.heap.size + 1 + 1) wx w' from by rw [hL1]; exact wbyte_any _ L0 0 wx (by omega) h)
  obtain ⟨L2, hL2⟩ : ∃ L, L = L1 ++ P.headB x.op x.client x.number := ⟨_, rfl⟩
  have hl2 : L2.length ≤ 11 := by rw [hL2, List.length_append]; have := P.headB_len x.op x.client x.number; omega
  have H2 := Lib.hid (fun wx (h : Wr wx (w.heap.size + 1 + 1) L1) => show Calls Tryd.prog 31 #[.pointer (some ⟨w.heap.size + 1 + 1, 0, none⟩), caV x] wx fun e w' => e = .returned (.tuple #[]) ∧ Wr w' (w.heap.size + 1 + 1) L2 ∧ Below (w.heap.size + 1 + 1) wx w' ∧ KeptW (w.heap.size + 1 + 1) wx w' from by rw [hL2]; exact whead_any _ L1 x wx (by omega) h ht.1 ht.2.1 ht.2.2.1)
  obtain ⟨L3, hL3⟩ : ∃ L, L = L2 ++ [P.byI (a.pools.length : Int)] := ⟨_, rfl⟩
  have hl3 : L3.length ≤ 12 := by rw [hL3, List.length_append]; simp only [List.length_singleton]; omega
  have H3 := Lib.hid (fun wx (h : Wr wx (w.heap.size + 1 + 1) L2) => show Calls Tryd.prog 36 #[.pointer (some ⟨w.heap.size + 1 + 1, 0, none⟩), .int .i64 (a.pools.length : Int)] wx fun e w' => e = .returned (.tuple #[]) ∧ Wr w' (w.heap.size + 1 + 1) L3 ∧ Below (w.heap.size + 1 + 1) wx w' ∧ KeptW (w.heap.size + 1 + 1) wx w' from by rw [hL3]; exact wbyte_any _ L2 (a.pools.length : Int) wx (by omega) h)
  have Hres := Lib.hid (show L3 ++ (a.pools.take a.pools.length).flatMap P.pxX = P.tellB x.op x.client x.number a 0 by rw [List.take_length, hL3, hL2, hL1, hL0]; unfold P.tellB P.tailB; rcases hop with hop | hop <;> (simp only [hop]; simp))
  clear hL3 hL2 hL1
  rcases hop with hop | hop
  · skip
    have t5 : ((x.op : Int) == 5) = false := beq_eq_false_iff_ne.2 (by omega)
    have t6 : ((x.op : Int) == 6) = false := beq_eq_false_iff_ne.2 (by omega)
    have t7 : ((x.op : Int) == 7) = false := beq_eq_false_iff_ne.2 (by omega)
    have t10 : ((x.op : Int) == 10) = false := beq_eq_false_iff_ne.2 (by omega)
    have t11 : ((x.op : Int) == 11) = false := beq_eq_false_iff_ne.2 (by omega)
    have t12 : ((x.op : Int) == 12) = false := beq_eq_false_iff_ne.2 (by omega)
    have t13 : ((x.op : Int) == 13) = true := beq_iff_eq.2 (by omega)
    clear hop
    go_enter Tryd.func21, Tryd.ntmps21
    go_upto_region 2 with fail
    generalize hW : ((w.alloc (.cells #[.int .u8 (x.op : Nat), .int .u8 (x.client : Nat), V64 x.number, .int .u8 (x.p.a.fam : Nat), V64 x.p.a.hi, V64 x.p.a.lo, .int .i64 x.p.bits, .int .u8 (x.a.fam : Nat), V64 x.a.hi, V64 x.a.lo, S x.owner, S x.to, V64 x.d, V64 x.fr, .int .i64 x.n] 28)).alloc (.cells #[.int .u8 (a.a.fam : Nat), V64 a.a.hi, V64 a.a.lo, S a.owner, V64 a.til, .int .u8 (a.pool.a.fam : Nat), V64 a.pool.a.hi, V64 a.pool.a.lo, .int .i64 a.pool.bits, .bool a.has, .bool a.held, .bool a.live, V64 a.clock, .slice r a.rows.length rc, .slice v a.events.length vc, .slice (some ⟨b, o, none⟩) a.pools.length pc] 36)).alloc (.cells #[.slice none 0 0] 87) = w1 at *
    clear hW
    have hW0 : Wr w1 (w.heap.size + 1 + 1) L0 := by rw [hL0]; exact ⟨none, 0, hwb, own_nil _ _⟩
    clear hwb
    go_wp2_with (first
      | (go_at_call 36; (with_reducible refine (H1.out _ hW0).mono ?_); rintro e w2 ⟨rfl, hW1, hb1, -⟩; have hc1 := hc.below hb1 (by omega); have ha1 := ha.below hb1 (by omega); have hA1 := hA.trans (hb1.mono (by omega)); obtain ⟨⟨c0, c1, c2, c3, c4, c5, c6, c7, c8, c9, c10, c11, c12, c13, c14⟩, -⟩ := hc1.cells15; skip)
      | (go_at_call 31; (with_reducible refine (H2.out _ hW1).mono ?_); rintro e w3 ⟨rfl, hW2, hb2, -⟩; have hc2 := hc1.below hb2 (by omega); have ha2 := ha1.below hb2 (by omega); have hA2 := hA1.trans (hb2.mono (by omega)); obtain ⟨⟨c0, -, -, -, -, -, -, -, -, -, -, -, -, -, -⟩, -⟩ := hc2.cells15; obtain ⟨⟨-, -, -, -, -, -, -, -, -, -, -, -, -, -, -, a15⟩, -⟩ := ha2.cells16; skip)
      | (go_at_call 36; (with_reducible refine (H3.out _ hW2).mono ?_); rintro e w4 ⟨rfl, hW3, hb3, -⟩; have hc3 := hc2.below hb3 (by omega); have ha3 := ha2.below hb3 (by omega); have hA3 := hA2.trans (hb3.mono (by omega)); obtain ⟨⟨-, -, -, -, -, -, -, -, -, -, -, -, -, -, -, a15⟩, -⟩ := ha3.cells16; skip))
    clear hc ha hA hc1 ha1 hA1 hc2 ha2 hA2 hW0 hW1 hW2 hb1 hb2 hb3 H1 H2 H3 hc3 ha3
    have hG : w.heap.size + 1 + 1 < w4.heap.size := hW3.lt
    go_loopw [13, 113] (fun _ i wr => ∃ j : Nat, j ≤ a.pools.length ∧ i = .int .i64 (j : Int) ∧ Wr wr (w.heap.size + 1 + 1) (L3 ++ (a.pools.take j).flatMap P.pxX) ∧ Below w.heap.size w wr) (fun _ i _ => a.pools.length - (intOf i).toNat)
    case atStart => exact ⟨0, by omega, rfl, by simpa using hW3, hA3⟩
    case round =>
      clear hW3 hA3 hG
      obtain ⟨j, hj, rfl, hW, hb⟩ := hrel
      have hG : w.heap.size + 1 + 1 < wr.heap.size := hW.lt
      by_cases hjn : j < a.pools.length
      · have hji : decide ((j : Int) < (a.pools.length : Int)) = true := decide_eq_true (by omega)
        have hwj : IntKind.i64.wrap ((j : Int) + 1) = (j : Int) + 1 := wrap_midT (by omega) (by omega)
        obtain ⟨b', o', hbo, hlt, hcell⟩ := hat.up hb j hjn
        injection hbo with hbo
        injection hbo with hbo1 hbo2
        subst hbo1 hbo2
        have hll := flat_len_le P.pxX 2035 a.pools (fun y hy => by have := P.pxX_le y; omega) j
        have htk := take_flat P.pxX a.pools j hjn
        have hmem : a.pools[j] ∈ a.pools := List.getElem_mem hjn
        have hty := hta.2.2.2.2.2.2 _ hmem
        generalize hy : a.pools[j] = y at *
        clear hy
        obtain ⟨M, hM⟩ : ∃ M, M = L3 ++ (a.pools.take j).flatMap P.pxX := ⟨_, rfl⟩
        have hMl : M.length ≤ 12 + 2035 * j := by rw [hM, List.length_append]; omega
        have hMl2 : M.length ≤ 12 + 2035 * 40 := Nat.le_trans hMl (by have : 2035 * j ≤ 2035 * 40 := Nat.mul_le_mul_left _ (by omega); omega)
        have HM := Lib.hid (show L3 ++ (a.pools.take (j + 1)).flatMap P.pxX = M ++ P.pxX y by rw [htk, hM, List.append_assoc])
        rw [← hM] at hW
        clear hM htk hll hMl hmem
        have e0 := hcell 0 (by omega)
        have e1 := hcell 1 (by omega)
        have e2 := hcell 2 (by omega)
        have e3 := hcell 3 (by omega)
        clear hcell
        simp only [pxC, List.getElem?_cons_zero, List.getElem?_cons_succ, Nat.add_zero] at e0 e1 e2 e3
        obtain ⟨P0, hP0⟩ : ∃ L, L = M ++ P.pxX y := ⟨_, rfl⟩
        have hPl0 : P0.length ≤ 12 + 2035 * 40 + 18 := by rw [hP0, List.length_append]; have := P.pxX_le y; omega
        have HC0 := Lib.hid (fun wx (h : Wr wx (w.heap.size + 1 + 1) M) => show Calls Tryd.prog 32 #[.pointer (some ⟨w.heap.size + 1 + 1, 0, none⟩), pxV y] wx fun e w' => e = .returned (.tuple #[]) ∧ Wr w' (w.heap.size + 1 + 1) P0 ∧ Below (w.heap.size + 1 + 1) wx w' ∧ KeptW (w.heap.size + 1 + 1) wx w' from by rw [hP0]; exact wprefix_any _ M y wx (by omega) h hty)
        have HE := Lib.hid (show P0 = M ++ P.pxX y by first | (rw [hP0]; done) | (rw [hP0]; simp [P.pxX, P.leB]))
        clear hP0
        have hr0 := Bx.fresh wr 26 #[.int .u8 0, .int .u64 0, .int .u64 0, .int .i64 0]
        have hB0 := (Below.refl wr.heap.size wr).alloc (Nat.le_refl _) (.cells #[.int .u8 0, .int .u64 0, .int .u64 0, .int .i64 0] 26)
        go_wp2_with (first
          | (refine wpList_stB (by rfl) _ _ _ (by rfl) hr0 _ _ (by rfl) (by rfl) 4 4 (by rfl) (by rfl) (by decide) infoPx (by rfl) (by rfl) ?_; intro v0 hz' hs0; have hr1 : Bx v0 wr.heap.size 26 #[.int .u8 (y.a.fam : Nat), V64 y.a.hi, V64 y.a.lo, .int .i64 y.bits] := hz'; clear hz'; have hbs := hB0.trans (hs0.below (Nat.le_refl _) hB0.size); have hV0 := hW.up hbs; have d0 := hr1.cell 0; have d1 := hr1.cell 1; have d2 := hr1.cell 2; have d3 := hr1.cell 3; simp only [List.getElem?_toArray, List.getElem?_cons_succ, List.getElem?_cons_zero] at d0 d1 d2 d3)
              | (go_at_call 32; (with_reducible refine (HC0.out _ hV0).mono ?_); rintro e v1 ⟨rfl, hV1, hbv0, hkv0⟩; have hr2 := hr1.keptW hkv0 (by decide) (by omega); have d0 := hr2.cell 0; have d1 := hr2.cell 1; have d2 := hr2.cell 2; have d3 := hr2.cell 3; simp only [List.getElem?_toArray, List.getElem?_cons_succ, List.getElem?_cons_zero] at d0 d1 d2 d3))
        go_roundw
        case rel => exact ⟨j + 1, by omega, by go_num, by rw [HM.out, ← HE.out]; exact hV1, ((hb.trans (hbs.mono (by have := hb.size; omega))).trans (hbv0.mono (by omega)))⟩
        case measure => simp [intOf]; omega
      · have hji : decide ((j : Int) < (a.pools.length : Int)) = false := decide_eq_false (by omega)
        obtain rfl : j = a.pools.length := by omega
        rw [Hres.out] at hW
        obtain ⟨sa, sc, hwx, hwo⟩ := hW
        have q0 := hwx.cell 0
        go_wp2_with (refine wpList_conv_own (by rfl) hwo ?_)
        go_ret
        exact ⟨rfl, hb⟩
  · skip
    have t5 : ((x.op : Int) == 5) = false := beq_eq_false_iff_ne.2 (by omega)
    have t6 : ((x.op : Int) == 6) = false := beq_eq_false_iff_ne.2 (by omega)
    have t7 : ((x.op : Int) == 7) = false := beq_eq_false_iff_ne.2 (by omega)
    have t10 : ((x.op : Int) == 10) = false := beq_eq_false_iff_ne.2 (by omega)
    have t11 : ((x.op : Int) == 11) = false := beq_eq_false_iff_ne.2 (by omega)
    have t12 : ((x.op : Int) == 12) = false := beq_eq_false_iff_ne.2 (by omega)
    have t13 : ((x.op : Int) == 13) = false := beq_eq_false_iff_ne.2 (by omega)
    have t14 : ((x.op : Int) == 14) = true := beq_iff_eq.2 (by omega)
    clear hop
    go_enter Tryd.func21, Tryd.ntmps21
    go_upto_region 2 with fail
    generalize hW : ((w.alloc (.cells #[.int .u8 (x.op : Nat), .int .u8 (x.client : Nat), V64 x.number, .int .u8 (x.p.a.fam : Nat), V64 x.p.a.hi, V64 x.p.a.lo, .int .i64 x.p.bits, .int .u8 (x.a.fam : Nat), V64 x.a.hi, V64 x.a.lo, S x.owner, S x.to, V64 x.d, V64 x.fr, .int .i64 x.n] 28)).alloc (.cells #[.int .u8 (a.a.fam : Nat), V64 a.a.hi, V64 a.a.lo, S a.owner, V64 a.til, .int .u8 (a.pool.a.fam : Nat), V64 a.pool.a.hi, V64 a.pool.a.lo, .int .i64 a.pool.bits, .bool a.has, .bool a.held, .bool a.live, V64 a.clock, .slice r a.rows.length rc, .slice v a.events.length vc, .slice (some ⟨b, o, none⟩) a.pools.length pc] 36)).alloc (.cells #[.slice none 0 0] 87) = w1 at *
    clear hW
    have hW0 : Wr w1 (w.heap.size + 1 + 1) L0 := by rw [hL0]; exact ⟨none, 0, hwb, own_nil _ _⟩
    clear hwb
    go_wp2_with (first
      | (go_at_call 36; (with_reducible refine (H1.out _ hW0).mono ?_); rintro e w2 ⟨rfl, hW1, hb1, -⟩; have hc1 := hc.below hb1 (by omega); have ha1 := ha.below hb1 (by omega); have hA1 := hA.trans (hb1.mono (by omega)); obtain ⟨⟨c0, c1, c2, c3, c4, c5, c6, c7, c8, c9, c10, c11, c12, c13, c14⟩, -⟩ := hc1.cells15; skip)
      | (go_at_call 31; (with_reducible refine (H2.out _ hW1).mono ?_); rintro e w3 ⟨rfl, hW2, hb2, -⟩; have hc2 := hc1.below hb2 (by omega); have ha2 := ha1.below hb2 (by omega); have hA2 := hA1.trans (hb2.mono (by omega)); obtain ⟨⟨c0, -, -, -, -, -, -, -, -, -, -, -, -, -, -⟩, -⟩ := hc2.cells15; obtain ⟨⟨-, -, -, -, -, -, -, -, -, -, -, -, -, -, -, a15⟩, -⟩ := ha2.cells16; skip)
      | (go_at_call 36; (with_reducible refine (H3.out _ hW2).mono ?_); rintro e w4 ⟨rfl, hW3, hb3, -⟩; have hc3 := hc2.below hb3 (by omega); have ha3 := ha2.below hb3 (by omega); have hA3 := hA2.trans (hb3.mono (by omega)); obtain ⟨⟨-, -, -, -, -, -, -, -, -, -, -, -, -, -, -, a15⟩, -⟩ := ha3.cells16; skip))
    clear hc ha hA hc1 ha1 hA1 hc2 ha2 hA2 hW0 hW1 hW2 hb1 hb2 hb3 H1 H2 H3 hc3 ha3
    have hG : w.heap.size + 1 + 1 < w4.heap.size := hW3.lt
    go_loopw [13, 113] (fun _ i wr => ∃ j : Nat, j ≤ a.pools.length ∧ i = .int .i64 (j : Int) ∧ Wr wr (w.heap.size + 1 + 1) (L3 ++ (a.pools.take j).flatMap P.pxX) ∧ Below w.heap.size w wr) (fun _ i _ => a.pools.length - (intOf i).toNat)
    case atStart => exact ⟨0, by omega, rfl, by simpa using hW3, hA3⟩
    case round =>
      clear hW3 hA3 hG
      obtain ⟨j, hj, rfl, hW, hb⟩ := hrel
      have hG : w.heap.size + 1 + 1 < wr.heap.size := hW.lt
      by_cases hjn : j < a.pools.length
      · have hji : decide ((j : Int) < (a.pools.length : Int)) = true := decide_eq_true (by omega)
        have hwj : IntKind.i64.wrap ((j : Int) + 1) = (j : Int) + 1 := wrap_midT (by omega) (by omega)
        obtain ⟨b', o', hbo, hlt, hcell⟩ := hat.up hb j hjn
        injection hbo with hbo
        injection hbo with hbo1 hbo2
        subst hbo1 hbo2
        have hll := flat_len_le P.pxX 2035 a.pools (fun y hy => by have := P.pxX_le y; omega) j
        have htk := take_flat P.pxX a.pools j hjn
        have hmem : a.pools[j] ∈ a.pools := List.getElem_mem hjn
        have hty := hta.2.2.2.2.2.2 _ hmem
        generalize hy : a.pools[j] = y at *
        clear hy
        obtain ⟨M, hM⟩ : ∃ M, M = L3 ++ (a.pools.take j).flatMap P.pxX := ⟨_, rfl⟩
        have hMl : M.length ≤ 12 + 2035 * j := by rw [hM, List.length_append]; omega
        have hMl2 : M.length ≤ 12 + 2035 * 40 := Nat.le_trans hMl (by have : 2035 * j ≤ 2035 * 40 := Nat.mul_le_mul_left _ (by omega); omega)
        have HM := Lib.hid (show L3 ++ (a.pools.take (j + 1)).flatMap P.pxX = M ++ P.pxX y by rw [htk, hM, List.append_assoc])
        rw [← hM] at hW
        clear hM htk hll hMl hmem
        have e0 := hcell 0 (by omega)
        have e1 := hcell 1 (by omega)
        have e2 := hcell 2 (by omega)
        have e3 := hcell 3 (by omega)
        clear hcell
        simp only [pxC, List.getElem?_cons_zero, List.getElem?_cons_succ, Nat.add_zero] at e0 e1 e2 e3
        obtain ⟨P0, hP0⟩ : ∃ L, L = M ++ P.pxX y := ⟨_, rfl⟩
        have hPl0 : P0.length ≤ 12 + 2035 * 40 + 18 := by rw [hP0, List.length_append]; have := P.pxX_le y; omega
        have HC0 := Lib.hid (fun wx (h : Wr wx (w.heap.size + 1 + 1) M) => show Calls Tryd.prog 32 #[.pointer (some ⟨w.heap.size + 1 + 1, 0, none⟩), pxV y] wx fun e w' => e = .returned (.tuple #[]) ∧ Wr w' (w.heap.size + 1 + 1) P0 ∧ Below (w.heap.size + 1 + 1) wx w' ∧ KeptW (w.heap.size + 1 + 1) wx w' from by rw [hP0]; exact wprefix_any _ M y wx (by omega) h hty)
        have HE := Lib.hid (show P0 = M ++ P.pxX y by first | (rw [hP0]; done) | (rw [hP0]; simp [P.pxX, P.leB]))
        clear hP0
        have hr0 := Bx.fresh wr 26 #[.int .u8 0, .int .u64 0, .int .u64 0, .int .i64 0]
        have hB0 := (Below.refl wr.heap.size wr).alloc (Nat.le_refl _) (.cells #[.int .u8 0, .int .u64 0, .int .u64 0, .int .i64 0] 26)
        go_wp2_with (first
          | (refine wpList_stB (by rfl) _ _ _ (by rfl) hr0 _ _ (by rfl) (by rfl) 4 4 (by rfl) (by rfl) (by decide) infoPx (by rfl) (by rfl) ?_; intro v0 hz' hs0; have hr1 : Bx v0 wr.heap.size 26 #[.int .u8 (y.a.fam : Nat), V64 y.a.hi, V64 y.a.lo, .int .i64 y.bits] := hz'; clear hz'; have hbs := hB0.trans (hs0.below (Nat.le_refl _) hB0.size); have hV0 := hW.up hbs; have d0 := hr1.cell 0; have d1 := hr1.cell 1; have d2 := hr1.cell 2; have d3 := hr1.cell 3; simp only [List.getElem?_toArray, List.getElem?_cons_succ, List.getElem?_cons_zero] at d0 d1 d2 d3)
              | (go_at_call 32; (with_reducible refine (HC0.out _ hV0).mono ?_); rintro e v1 ⟨rfl, hV1, hbv0, hkv0⟩; have hr2 := hr1.keptW hkv0 (by decide) (by omega); have d0 := hr2.cell 0; have d1 := hr2.cell 1; have d2 := hr2.cell 2; have d3 := hr2.cell 3; simp only [List.getElem?_toArray, List.getElem?_cons_succ, List.getElem?_cons_zero] at d0 d1 d2 d3))
        go_roundw
        case rel => exact ⟨j + 1, by omega, by go_num, by rw [HM.out, ← HE.out]; exact hV1, ((hb.trans (hbs.mono (by have := hb.size; omega))).trans (hbv0.mono (by omega)))⟩
        case measure => simp [intOf]; omega
      · have hji : decide ((j : Int) < (a.pools.length : Int)) = false := decide_eq_false (by omega)
        obtain rfl : j = a.pools.length := by omega
        rw [Hres.out] at hW
        obtain ⟨sa, sc, hwx, hwo⟩ := hW
        have q0 := hwx.cell 0
        go_wp2_with (refine wpList_conv_own (by rfl) hwo ?_)
        go_ret
        exact ⟨rfl, hb⟩
end Go.Proofs.YtcobfoiajdbahaaDoor
