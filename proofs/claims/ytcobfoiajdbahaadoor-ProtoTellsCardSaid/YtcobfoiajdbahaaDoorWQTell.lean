/- The walk of proto.Tell: an error; a lease. -/
import Derived.Test.YtcobfoiajdbahaaDoorWQWrite
import Derived.Test.YtcobfoiajdbahaaDoorPQ
namespace Go.Proofs.YtcobfoiajdbahaaDoor
open Go.RowKit
set_option linter.unusedVariables false
set_option linter.unusedSimpArgs false
theorem Bx.cells16 {w : World} {g : Nat} {t : TypeId} {a0 a1 a2 a3 a4 a5 a6 a7 a8 a9 a10 a11 a12 a13 a14 a15 : Value} (h : Bx w g t #[a0, a1, a2, a3, a4, a5, a6, a7, a8, a9, a10, a11, a12, a13, a14, a15]) :
    (w.cell? ⟨g, 0, none⟩ = some a0 ∧ w.cell? ⟨g, 1, none⟩ = some a1 ∧ w.cell? ⟨g, 2, none⟩ = some a2 ∧ w.cell? ⟨g, 3, none⟩ = some a3 ∧ w.cell? ⟨g, 4, none⟩ = some a4 ∧ w.cell? ⟨g, 5, none⟩ = some a5 ∧ w.cell? ⟨g, 6, none⟩ = some a6 ∧ w.cell? ⟨g, 7, none⟩ = some a7 ∧ w.cell? ⟨g, 8, none⟩ = some a8 ∧ w.cell? ⟨g, 9, none⟩ = some a9 ∧ w.cell? ⟨g, 10, none⟩ = some a10 ∧ w.cell? ⟨g, 11, none⟩ = some a11 ∧ w.cell? ⟨g, 12, none⟩ = some a12 ∧ w.cell? ⟨g, 13, none⟩ = some a13 ∧ w.cell? ⟨g, 14, none⟩ = some a14 ∧ w.cell? ⟨g, 15, none⟩ = some a15) ∧ (w.frozen? ⟨g, 0, none⟩ = false ∧ w.frozen? ⟨g, 1, none⟩ = false ∧ w.frozen? ⟨g, 2, none⟩ = false ∧ w.frozen? ⟨g, 3, none⟩ = false ∧ w.frozen? ⟨g, 4, none⟩ = false ∧ w.frozen? ⟨g, 5, none⟩ = false ∧ w.frozen? ⟨g, 6, none⟩ = false ∧ w.frozen? ⟨g, 7, none⟩ = false ∧ w.frozen? ⟨g, 8, none⟩ = false ∧ w.frozen? ⟨g, 9, none⟩ = false ∧ w.frozen? ⟨g, 10, none⟩ = false ∧ w.frozen? ⟨g, 11, none⟩ = false ∧ w.frozen? ⟨g, 12, none⟩ = false ∧ w.frozen? ⟨g, 13, none⟩ = false ∧ w.frozen? ⟨g, 14, none⟩ = false ∧ w.frozen? ⟨g, 15, none⟩ = false) :=
  ⟨⟨h.cell 0, h.cell 1, h.cell 2, h.cell 3, h.cell 4, h.cell 5, h.cell 6, h.cell 7, h.cell 8, h.cell 9, h.cell 10, h.cell 11, h.cell 12, h.cell 13, h.cell 14, h.cell 15⟩, h.frozen 0, h.frozen 1, h.frozen 2, h.frozen 3, h.frozen 4, h.frozen 5, h.frozen 6, h.frozen 7, h.frozen 8, h.frozen 9, h.frozen 10, h.frozen 11, h.frozen 12, h.frozen 13, h.frozen 14, h.frozen 15⟩
theorem three_bx (w : World) (A B C : Array Value) (t u v : TypeId) : Bx (((w.alloc (.cells A t)).alloc (.cells B u)).alloc (.cells C v)) w.heap.size t A ∧ Bx (((w.alloc (.cells A t)).alloc (.cells B u)).alloc (.cells C v)) (w.heap.size + 1) u B ∧ Bx (((w.alloc (.cells A t)).alloc (.cells B u)).alloc (.cells C v)) (w.heap.size + 1 + 1) v C ∧ Below w.heap.size w (((w.alloc (.cells A t)).alloc (.cells B u)).alloc (.cells C v)) := by
  obtain ⟨h1, h2, h3⟩ := two_bx w A B t u
  have h4 := Bx.fresh ((w.alloc (.cells A t)).alloc (.cells B u)) v C
  rw [World.size_alloc, World.size_alloc] at h4
  have hb := (Below.refl ((w.alloc (.cells A t)).alloc (.cells B u)).heap.size _).alloc (Nat.le_refl _) (.cells C v)
  exact ⟨h1.up hb, h2.up hb, h4, h3.alloc (by simp; omega) _⟩
theorem P.adX_le (a : P.Ad) : (P.adX a).length ≤ 17 := by unfold P.adX P.adB; split <;> (try split) <;> simp [P.be_length]
theorem P.txB_le {s : List UInt8} (h : s.length ≤ 20000) : (P.txB s).length ≤ 20009 := by unfold P.txB; rw [List.length_append]; have := P.row_len9 s.length; omega
theorem P.pxX_le (a : P.Px) : (P.pxX a).length ≤ 18 := by unfold P.pxX; rw [List.length_append]; have := P.adX_le a.a; simp; omega
theorem P.leB_le {s : List UInt8} (h : s.length ≤ 20000) (n : Nat) : (P.leB s n).length ≤ 20018 := by unfold P.leB; rw [List.length_append]; have := P.txB_le h; have := P.row_len9 n; omega
theorem P.headB_len (a b c : Nat) : (P.headB a b c).length = 10 := by simp [P.headB, P.be_length]
/-- An answer, its lists in slices. -/
abbrev anV (a : P.An) (r : Option Addr) (rc : Nat) (v : Option Addr) (vc : Nat) (p : Option Addr) (pc : Nat) : Value := .agg #[.int .u8 (a.a.fam : Nat), V64 a.a.hi, V64 a.a.lo, S a.owner, V64 a.til, .int .u8 (a.pool.a.fam : Nat), V64 a.pool.a.hi, V64 a.pool.a.lo, .int .i64 a.pool.bits, .bool a.has, .bool a.held, .bool a.live, V64 a.clock, .slice r a.rows.length rc, .slice v a.events.length vc, .slice p a.pools.length pc]
set_option maxRecDepth 100000 in
set_option maxHeartbeats 8000000 in
theorem tell_err (x : P.Ca) (a : P.An) (r : Option Addr) (rc : Nat) (v : Option Addr) (vc : Nat) (p : Option Addr) (pc : Nat) (e : Int) (ht : P.tyC x) (he : e ≠ 0) (w : World) :
    Calls Tryd.prog 21 #[caV x, anV a r rc v vc p pc, .int .i64 e] w fun e' w' => e' = .returned (S (P.tellB x.op x.client x.number a e)) ∧ Below w.heap.size w w' := by
  obtain ⟨hc, ha, hwb, hA⟩ := three_bx w #[.int .u8 (x.op : Nat), .int .u8 (x.client : Nat), V64 x.number, .int .u8 (x.p.a.fam : Nat), V64 x.p.a.hi, V64 x.p.a.lo, .int .i64 x.p.bits, .int .u8 (x.a.fam : Nat), V64 x.a.hi, V64 x.a.lo, S x.owner, S x.to, V64 x.d, V64 x.fr, .int .i64 x.n] #[.int .u8 (a.a.fam : Nat), V64 a.a.hi, V64 a.a.lo, S a.owner, V64 a.til, .int .u8 (a.pool.a.fam : Nat), V64 a.pool.a.hi, V64 a.pool.a.lo, .int .i64 a.pool.bits, .bool a.has, .bool a.held, .bool a.live, V64 a.clock, .slice r a.rows.length rc, .slice v a.events.length vc, .slice p a.pools.length pc] #[.slice none 0 0] 28 36 87
  obtain ⟨L0, hL0⟩ : ∃ L : List UInt8, L = [] := ⟨_, rfl⟩
  have hl0 : L0.length ≤ 0 := by rw [hL0]; exact Nat.le_refl _
  obtain ⟨L1, hL1⟩ : ∃ L, L = L0 ++ [P.byI e] := ⟨_, rfl⟩
  have hl1 : L1.length ≤ 1 := by rw [hL1, List.length_append]; simp only [List.length_singleton]; omega
  have H1 := Lib.hid (fun wx (h : Wr wx (w.heap.size + 1 + 1) L0) => show Calls Tryd.prog 36 #[.pointer (some ⟨w.heap.size + 1 + 1, 0, none⟩), .int .i64 e] wx fun e w' => e = .returned (.tuple #[]) ∧ Wr w' (w.heap.size + 1 + 1) L1 ∧ Below (w.heap.size + 1 + 1) wx w' ∧ KeptW (w.heap.size + 1 + 1) wx w' from by rw [hL1]; exact wbyte_any _ L0 e wx (by omega) h)
  obtain ⟨L2, hL2⟩ : ∃ L, L = L1 ++ P.headB x.op x.client x.number := ⟨_, rfl⟩
  have hl2 : L2.length ≤ 11 := by rw [hL2, List.length_append]; have := P.headB_len x.op x.client x.number; omega
  have H2 := Lib.hid (fun wx (h : Wr wx (w.heap.size + 1 + 1) L1) => show Calls Tryd.prog 31 #[.pointer (some ⟨w.heap.size + 1 + 1, 0, none⟩), caV x] wx fun e w' => e = .returned (.tuple #[]) ∧ Wr w' (w.heap.size + 1 + 1) L2 ∧ Below (w.heap.size + 1 + 1) wx w' ∧ KeptW (w.heap.size + 1 + 1) wx w' from by rw [hL2]; exact whead_any _ L1 x wx (by omega) h ht.1 ht.2.1 ht.2.2.1)
  have Hres := Lib.hid (show L2 = P.tellB x.op x.client x.number a e by unfold P.tellB; rw [if_neg he, hL2, hL1, hL0]; simp)
  have he2 : (e != 0) = true := by simpa using he
  clear hL2 hL1 he
  go_enter Tryd.func21, Tryd.ntmps21
  go_upto_region 2 with fail
  generalize hW : ((w.alloc (.cells #[.int .u8 (x.op : Nat), .int .u8 (x.client : Nat), V64 x.number, .int .u8 (x.p.a.fam : Nat), V64 x.p.a.hi, V64 x.p.a.lo, .int .i64 x.p.bits, .int .u8 (x.a.fam : Nat), V64 x.a.hi, V64 x.a.lo, S x.owner, S x.to, V64 x.d, V64 x.fr, .int .i64 x.n] 28)).alloc (.cells #[.int .u8 (a.a.fam : Nat), V64 a.a.hi, V64 a.a.lo, S a.owner, V64 a.til, .int .u8 (a.pool.a.fam : Nat), V64 a.pool.a.hi, V64 a.pool.a.lo, .int .i64 a.pool.bits, .bool a.has, .bool a.held, .bool a.live, V64 a.clock, .slice r a.rows.length rc, .slice v a.events.length vc, .slice p a.pools.length pc] 36)).alloc (.cells #[.slice none 0 0] 87) = w1 at *
  clear hW
  have hW0 : Wr w1 (w.heap.size + 1 + 1) L0 := by rw [hL0]; exact ⟨none, 0, hwb, own_nil _ _⟩
  clear hwb
  go_wp2_with (first
    | (go_at_call 36; (with_reducible refine (H1.out _ hW0).mono ?_); rintro e w2 ⟨rfl, hW1, hb1, -⟩; have hc1 := hc.below hb1 (by omega); have ha1 := ha.below hb1 (by omega); have hA1 := hA.trans (hb1.mono (by omega)); obtain ⟨⟨c0, c1, c2, c3, c4, c5, c6, c7, c8, c9, c10, c11, c12, c13, c14⟩, -⟩ := hc1.cells15; skip)
    | (go_at_call 31; (with_reducible refine (H2.out _ hW1).mono ?_); rintro e w3 ⟨rfl, hW2, hb2, -⟩; have hc2 := hc1.below hb2 (by omega); have ha2 := ha1.below hb2 (by omega); have hA2 := hA1.trans (hb2.mono (by omega)); obtain ⟨sa, sc, hwx, hwo⟩ := hW2; have q0 := hwx.cell 0; skip)
    | (refine wpList_conv_own (by rfl) hwo ?_))
  go_ret
  exact ⟨by rw [Hres.out]; rfl, hA2⟩
set_option maxRecDepth 100000 in
set_option maxHeartbeats 8000000 in
theorem tell_lease (x : P.Ca) (a : P.An) (r : Option Addr) (rc : Nat) (v : Option Addr) (vc : Nat) (p : Option Addr) (pc : Nat) (ht : P.tyC x) (hta : P.tyAn a) (ho : a.owner.length ≤ 20000) (hop : 5 ≤ x.op ∧ x.op ≤ 7) (w : World) :
    Calls Tryd.prog 21 #[caV x, anV a r rc v vc p pc, .int .i64 0] w fun e' w' => e' = .returned (S (P.tellB x.op x.client x.number a 0)) ∧ Below w.heap.size w w' := by
  obtain ⟨hc, ha, hwb, hA⟩ := three_bx w #[.int .u8 (x.op : Nat), .int .u8 (x.client : Nat), V64 x.number, .int .u8 (x.p.a.fam : Nat), V64 x.p.a.hi, V64 x.p.a.lo, .int .i64 x.p.bits, .int .u8 (x.a.fam : Nat), V64 x.a.hi, V64 x.a.lo, S x.owner, S x.to, V64 x.d, V64 x.fr, .int .i64 x.n] #[.int .u8 (a.a.fam : Nat), V64 a.a.hi, V64 a.a.lo, S a.owner, V64 a.til, .int .u8 (a.pool.a.fam : Nat), V64 a.pool.a.hi, V64 a.pool.a.lo, .int .i64 a.pool.bits, .bool a.has, .bool a.held, .bool a.live, V64 a.clock, .slice r a.rows.length rc, .slice v a.events.length vc, .slice p a.pools.length pc] #[.slice none 0 0] 28 36 87
  obtain ⟨L0, hL0⟩ : ∃ L : List UInt8, L = [] := ⟨_, rfl⟩
  have hl0 : L0.length ≤ 0 := by rw [hL0]; exact Nat.le_refl _
  obtain ⟨L1, hL1⟩ : ∃ L, L = L0 ++ [P.byI 0] := ⟨_, rfl⟩
  have hl1 : L1.length ≤ 1 := by rw [hL1, List.length_append]; simp only [List.length_singleton]; omega
  have H1 := Lib.hid (fun wx (h : Wr wx (w.heap.size + 1 + 1) L0) => show Calls Tryd.prog 36 #[.pointer (some ⟨w.heap.size + 1 + 1, 0, none⟩), .int .i64 0] wx fun e w' => e = .returned (.tuple #[]) ∧ Wr w' (w.heap.size + 1 + 1) L1 ∧ Below (w.heap.size + 1 + 1) wx w' ∧ KeptW (w.heap.size + 1 + 1) wx w' from by rw [hL1]; exact wbyte_any _ L0 0 wx (by omega) h)
  obtain ⟨L2, hL2⟩ : ∃ L, L = L1 ++ P.headB x.op x.client x.number := ⟨_, rfl⟩
  have hl2 : L2.length ≤ 11 := by rw [hL2, List.length_append]; have := P.headB_len x.op x.client x.number; omega
  have H2 := Lib.hid (fun wx (h : Wr wx (w.heap.size + 1 + 1) L1) => show Calls Tryd.prog 31 #[.pointer (some ⟨w.heap.size + 1 + 1, 0, none⟩), caV x] wx fun e w' => e = .returned (.tuple #[]) ∧ Wr w' (w.heap.size + 1 + 1) L2 ∧ Below (w.heap.size + 1 + 1) wx w' ∧ KeptW (w.heap.size + 1 + 1) wx w' from by rw [hL2]; exact whead_any _ L1 x wx (by omega) h ht.1 ht.2.1 ht.2.2.1)
  obtain ⟨L3, hL3⟩ : ∃ L, L = L2 ++ P.adX a.a := ⟨_, rfl⟩
  have hl3 : L3.length ≤ 28 := by rw [hL3, List.length_append]; have := P.adX_le a.a; omega
  have H3 := Lib.hid (fun wx (h : Wr wx (w.heap.size + 1 + 1) L2) => show Calls Tryd.prog 33 #[.pointer (some ⟨w.heap.size + 1 + 1, 0, none⟩), adV a.a] wx fun e w' => e = .returned (.tuple #[]) ∧ Wr w' (w.heap.size + 1 + 1) L3 ∧ Below (w.heap.size + 1 + 1) wx w' ∧ KeptW (w.heap.size + 1 + 1) wx w' from by rw [hL3]; exact waddr_any _ L2 a.a wx (by omega) h hta.1)
  obtain ⟨L4, hL4⟩ : ∃ L, L = L3 ++ P.leB a.owner a.til := ⟨_, rfl⟩
  have hl4 : L4.length ≤ 20046 := by rw [hL4, List.length_append]; have := P.leB_le ho a.til; omega
  have H4 := Lib.hid (fun wx (h : Wr wx (w.heap.size + 1 + 1) L3) => show Calls Tryd.prog 63 #[.pointer (some ⟨w.heap.size + 1 + 1, 0, none⟩), .agg #[S a.owner, V64 a.til]] wx fun e w' => e = .returned (.tuple #[]) ∧ Wr w' (w.heap.size + 1 + 1) L4 ∧ Below (w.heap.size + 1 + 1) wx w' ∧ KeptW (w.heap.size + 1 + 1) wx w' from by rw [hL4]; exact wlease_any _ L3 (a.owner, a.til) wx (by omega) h ho hta.2.1)
  have Hres := Lib.hid (show L4 = P.tellB x.op x.client x.number a 0 by unfold P.tellB P.tailB; rw [if_pos rfl, if_pos hop, hL4, hL3, hL2, hL1, hL0]; simp)
  clear hL4 hL3 hL2 hL1
  go_enter Tryd.func21, Tryd.ntmps21
  go_upto_region 2 with fail
  generalize hW : ((w.alloc (.cells #[.int .u8 (x.op : Nat), .int .u8 (x.client : Nat), V64 x.number, .int .u8 (x.p.a.fam : Nat), V64 x.p.a.hi, V64 x.p.a.lo, .int .i64 x.p.bits, .int .u8 (x.a.fam : Nat), V64 x.a.hi, V64 x.a.lo, S x.owner, S x.to, V64 x.d, V64 x.fr, .int .i64 x.n] 28)).alloc (.cells #[.int .u8 (a.a.fam : Nat), V64 a.a.hi, V64 a.a.lo, S a.owner, V64 a.til, .int .u8 (a.pool.a.fam : Nat), V64 a.pool.a.hi, V64 a.pool.a.lo, .int .i64 a.pool.bits, .bool a.has, .bool a.held, .bool a.live, V64 a.clock, .slice r a.rows.length rc, .slice v a.events.length vc, .slice p a.pools.length pc] 36)).alloc (.cells #[.slice none 0 0] 87) = w1 at *
  clear hW
  have hW0 : Wr w1 (w.heap.size + 1 + 1) L0 := by rw [hL0]; exact ⟨none, 0, hwb, own_nil _ _⟩
  clear hwb
  rcases (show x.op = 5 ∨ x.op = 6 ∨ x.op = 7 by omega) with hop | hop | hop
  · have t5 : ((x.op : Int) == 5) = true := beq_iff_eq.2 (by omega)
    clear hop
    go_wp2_with (first
      | (go_at_call 36; (with_reducible refine (H1.out _ hW0).mono ?_); rintro e w2 ⟨rfl, hW1, hb1, -⟩; have hc1 := hc.below hb1 (by omega); have ha1 := ha.below hb1 (by omega); have hA1 := hA.trans (hb1.mono (by omega)); obtain ⟨⟨c0, c1, c2, c3, c4, c5, c6, c7, c8, c9, c10, c11, c12, c13, c14⟩, -⟩ := hc1.cells15; skip)
      | (go_at_call 31; (with_reducible refine (H2.out _ hW1).mono ?_); rintro e w3 ⟨rfl, hW2, hb2, -⟩; have hc2 := hc1.below hb2 (by omega); have ha2 := ha1.below hb2 (by omega); have hA2 := hA1.trans (hb2.mono (by omega)); obtain ⟨⟨c0, -, -, -, -, -, -, -, -, -, -, -, -, -, -⟩, -⟩ := hc2.cells15; obtain ⟨⟨a0, a1, a2, -, -, -, -, -, -, -, -, -, -, -, -, -⟩, -⟩ := ha2.cells16; skip)
      | (go_at_call 33; (with_reducible refine (H3.out _ hW2).mono ?_); rintro e w4 ⟨rfl, hW3, hb3, -⟩; have hc3 := hc2.below hb3 (by omega); have ha3 := ha2.below hb3 (by omega); have hA3 := hA2.trans (hb3.mono (by omega)); obtain ⟨⟨-, -, -, a3, a4, -, -, -, -, -, -, -, -, -, -, -⟩, -⟩ := ha3.cells16; skip)
      | (go_at_call 63; (with_reducible refine (H4.out _ hW3).mono ?_); rintro e w5 ⟨rfl, hW4, hb4, -⟩; have hc4 := hc3.below hb4 (by omega); have ha4 := ha3.below hb4 (by omega); have hA4 := hA3.trans (hb4.mono (by omega)); obtain ⟨sa, sc, hwx, hwo⟩ := hW4; have q0 := hwx.cell 0; skip)
      | (refine wpList_conv_own (by rfl) hwo ?_))
    go_ret
    exact ⟨by rw [Hres.out]; rfl, hA4⟩
  · have t5 : ((x.op : Int) == 5) = false := beq_eq_false_iff_ne.2 (by omega)
    have t6 : ((x.op : Int) == 6) = true := beq_iff_eq.2 (by omega)
    clear hop
    go_wp2_with (first
      | (go_at_call 36; (with_reducible refine (H1.out _ hW0).mono ?_); rintro e w2 ⟨rfl, hW1, hb1, -⟩; have hc1 := hc.below hb1 (by omega); have ha1 := ha.below hb1 (by omega); have hA1 := hA.trans (hb1.mono (by omega)); obtain ⟨⟨c0, c1, c2, c3, c4, c5, c6, c7, c8, c9, c10, c11, c12, c13, c14⟩, -⟩ := hc1.cells15; skip)
      | (go_at_call 31; (with_reducible refine (H2.out _ hW1).mono ?_); rintro e w3 ⟨rfl, hW2, hb2, -⟩; have hc2 := hc1.below hb2 (by omega); have ha2 := ha1.below hb2 (by omega); have hA2 := hA1.trans (hb2.mono (by omega)); obtain ⟨⟨c0, -, -, -, -, -, -, -, -, -, -, -, -, -, -⟩, -⟩ := hc2.cells15; obtain ⟨⟨a0, a1, a2, -, -, -, -, -, -, -, -, -, -, -, -, -⟩, -⟩ := ha2.cells16; skip)
      | (go_at_call 33; (with_reducible refine (H3.out _ hW2).mono ?_); rintro e w4 ⟨rfl, hW3, hb3, -⟩; have hc3 := hc2.below hb3 (by omega); have ha3 := ha2.below hb3 (by omega); have hA3 := hA2.trans (hb3.mono (by omega)); obtain ⟨⟨-, -, -, a3, a4, -, -, -, -, -, -, -, -, -, -, -⟩, -⟩ := ha3.cells16; skip)
      | (go_at_call 63; (with_reducible refine (H4.out _ hW3).mono ?_); rintro e w5 ⟨rfl, hW4, hb4, -⟩; have hc4 := hc3.below hb4 (by omega); have ha4 := ha3.below hb4 (by omega); have hA4 := hA3.trans (hb4.mono (by omega)); obtain ⟨sa, sc, hwx, hwo⟩ := hW4; have q0 := hwx.cell 0; skip)
      | (refine wpList_conv_own (by rfl) hwo ?_))
    go_ret
    exact ⟨by rw [Hres.out]; rfl, hA4⟩
  · have t5 : ((x.op : Int) == 5) = false := beq_eq_false_iff_ne.2 (by omega)
    have t6 : ((x.op : Int) == 6) = false := beq_eq_false_iff_ne.2 (by omega)
    have t7 : ((x.op : Int) == 7) = true := beq_iff_eq.2 (by omega)
    clear hop
    go_wp2_with (first
      | (go_at_call 36; (with_reducible refine (H1.out _ hW0).mono ?_); rintro e w2 ⟨rfl, hW1, hb1, -⟩; have hc1 := hc.below hb1 (by omega); have ha1 := ha.below hb1 (by omega); have hA1 := hA.trans (hb1.mono (by omega)); obtain ⟨⟨c0, c1, c2, c3, c4, c5, c6, c7, c8, c9, c10, c11, c12, c13, c14⟩, -⟩ := hc1.cells15; skip)
      | (go_at_call 31; (with_reducible refine (H2.out _ hW1).mono ?_); rintro e w3 ⟨rfl, hW2, hb2, -⟩; have hc2 := hc1.below hb2 (by omega); have ha2 := ha1.below hb2 (by omega); have hA2 := hA1.trans (hb2.mono (by omega)); obtain ⟨⟨c0, -, -, -, -, -, -, -, -, -, -, -, -, -, -⟩, -⟩ := hc2.cells15; obtain ⟨⟨a0, a1, a2, -, -, -, -, -, -, -, -, -, -, -, -, -⟩, -⟩ := ha2.cells16; skip)
      | (go_at_call 33; (with_reducible refine (H3.out _ hW2).mono ?_); rintro e w4 ⟨rfl, hW3, hb3, -⟩; have hc3 := hc2.below hb3 (by omega); have ha3 := ha2.below hb3 (by omega); have hA3 := hA2.trans (hb3.mono (by omega)); obtain ⟨⟨-, -, -, a3, a4, -, -, -, -, -, -, -, -, -, -, -⟩, -⟩ := ha3.cells16; skip)
      | (go_at_call 63; (with_reducible refine (H4.out _ hW3).mono ?_); rintro e w5 ⟨rfl, hW4, hb4, -⟩; have hc4 := hc3.below hb4 (by omega); have ha4 := ha3.below hb4 (by omega); have hA4 := hA3.trans (hb4.mono (by omega)); obtain ⟨sa, sc, hwx, hwo⟩ := hW4; have q0 := hwx.cell 0; skip)
      | (refine wpList_conv_own (by rfl) hwo ?_))
    go_ret
    exact ⟨by rw [Hres.out]; rfl, hA4⟩
end Go.Proofs.YtcobfoiajdbahaaDoor
