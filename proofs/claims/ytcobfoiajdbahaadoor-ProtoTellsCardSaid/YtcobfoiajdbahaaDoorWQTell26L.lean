/- The walk of the document's Tell, of answers with lists. -/
import Derived.Test.YtcobfoiajdbahaaDoorWQTell26
namespace Go.Proofs.YtcobfoiajdbahaaDoor
open Go.RowKit
set_option linter.unusedVariables false
set_option linter.unusedSimpArgs false
theorem infoREv : (Tryd.prog.info? 126).map (·.size) = some 7 := by kernel_rfl
theorem evt7_cells {w : World} {q : Option Addr} {l : List P.Ev} (h : RowsAt 7 evD w q l) (j : Nat) (hj : j < l.length) : ∃ b o, q = some ⟨b, o, none⟩ ∧ b < w.heap.size ∧ w.cell? ⟨b, o + j * 7, none⟩ = some (.int .u8 0) ∧ w.cell? ⟨b, o + j * 7 + 1, none⟩ = some (.int .u64 0) ∧ w.cell? ⟨b, o + j * 7 + 2, none⟩ = some (.int .u64 0) ∧ w.cell? ⟨b, o + j * 7 + 3, none⟩ = some (.int .i64 (l[j]).how) ∧ w.cell? ⟨b, o + j * 7 + 4, none⟩ = some (S (l[j]).owner) ∧ w.cell? ⟨b, o + j * 7 + 5, none⟩ = some (V64 (l[j]).at') ∧ w.cell? ⟨b, o + j * 7 + 6, none⟩ = some (V64 (l[j]).til) := by
  obtain ⟨b, o, e, hb, hc⟩ := h j hj
  exact ⟨b, o, e, hb, hc 0 (by omega), hc 1 (by omega), hc 2 (by omega), hc 3 (by omega), hc 4 (by omega), hc 5 (by omega), hc 6 (by omega)⟩
theorem take_flatD {α : Type} (f : α → List UInt8) (l : List α) (j : Nat) (h : j < l.length) : (l.take (j + 1)).flatMap f = (l.take j).flatMap f ++ f l[j] := by
  rw [List.take_add_one, List.getElem?_eq_getElem h, List.flatMap_append]
  simp
theorem flat_lenD {α : Type} (f : α → List UInt8) (b : Nat) (l : List α) (h : ∀ y ∈ l, (f y).length ≤ b) (j : Nat) : ((l.take j).flatMap f).length ≤ b * j := by
  induction j with
  | zero => simp
  | succ j ih =>
    by_cases hj : j < l.length
    · rw [take_flatD f l j hj, List.length_append]
      have := h _ (List.getElem_mem hj)
      rw [Nat.mul_add]
      omega
    · rw [List.take_of_length_le (by omega)]
      rw [List.take_of_length_le (by omega)] at ih
      exact Nat.le_trans ih (Nat.mul_le_mul_left _ (by omega))
set_option maxRecDepth 100000 in
set_option maxHeartbeats 4000000 in
theorem refTell_13 (x : P.Ca) (a : P.An) (r : Option Addr) (rc : Nat) (v : Option Addr) (vc : Nat) (p : Option Addr) (pc : Nat) (hop1 : x.op < 256) (hcl : x.client < 256) (hnu : x.number < 18446744073709551616) (ht : P.tyAn a) (ho : a.owner.length ≤ 20000) (hl : a.pools.length ≤ 200) (hop : x.op = 13) (w : World) (hrows : RowsAt 4 pxC w p a.pools) : Calls Tryd.prog 22 #[caV x, raV a r rc v vc p pc, .int .i64 0] w fun e' w' => e' = .returned (S (P.tellB x.op x.client x.number a 0)) ∧ Below w.heap.size w w' := by
  obtain ⟨h1, h2, hA⟩ := two_bx w #[.int .u8 (x.op : Nat), .int .u8 (x.client : Nat), V64 x.number, .int .u8 (x.p.a.fam : Nat), V64 x.p.a.hi, V64 x.p.a.lo, .int .i64 x.p.bits, .int .u8 (x.a.fam : Nat), V64 x.a.hi, V64 x.a.lo, S x.owner, S x.to, V64 x.d, V64 x.fr, .int .i64 x.n] #[.int .u8 (a.a.fam : Nat), V64 a.a.hi, V64 a.a.lo, .int .u8 0, .int .u64 0, .int .u64 0, S a.owner, V64 a.til, .int .u8 (a.pool.a.fam : Nat), V64 a.pool.a.hi, V64 a.pool.a.lo, .int .i64 a.pool.bits, .bool a.has, .bool a.held, .bool a.live, V64 a.clock, .slice r a.rows.length rc, .slice v a.events.length vc, .slice p a.pools.length pc] 46 62
  have HE := Lib.hid (fun wx => refOne_any 0 wx)
  have HH := Lib.hid (fun wx => refHead_any x hop1 hcl hnu wx)
  obtain ⟨E1, hE1⟩ : ∃ L, L = [P.byI 0] := ⟨_, rfl⟩
  obtain ⟨L0, hL0⟩ : ∃ L, L = P.headB x.op x.client x.number := ⟨_, rfl⟩
  obtain ⟨L1, hL1⟩ : ∃ L, L = E1 ++ L0 := ⟨_, rfl⟩
  have lE : E1.length = 1 := by rw [hE1]; rfl
  have l0 : L0.length = 10 := by rw [hL0, P.headB_len]
  have l1 : L1.length = 11 := by rw [hL1, List.length_append]; omega
  rw [← hE1] at HE
  rw [← hL0] at HH
  have k1 := str_catD E1 L0
  rw [← hL1] at k1
  have a1 : ¬ 9223372036854775807 < E1.length + L0.length := by omega
  have LE := Lib.hid lE
  have LZ := Lib.hid l0
  have L1n := Lib.hid l1
  have HN := Lib.hid (fun wx => refOne_any (a.pools.length : Int) wx)
  obtain ⟨T1, hT1⟩ : ∃ T, T = [P.byI (a.pools.length : Int)] := ⟨_, rfl⟩
  have lT : T1.length = 1 := by rw [hT1]; rfl
  rw [← hT1] at HN
  obtain ⟨L2, hL2⟩ : ∃ L, L = L1 ++ T1 := ⟨_, rfl⟩
  have l2 : L2.length = 12 := by rw [hL2, List.length_append]; omega
  have k2 := str_catD L1 T1
  rw [← hL2] at k2
  have a2 : ¬ 9223372036854775807 < L1.length + T1.length := by omega
  have Hres := Lib.hid (show L2 ++ (a.pools.take a.pools.length).flatMap P.pxX = P.tellB x.op x.client x.number a 0 by rw [List.take_length, hL2, hL1, hL0, hE1, hT1]; unfold P.tellB P.tailB; rw [hop]; simp)
  have L2n := Lib.hid l2
  clear hE1 hL0 hL1 hL2 hT1 lT l2
  have t5 : ((x.op : Int) == 5) = false := beq_eq_false_iff_ne.2 (by omega)
  have t6 : ((x.op : Int) == 6) = false := beq_eq_false_iff_ne.2 (by omega)
  have t7 : ((x.op : Int) == 7) = false := beq_eq_false_iff_ne.2 (by omega)
  have t10 : ((x.op : Int) == 10) = false := beq_eq_false_iff_ne.2 (by omega)
  have t11 : ((x.op : Int) == 11) = false := beq_eq_false_iff_ne.2 (by omega)
  have t12 : ((x.op : Int) == 12) = false := beq_eq_false_iff_ne.2 (by omega)
  have t13 : ((x.op : Int) == 13) = true := beq_iff_eq.2 (by omega)
  clear hop
  go_enter Tryd.func22, Tryd.ntmps22
  go_upto_region 1 with fail
  generalize hW : (w.alloc (.cells #[.int .u8 (x.op : Nat), .int .u8 (x.client : Nat), V64 x.number, .int .u8 (x.p.a.fam : Nat), V64 x.p.a.hi, V64 x.p.a.lo, .int .i64 x.p.bits, .int .u8 (x.a.fam : Nat), V64 x.a.hi, V64 x.a.lo, S x.owner, S x.to, V64 x.d, V64 x.fr, .int .i64 x.n] 46)).alloc (.cells #[.int .u8 (a.a.fam : Nat), V64 a.a.hi, V64 a.a.lo, .int .u8 0, .int .u64 0, .int .u64 0, S a.owner, V64 a.til, .int .u8 (a.pool.a.fam : Nat), V64 a.pool.a.hi, V64 a.pool.a.lo, .int .i64 a.pool.bits, .bool a.has, .bool a.held, .bool a.live, V64 a.clock, .slice r a.rows.length rc, .slice v a.events.length vc, .slice p a.pools.length pc] 62) = w2 at *
  clear hW lE l0 l1
  refine wp_region_held_drew (S := fun wx => Bx wx w.heap.size 46 #[.int .u8 (x.op : Nat), .int .u8 (x.client : Nat), V64 x.number, .int .u8 (x.p.a.fam : Nat), V64 x.p.a.hi, V64 x.p.a.lo, .int .i64 x.p.bits, .int .u8 (x.a.fam : Nat), V64 x.a.hi, V64 x.a.lo, S x.owner, S x.to, V64 x.d, V64 x.fr, .int .i64 x.n] ∧ Bx wx (w.heap.size + 1) 62 #[.int .u8 (a.a.fam : Nat), V64 a.a.hi, V64 a.a.lo, .int .u8 0, .int .u64 0, .int .u64 0, S a.owner, V64 a.til, .int .u8 (a.pool.a.fam : Nat), V64 a.pool.a.hi, V64 a.pool.a.lo, .int .i64 a.pool.bits, .bool a.has, .bool a.held, .bool a.live, V64 a.clock, .slice r a.rows.length rc, .slice v a.events.length vc, .slice p a.pools.length pc] ∧ Below w.heap.size w wx) (by kernel_rfl) ⟨h1.drew, h2.drew, hA.drew⟩ (fun hHeld => ?_)
  refine wpAnyH_take (i := 0) (v := ?_) rfl (by kernel_rfl) (by kernel_rfl) (by kernel_rfl) (fun _ _ _ h => h) (Or.inl ⟨by rfl, ?_⟩) hHeld ?_
  rotate_left
  · intro wq hSw; go_simp; (try with_reducible rfl)
  simp only [Act.put, nrm]
  refine wpAnyH_take (i := 2) (v := .agg #[.int .u8 (x.op : Nat), .int .u8 (x.client : Nat), V64 x.number, .int .u8 (x.p.a.fam : Nat), V64 x.p.a.hi, V64 x.p.a.lo, .int .i64 x.p.bits, .int .u8 (x.a.fam : Nat), V64 x.a.hi, V64 x.a.lo, S x.owner, S x.to, V64 x.d, V64 x.fr, .int .i64 x.n]) rfl (by kernel_rfl) (by kernel_rfl) (by kernel_rfl) (fun _ _ _ h => h) (yieldsB (by rfl) _ _ (by rfl) (by rfl) (fun wx h => h.1) structRC 15 infoRC (by rfl)) hHeld ?_
  simp only [Act.put, nrm]
  refine wpAnyH_one (i := 1) (by kernel_rfl) rfl (fun K hK => ?_)
  simp only [nrm]
  go_simp
  (with_reducible refine (HE.out _).mono ?_)
  rintro e v1 ⟨rfl, hb1⟩
  have hSv1 : Bx v1 w.heap.size 46 #[.int .u8 (x.op : Nat), .int .u8 (x.client : Nat), V64 x.number, .int .u8 (x.p.a.fam : Nat), V64 x.p.a.hi, V64 x.p.a.lo, .int .i64 x.p.bits, .int .u8 (x.a.fam : Nat), V64 x.a.hi, V64 x.a.lo, S x.owner, S x.to, V64 x.d, V64 x.fr, .int .i64 x.n] ∧ Bx v1 (w.heap.size + 1) 62 #[.int .u8 (a.a.fam : Nat), V64 a.a.hi, V64 a.a.lo, .int .u8 0, .int .u64 0, .int .u64 0, S a.owner, V64 a.til, .int .u8 (a.pool.a.fam : Nat), V64 a.pool.a.hi, V64 a.pool.a.lo, .int .i64 a.pool.bits, .bool a.has, .bool a.held, .bool a.live, V64 a.clock, .slice r a.rows.length rc, .slice v a.events.length vc, .slice p a.pools.length pc] ∧ Below w.heap.size w v1 := ⟨hHeld.1.up hb1, hHeld.2.1.up hb1, Chain.up hHeld.2.2 hb1⟩
  refine hK.out _ _ hSv1 ?_
  clear hK K
  refine wpAnyH_one (i := 3) (by kernel_rfl) rfl (fun K hK => ?_)
  simp only [nrm]
  go_simp
  (with_reducible refine (HH.out _).mono ?_)
  rintro e v2 ⟨rfl, hb2⟩
  have hSv2 : Bx v2 w.heap.size 46 #[.int .u8 (x.op : Nat), .int .u8 (x.client : Nat), V64 x.number, .int .u8 (x.p.a.fam : Nat), V64 x.p.a.hi, V64 x.p.a.lo, .int .i64 x.p.bits, .int .u8 (x.a.fam : Nat), V64 x.a.hi, V64 x.a.lo, S x.owner, S x.to, V64 x.d, V64 x.fr, .int .i64 x.n] ∧ Bx v2 (w.heap.size + 1) 62 #[.int .u8 (a.a.fam : Nat), V64 a.a.hi, V64 a.a.lo, .int .u8 0, .int .u64 0, .int .u64 0, S a.owner, V64 a.til, .int .u8 (a.pool.a.fam : Nat), V64 a.pool.a.hi, V64 a.pool.a.lo, .int .i64 a.pool.bits, .bool a.has, .bool a.held, .bool a.live, V64 a.clock, .slice r a.rows.length rc, .slice v a.events.length vc, .slice p a.pools.length pc] ∧ Below w.heap.size w v2 := ⟨hSv1.1.up hb2, hSv1.2.1.up hb2, Chain.up hSv1.2.2 hb2⟩
  refine hK.out _ _ hSv2 ?_
  clear hK K
  refine wpAnyH_take (i := 4) (v := ?_) rfl (by kernel_rfl) (by kernel_rfl) (by kernel_rfl) (fun _ _ _ h => h) (Or.inl ⟨by rfl, ?_⟩) hSv2 ?_
  rotate_left
  · intro wq hSw; go_simp; (try with_reducible rfl)
  simp only [Act.put, nrm]
  refine wpAnyH_take (i := 5) (v := ?_) rfl (by kernel_rfl) (by kernel_rfl) (by kernel_rfl) (fun _ _ _ h => h) (Or.inl ⟨by rfl, ?_⟩) hSv2 ?_
  rotate_left
  · intro wq hSw; go_simp; (try with_reducible rfl)
  simp only [Act.put, nrm]
  refine wpAnyH_done (by kernel_rfl) ?_ _
  clear h1 h2 hA hHeld hSv1 hb1 hb2 HE HH
  have hC := hSv2.1
  have hB := hSv2.2.1
  have hA := hSv2.2.2
  have hlt := hB.lt
  clear hSv2
  have q0 : v2.cell? ⟨w.heap.size, 0, none⟩ = some (.int .u8 (x.op : Nat)) := hC.cell 0
  obtain ⟨c0, c1, c2, c3, c4, c5, c6, c7, c8, c9, c10, c11, c12, c13, c14, c15, c16, c17, c18⟩ := hB.cells19
  go_wp2_with (go_at_call 48; (with_reducible refine (HN.out _).mono ?_); rintro e v3 ⟨rfl, hb3⟩; have hB3 := hB.up hb3; have hA3 := Chain.up hA hb3)
  clear hB hA hb3 hC c0 c1 c2 c3 c4 c5 c6 c7 c8 c9 c10 c11 c12 c13 c14 c15 c16 c17 c18 q0 HN k1 a1 a2
  go_loopw [7, 11] (fun s i wr => ∃ j : Nat, j ≤ a.pools.length ∧ i = .int .i64 ((j : Nat) : Int) ∧ s = S (L2 ++ (a.pools.take j).flatMap P.pxX) ∧ Bx wr (w.heap.size + 1) 62 #[.int .u8 (a.a.fam : Nat), V64 a.a.hi, V64 a.a.lo, .int .u8 0, .int .u64 0, .int .u64 0, S a.owner, V64 a.til, .int .u8 (a.pool.a.fam : Nat), V64 a.pool.a.hi, V64 a.pool.a.lo, .int .i64 a.pool.bits, .bool a.has, .bool a.held, .bool a.live, V64 a.clock, .slice r a.rows.length rc, .slice v a.events.length vc, .slice p a.pools.length pc] ∧ Below w.heap.size w wr) (fun _ i _ => a.pools.length - (intOf i).toNat)
  case atStart => exact ⟨0, Nat.zero_le _, rfl, by rw [List.take_zero, List.flatMap_nil, List.append_nil], hB3, hA3⟩
  case round =>
    clear hB3 hA3 k2
    obtain ⟨j, hj, rfl, rfl, hB, hA⟩ := hrel
    have hltB := hB.lt
    by_cases hjn : j < a.pools.length
    · have hji : ((j : Nat) : Int) < ((a.pools.length : Nat) : Int) := by omega
      have hll := flat_lenD P.pxX 100 a.pools (fun y hy => by have := P.pxX_le y; omega) j
      have htk := take_flatD P.pxX a.pools j hjn
      have hmem : a.pools[j] ∈ a.pools := List.getElem_mem hjn
      have HJ := Lib.hid hjn
      have hty := ht.2.2.2.2.2.2 _ hmem
      obtain ⟨b, o, hq, hbl, k0, k1, k2, k3⟩ := pool_cells (RowsAt.up hrows hA) j hjn
      obtain ⟨M, hM⟩ : ∃ M, M = L2 ++ (a.pools.take j).flatMap P.pxX := ⟨_, rfl⟩
      have hMl : M.length ≤ 12 + 100 * 200 := by
        rw [hM, List.length_append]
        have h2 := L2n.out
        have : 100 * j ≤ 100 * 200 := Nat.mul_le_mul_left _ (by omega)
        omega
      generalize hy : a.pools[j] = y at *
      have HM := Lib.hid (show L2 ++ (a.pools.take (j + 1)).flatMap P.pxX = M ++ P.pxX y by rw [htk, hM, List.append_assoc])
      rw [← hM]
      clear hM htk hll hmem hy
      subst hq
      have HX := Lib.hid (fun wx => refPrefix_any y hty wx)
      have lX := P.pxX_le y
      generalize P.pxX y = X at *
      have c1 := str_catD M X
      rw [← HM.out] at c1
      have a2 : ¬ 9223372036854775807 < M.length + X.length := by omega
      clear hrows
      obtain ⟨d0, d1, d2, d3, d4, d5, d6, d7, d8, d9, d10, d11, d12, d13, d14, d15, d16, d17, d18⟩ := hB.cells19
      go_wp2_with (go_at_call 44; (with_reducible refine (HX.out _).mono ?_); rintro e v5 ⟨rfl, hb5⟩; have hB5 := hB.up hb5; have hA5 := Chain.up hA hb5)
      go_roundw
      case rel => exact ⟨j + 1, by have := HJ.out; omega, by go_num, by first | rfl | exact congrArg Value.string c1, hB5, hA5⟩
      case measure => simp [intOf]; have := HJ.out; omega
    · have hje : j = a.pools.length := by omega
      obtain ⟨d0, d1, d2, d3, d4, d5, d6, d7, d8, d9, d10, d11, d12, d13, d14, d15, d16, d17, d18⟩ := hB.cells19
      have Hf := Lib.hid (show L2 ++ (a.pools.take j).flatMap P.pxX = P.tellB x.op x.client x.number a 0 by rw [hje]; exact Hres.out)
      rw [Hf.out]
      clear hje
      go_wp2_with fail
      go_ret
      exact ⟨rfl, hA⟩
set_option maxRecDepth 100000 in
set_option maxHeartbeats 4000000 in
theorem refTell_14 (x : P.Ca) (a : P.An) (r : Option Addr) (rc : Nat) (v : Option Addr) (vc : Nat) (p : Option Addr) (pc : Nat) (hop1 : x.op < 256) (hcl : x.client < 256) (hnu : x.number < 18446744073709551616) (ht : P.tyAn a) (ho : a.owner.length ≤ 20000) (hl : a.pools.length ≤ 200) (hop : x.op = 14) (w : World) (hrows : RowsAt 4 pxC w p a.pools) : Calls Tryd.prog 22 #[caV x, raV a r rc v vc p pc, .int .i64 0] w fun e' w' => e' = .returned (S (P.tellB x.op x.client x.number a 0)) ∧ Below w.heap.size w w' := by
  obtain ⟨h1, h2, hA⟩ := two_bx w #[.int .u8 (x.op : Nat), .int .u8 (x.client : Nat), V64 x.number, .int .u8 (x.p.a.fam : Nat), V64 x.p.a.hi, V64 x.p.a.lo, .int .i64 x.p.bits, .int .u8 (x.a.fam : Nat), V64 x.a.hi, V64 x.a.lo, S x.owner, S x.to, V64 x.d, V64 x.fr, .int .i64 x.n] #[.int .u8 (a.a.fam : Nat), V64 a.a.hi, V64 a.a.lo, .int .u8 0, .int .u64 0, .int .u64 0, S a.owner, V64 a.til, .int .u8 (a.pool.a.fam : Nat), V64 a.pool.a.hi, V64 a.pool.a.lo, .int .i64 a.pool.bits, .bool a.has, .bool a.held, .bool a.live, V64 a.clock, .slice r a.rows.length rc, .slice v a.events.length vc, .slice p a.pools.length pc] 46 62
  have HE := Lib.hid (fun wx => refOne_any 0 wx)
  have HH := Lib.hid (fun wx => refHead_any x hop1 hcl hnu wx)
  obtain ⟨E1, hE1⟩ : ∃ L, L = [P.byI 0] := ⟨_, rfl⟩
  obtain ⟨L0, hL0⟩ : ∃ L, L = P.headB x.op x.client x.number := ⟨_, rfl⟩
  obtain ⟨L1, hL1⟩ : ∃ L, L = E1 ++ L0 := ⟨_, rfl⟩
  have lE : E1.length = 1 := by rw [hE1]; rfl
  have l0 : L0.length = 10 := by rw [hL0, P.headB_len]
  have l1 : L1.length = 11 := by rw [hL1, List.length_append]; omega
  rw [← hE1] at HE
  rw [← hL0] at HH
  have k1 := str_catD E1 L0
  rw [← hL1] at k1
  have a1 : ¬ 9223372036854775807 < E1.length + L0.length := by omega
  have LE := Lib.hid lE
  have LZ := Lib.hid l0
  have L1n := Lib.hid l1
  have HN := Lib.hid (fun wx => refOne_any (a.pools.length : Int) wx)
  obtain ⟨T1, hT1⟩ : ∃ T, T = [P.byI (a.pools.length : Int)] := ⟨_, rfl⟩
  have lT : T1.length = 1 := by rw [hT1]; rfl
  rw [← hT1] at HN
  obtain ⟨L2, hL2⟩ : ∃ L, L = L1 ++ T1 := ⟨_, rfl⟩
  have l2 : L2.length = 12 := by rw [hL2, List.length_append]; omega
  have k2 := str_catD L1 T1
  rw [← hL2] at k2
  have a2 : ¬ 9223372036854775807 < L1.length + T1.length := by omega
  have Hres := Lib.hid (show L2 ++ (a.pools.take a.pools.length).flatMap P.pxX = P.tellB x.op x.client x.number a 0 by rw [List.take_length, hL2, hL1, hL0, hE1, hT1]; unfold P.tellB P.tailB; rw [hop]; simp)
  have L2n := Lib.hid l2
  clear hE1 hL0 hL1 hL2 hT1 lT l2
  have t5 : ((x.op : Int) == 5) = false := beq_eq_false_iff_ne.2 (by omega)
  have t6 : ((x.op : Int) == 6) = false := beq_eq_false_iff_ne.2 (by omega)
  have t7 : ((x.op : Int) == 7) = false := beq_eq_false_iff_ne.2 (by omega)
  have t10 : ((x.op : Int) == 10) = false := beq_eq_false_iff_ne.2 (by omega)
  have t11 : ((x.op : Int) == 11) = false := beq_eq_false_iff_ne.2 (by omega)
  have t12 : ((x.op : Int) == 12) = false := beq_eq_false_iff_ne.2 (by omega)
  have t13 : ((x.op : Int) == 13) = false := beq_eq_false_iff_ne.2 (by omega)
  have t14 : ((x.op : Int) == 14) = true := beq_iff_eq.2 (by omega)
  clear hop
  go_enter Tryd.func22, Tryd.ntmps22
  go_upto_region 1 with fail
  generalize hW : (w.alloc (.cells #[.int .u8 (x.op : Nat), .int .u8 (x.client : Nat), V64 x.number, .int .u8 (x.p.a.fam : Nat), V64 x.p.a.hi, V64 x.p.a.lo, .int .i64 x.p.bits, .int .u8 (x.a.fam : Nat), V64 x.a.hi, V64 x.a.lo, S x.owner, S x.to, V64 x.d, V64 x.fr, .int .i64 x.n] 46)).alloc (.cells #[.int .u8 (a.a.fam : Nat), V64 a.a.hi, V64 a.a.lo, .int .u8 0, .int .u64 0, .int .u64 0, S a.owner, V64 a.til, .int .u8 (a.pool.a.fam : Nat), V64 a.pool.a.hi, V64 a.pool.a.lo, .int .i64 a.pool.bits, .bool a.has, .bool a.held, .bool a.live, V64 a.clock, .slice r a.rows.length rc, .slice v a.events.length vc, .slice p a.pools.length pc] 62) = w2 at *
  clear hW lE l0 l1
  refine wp_region_held_drew (S := fun wx => Bx wx w.heap.size 46 #[.int .u8 (x.op : Nat), .int .u8 (x.client : Nat), V64 x.number, .int .u8 (x.p.a.fam : Nat), V64 x.p.a.hi, V64 x.p.a.lo, .int .i64 x.p.bits, .int .u8 (x.a.fam : Nat), V64 x.a.hi, V64 x.a.lo, S x.owner, S x.to, V64 x.d, V64 x.fr, .int .i64 x.n] ∧ Bx wx (w.heap.size + 1) 62 #[.int .u8 (a.a.fam : Nat), V64 a.a.hi, V64 a.a.lo, .int .u8 0, .int .u64 0, .int .u64 0, S a.owner, V64 a.til, .int .u8 (a.pool.a.fam : Nat), V64 a.pool.a.hi, V64 a.pool.a.lo, .int .i64 a.pool.bits, .bool a.has, .bool a.held, .bool a.live, V64 a.clock, .slice r a.rows.length rc, .slice v a.events.length vc, .slice p a.pools.length pc] ∧ Below w.heap.size w wx) (by kernel_rfl) ⟨h1.drew, h2.drew, hA.drew⟩ (fun hHeld => ?_)
  refine wpAnyH_take (i := 0) (v := ?_) rfl (by kernel_rfl) (by kernel_rfl) (by kernel_rfl) (fun _ _ _ h => h) (Or.inl ⟨by rfl, ?_⟩) hHeld ?_
  rotate_left
  · intro wq hSw; go_simp; (try with_reducible rfl)
  simp only [Act.put, nrm]
  refine wpAnyH_take (i := 2) (v := .agg #[.int .u8 (x.op : Nat), .int .u8 (x.client : Nat), V64 x.number, .int .u8 (x.p.a.fam : Nat), V64 x.p.a.hi, V64 x.p.a.lo, .int .i64 x.p.bits, .int .u8 (x.a.fam : Nat), V64 x.a.hi, V64 x.a.lo, S x.owner, S x.to, V64 x.d, V64 x.fr, .int .i64 x.n]) rfl (by kernel_rfl) (by kernel_rfl) (by kernel_rfl) (fun _ _ _ h => h) (yieldsB (by rfl) _ _ (by rfl) (by rfl) (fun wx h => h.1) structRC 15 infoRC (by rfl)) hHeld ?_
  simp only [Act.put, nrm]
  refine wpAnyH_one (i := 1) (by kernel_rfl) rfl (fun K hK => ?_)
  simp only [nrm]
  go_simp
  (with_reducible refine (HE.out _).mono ?_)
  rintro e v1 ⟨rfl, hb1⟩
  have hSv1 : Bx v1 w.heap.size 46 #[.int .u8 (x.op : Nat), .int .u8 (x.client : Nat), V64 x.number, .int .u8 (x.p.a.fam : Nat), V64 x.p.a.hi, V64 x.p.a.lo, .int .i64 x.p.bits, .int .u8 (x.a.fam : Nat), V64 x.a.hi, V64 x.a.lo, S x.owner, S x.to, V64 x.d, V64 x.fr, .int .i64 x.n] ∧ Bx v1 (w.heap.size + 1) 62 #[.int .u8 (a.a.fam : Nat), V64 a.a.hi, V64 a.a.lo, .int .u8 0, .int .u64 0, .int .u64 0, S a.owner, V64 a.til, .int .u8 (a.pool.a.fam : Nat), V64 a.pool.a.hi, V64 a.pool.a.lo, .int .i64 a.pool.bits, .bool a.has, .bool a.held, .bool a.live, V64 a.clock, .slice r a.rows.length rc, .slice v a.events.length vc, .slice p a.pools.length pc] ∧ Below w.heap.size w v1 := ⟨hHeld.1.up hb1, hHeld.2.1.up hb1, Chain.up hHeld.2.2 hb1⟩
  refine hK.out _ _ hSv1 ?_
  clear hK K
  refine wpAnyH_one (i := 3) (by kernel_rfl) rfl (fun K hK => ?_)
  simp only [nrm]
  go_simp
  (with_reducible refine (HH.out _).mono ?_)
  rintro e v2 ⟨rfl, hb2⟩
  have hSv2 : Bx v2 w.heap.size 46 #[.int .u8 (x.op : Nat), .int .u8 (x.client : Nat), V64 x.number, .int .u8 (x.p.a.fam : Nat), V64 x.p.a.hi, V64 x.p.a.lo, .int .i64 x.p.bits, .int .u8 (x.a.fam : Nat), V64 x.a.hi, V64 x.a.lo, S x.owner, S x.to, V64 x.d, V64 x.fr, .int .i64 x.n] ∧ Bx v2 (w.heap.size + 1) 62 #[.int .u8 (a.a.fam : Nat), V64 a.a.hi, V64 a.a.lo, .int .u8 0, .int .u64 0, .int .u64 0, S a.owner, V64 a.til, .int .u8 (a.pool.a.fam : Nat), V64 a.pool.a.hi, V64 a.pool.a.lo, .int .i64 a.pool.bits, .bool a.has, .bool a.held, .bool a.live, V64 a.clock, .slice r a.rows.length rc, .slice v a.events.length vc, .slice p a.pools.length pc] ∧ Below w.heap.size w v2 := ⟨hSv1.1.up hb2, hSv1.2.1.up hb2, Chain.up hSv1.2.2 hb2⟩
  refine hK.out _ _ hSv2 ?_
  clear hK K
  refine wpAnyH_take (i := 4) (v := ?_) rfl (by kernel_rfl) (by kernel_rfl) (by kernel_rfl) (fun _ _ _ h => h) (Or.inl ⟨by rfl, ?_⟩) hSv2 ?_
  rotate_left
  · intro wq hSw; go_simp; (try with_reducible rfl)
  simp only [Act.put, nrm]
  refine wpAnyH_take (i := 5) (v := ?_) rfl (by kernel_rfl) (by kernel_rfl) (by kernel_rfl) (fun _ _ _ h => h) (Or.inl ⟨by rfl, ?_⟩) hSv2 ?_
  rotate_left
  · intro wq hSw; go_simp; (try with_reducible rfl)
  simp only [Act.put, nrm]
  refine wpAnyH_done (by kernel_rfl) ?_ _
  clear h1 h2 hA hHeld hSv1 hb1 hb2 HE HH
  have hC := hSv2.1
  have hB := hSv2.2.1
  have hA := hSv2.2.2
  have hlt := hB.lt
  clear hSv2
  have q0 : v2.cell? ⟨w.heap.size, 0, none⟩ = some (.int .u8 (x.op : Nat)) := hC.cell 0
  obtain ⟨c0, c1, c2, c3, c4, c5, c6, c7, c8, c9, c10, c11, c12, c13, c14, c15, c16, c17, c18⟩ := hB.cells19
  go_wp2_with (go_at_call 48; (with_reducible refine (HN.out _).mono ?_); rintro e v3 ⟨rfl, hb3⟩; have hB3 := hB.up hb3; have hA3 := Chain.up hA hb3)
  clear hB hA hb3 hC c0 c1 c2 c3 c4 c5 c6 c7 c8 c9 c10 c11 c12 c13 c14 c15 c16 c17 c18 q0 HN k1 a1 a2
  go_loopw [7, 11] (fun s i wr => ∃ j : Nat, j ≤ a.pools.length ∧ i = .int .i64 ((j : Nat) : Int) ∧ s = S (L2 ++ (a.pools.take j).flatMap P.pxX) ∧ Bx wr (w.heap.size + 1) 62 #[.int .u8 (a.a.fam : Nat), V64 a.a.hi, V64 a.a.lo, .int .u8 0, .int .u64 0, .int .u64 0, S a.owner, V64 a.til, .int .u8 (a.pool.a.fam : Nat), V64 a.pool.a.hi, V64 a.pool.a.lo, .int .i64 a.pool.bits, .bool a.has, .bool a.held, .bool a.live, V64 a.clock, .slice r a.rows.length rc, .slice v a.events.length vc, .slice p a.pools.length pc] ∧ Below w.heap.size w wr) (fun _ i _ => a.pools.length - (intOf i).toNat)
  case atStart => exact ⟨0, Nat.zero_le _, rfl, by rw [List.take_zero, List.flatMap_nil, List.append_nil], hB3, hA3⟩
  case round =>
    clear hB3 hA3 k2
    obtain ⟨j, hj, rfl, rfl, hB, hA⟩ := hrel
    have hltB := hB.lt
    by_cases hjn : j < a.pools.length
    · have hji : ((j : Nat) : Int) < ((a.pools.length : Nat) : Int) := by omega
      have hll := flat_lenD P.pxX 100 a.pools (fun y hy => by have := P.pxX_le y; omega) j
      have htk := take_flatD P.pxX a.pools j hjn
      have hmem : a.pools[j] ∈ a.pools := List.getElem_mem hjn
      have HJ := Lib.hid hjn
      have hty := ht.2.2.2.2.2.2 _ hmem
      obtain ⟨b, o, hq, hbl, k0, k1, k2, k3⟩ := pool_cells (RowsAt.up hrows hA) j hjn
      obtain ⟨M, hM⟩ : ∃ M, M = L2 ++ (a.pools.take j).flatMap P.pxX := ⟨_, rfl⟩
      have hMl : M.length ≤ 12 + 100 * 200 := by
        rw [hM, List.length_append]
        have h2 := L2n.out
        have : 100 * j ≤ 100 * 200 := Nat.mul_le_mul_left _ (by omega)
        omega
      generalize hy : a.pools[j] = y at *
      have HM := Lib.hid (show L2 ++ (a.pools.take (j + 1)).flatMap P.pxX = M ++ P.pxX y by rw [htk, hM, List.append_assoc])
      rw [← hM]
      clear hM htk hll hmem hy
      subst hq
      have HX := Lib.hid (fun wx => refPrefix_any y hty wx)
      have lX := P.pxX_le y
      generalize P.pxX y = X at *
      have c1 := str_catD M X
      rw [← HM.out] at c1
      have a2 : ¬ 9223372036854775807 < M.length + X.length := by omega
      clear hrows
      obtain ⟨d0, d1, d2, d3, d4, d5, d6, d7, d8, d9, d10, d11, d12, d13, d14, d15, d16, d17, d18⟩ := hB.cells19
      go_wp2_with (go_at_call 44; (with_reducible refine (HX.out _).mono ?_); rintro e v5 ⟨rfl, hb5⟩; have hB5 := hB.up hb5; have hA5 := Chain.up hA hb5)
      go_roundw
      case rel => exact ⟨j + 1, by have := HJ.out; omega, by go_num, by first | rfl | exact congrArg Value.string c1, hB5, hA5⟩
      case measure => simp [intOf]; have := HJ.out; omega
    · have hje : j = a.pools.length := by omega
      obtain ⟨d0, d1, d2, d3, d4, d5, d6, d7, d8, d9, d10, d11, d12, d13, d14, d15, d16, d17, d18⟩ := hB.cells19
      have Hf := Lib.hid (show L2 ++ (a.pools.take j).flatMap P.pxX = P.tellB x.op x.client x.number a 0 by rw [hje]; exact Hres.out)
      rw [Hf.out]
      clear hje
      go_wp2_with fail
      go_ret
      exact ⟨rfl, hA⟩
set_option maxRecDepth 100000 in
set_option maxHeartbeats 4000000 in
theorem refTell_11 (x : P.Ca) (a : P.An) (r : Option Addr) (rc : Nat) (v : Option Addr) (vc : Nat) (p : Option Addr) (pc : Nat) (hop1 : x.op < 256) (hcl : x.client < 256) (hnu : x.number < 18446744073709551616) (ht : P.tyAn a) (ho : a.owner.length ≤ 20000) (hl : a.rows.length ≤ 200) (hown : ∀ y ∈ a.rows, y.owner.length ≤ 20000) (hop : x.op = 11) (w : World) (hrows : RowsAt 5 rwC w r a.rows) : Calls Tryd.prog 22 #[caV x, raV a r rc v vc p pc, .int .i64 0] w fun e' w' => e' = .returned (S (P.tellB x.op x.client x.number a 0)) ∧ Below w.heap.size w w' := by
  obtain ⟨h1, h2, hA⟩ := two_bx w #[.int .u8 (x.op : Nat), .int .u8 (x.client : Nat), V64 x.number, .int .u8 (x.p.a.fam : Nat), V64 x.p.a.hi, V64 x.p.a.lo, .int .i64 x.p.bits, .int .u8 (x.a.fam : Nat), V64 x.a.hi, V64 x.a.lo, S x.owner, S x.to, V64 x.d, V64 x.fr, .int .i64 x.n] #[.int .u8 (a.a.fam : Nat), V64 a.a.hi, V64 a.a.lo, .int .u8 0, .int .u64 0, .int .u64 0, S a.owner, V64 a.til, .int .u8 (a.pool.a.fam : Nat), V64 a.pool.a.hi, V64 a.pool.a.lo, .int .i64 a.pool.bits, .bool a.has, .bool a.held, .bool a.live, V64 a.clock, .slice r a.rows.length rc, .slice v a.events.length vc, .slice p a.pools.length pc] 46 62
  have HE := Lib.hid (fun wx => refOne_any 0 wx)
  have HH := Lib.hid (fun wx => refHead_any x hop1 hcl hnu wx)
  obtain ⟨E1, hE1⟩ : ∃ L, L = [P.byI 0] := ⟨_, rfl⟩
  obtain ⟨L0, hL0⟩ : ∃ L, L = P.headB x.op x.client x.number := ⟨_, rfl⟩
  obtain ⟨L1, hL1⟩ : ∃ L, L = E1 ++ L0 := ⟨_, rfl⟩
  have lE : E1.length = 1 := by rw [hE1]; rfl
  have l0 : L0.length = 10 := by rw [hL0, P.headB_len]
  have l1 : L1.length = 11 := by rw [hL1, List.length_append]; omega
  rw [← hE1] at HE
  rw [← hL0] at HH
  have k1 := str_catD E1 L0
  rw [← hL1] at k1
  have a1 : ¬ 9223372036854775807 < E1.length + L0.length := by omega
  have LE := Lib.hid lE
  have LZ := Lib.hid l0
  have L1n := Lib.hid l1
  have HN := Lib.hid (fun wx => refOne_any (a.rows.length : Int) wx)
  obtain ⟨T1, hT1⟩ : ∃ T, T = [P.byI (a.rows.length : Int)] := ⟨_, rfl⟩
  have lT : T1.length = 1 := by rw [hT1]; rfl
  rw [← hT1] at HN
  obtain ⟨L2, hL2⟩ : ∃ L, L = L1 ++ T1 := ⟨_, rfl⟩
  have l2 : L2.length = 12 := by rw [hL2, List.length_append]; omega
  have k2 := str_catD L1 T1
  rw [← hL2] at k2
  have a2 : ¬ 9223372036854775807 < L1.length + T1.length := by omega
  have Hres := Lib.hid (show L2 ++ (a.rows.take a.rows.length).flatMap P.rwB = P.tellB x.op x.client x.number a 0 by rw [List.take_length, hL2, hL1, hL0, hE1, hT1]; unfold P.tellB P.tailB; rw [hop]; simp)
  have L2n := Lib.hid l2
  clear hE1 hL0 hL1 hL2 hT1 lT l2
  have t5 : ((x.op : Int) == 5) = false := beq_eq_false_iff_ne.2 (by omega)
  have t6 : ((x.op : Int) == 6) = false := beq_eq_false_iff_ne.2 (by omega)
  have t7 : ((x.op : Int) == 7) = false := beq_eq_false_iff_ne.2 (by omega)
  have t10 : ((x.op : Int) == 10) = false := beq_eq_false_iff_ne.2 (by omega)
  have t11 : ((x.op : Int) == 11) = true := beq_iff_eq.2 (by omega)
  clear hop
  go_enter Tryd.func22, Tryd.ntmps22
  go_upto_region 1 with fail
  generalize hW : (w.alloc (.cells #[.int .u8 (x.op : Nat), .int .u8 (x.client : Nat), V64 x.number, .int .u8 (x.p.a.fam : Nat), V64 x.p.a.hi, V64 x.p.a.lo, .int .i64 x.p.bits, .int .u8 (x.a.fam : Nat), V64 x.a.hi, V64 x.a.lo, S x.owner, S x.to, V64 x.d, V64 x.fr, .int .i64 x.n] 46)).alloc (.cells #[.int .u8 (a.a.fam : Nat), V64 a.a.hi, V64 a.a.lo, .int .u8 0, .int .u64 0, .int .u64 0, S a.owner, V64 a.til, .int .u8 (a.pool.a.fam : Nat), V64 a.pool.a.hi, V64 a.pool.a.lo, .int .i64 a.pool.bits, .bool a.has, .bool a.held, .bool a.live, V64 a.clock, .slice r a.rows.length rc, .slice v a.events.length vc, .slice p a.pools.length pc] 62) = w2 at *
  clear hW lE l0 l1
  refine wp_region_held_drew (S := fun wx => Bx wx w.heap.size 46 #[.int .u8 (x.op : Nat), .int .u8 (x.client : Nat), V64 x.number, .int .u8 (x.p.a.fam : Nat), V64 x.p.a.hi, V64 x.p.a.lo, .int .i64 x.p.bits, .int .u8 (x.a.fam : Nat), V64 x.a.hi, V64 x.a.lo, S x.owner, S x.to, V64 x.d, V64 x.fr, .int .i64 x.n] ∧ Bx wx (w.heap.size + 1) 62 #[.int .u8 (a.a.fam : Nat), V64 a.a.hi, V64 a.a.lo, .int .u8 0, .int .u64 0, .int .u64 0, S a.owner, V64 a.til, .int .u8 (a.pool.a.fam : Nat), V64 a.pool.a.hi, V64 a.pool.a.lo, .int .i64 a.pool.bits, .bool a.has, .bool a.held, .bool a.live, V64 a.clock, .slice r a.rows.length rc, .slice v a.events.length vc, .slice p a.pools.length pc] ∧ Below w.heap.size w wx) (by kernel_rfl) ⟨h1.drew, h2.drew, hA.drew⟩ (fun hHeld => ?_)
  refine wpAnyH_take (i := 0) (v := ?_) rfl (by kernel_rfl) (by kernel_rfl) (by kernel_rfl) (fun _ _ _ h => h) (Or.inl ⟨by rfl, ?_⟩) hHeld ?_
  rotate_left
  · intro wq hSw; go_simp; (try with_reducible rfl)
  simp only [Act.put, nrm]
  refine wpAnyH_take (i := 2) (v := .agg #[.int .u8 (x.op : Nat), .int .u8 (x.client : Nat), V64 x.number, .int .u8 (x.p.a.fam : Nat), V64 x.p.a.hi, V64 x.p.a.lo, .int .i64 x.p.bits, .int .u8 (x.a.fam : Nat), V64 x.a.hi, V64 x.a.lo, S x.owner, S x.to, V64 x.d, V64 x.fr, .int .i64 x.n]) rfl (by kernel_rfl) (by kernel_rfl) (by kernel_rfl) (fun _ _ _ h => h) (yieldsB (by rfl) _ _ (by rfl) (by rfl) (fun wx h => h.1) structRC 15 infoRC (by rfl)) hHeld ?_
  simp only [Act.put, nrm]
  refine wpAnyH_one (i := 1) (by kernel_rfl) rfl (fun K hK => ?_)
  simp only [nrm]
  go_simp
  (with_reducible refine (HE.out _).mono ?_)
  rintro e v1 ⟨rfl, hb1⟩
  have hSv1 : Bx v1 w.heap.size 46 #[.int .u8 (x.op : Nat), .int .u8 (x.client : Nat), V64 x.number, .int .u8 (x.p.a.fam : Nat), V64 x.p.a.hi, V64 x.p.a.lo, .int .i64 x.p.bits, .int .u8 (x.a.fam : Nat), V64 x.a.hi, V64 x.a.lo, S x.owner, S x.to, V64 x.d, V64 x.fr, .int .i64 x.n] ∧ Bx v1 (w.heap.size + 1) 62 #[.int .u8 (a.a.fam : Nat), V64 a.a.hi, V64 a.a.lo, .int .u8 0, .int .u64 0, .int .u64 0, S a.owner, V64 a.til, .int .u8 (a.pool.a.fam : Nat), V64 a.pool.a.hi, V64 a.pool.a.lo, .int .i64 a.pool.bits, .bool a.has, .bool a.held, .bool a.live, V64 a.clock, .slice r a.rows.length rc, .slice v a.events.length vc, .slice p a.pools.length pc] ∧ Below w.heap.size w v1 := ⟨hHeld.1.up hb1, hHeld.2.1.up hb1, Chain.up hHeld.2.2 hb1⟩
  refine hK.out _ _ hSv1 ?_
  clear hK K
  refine wpAnyH_one (i := 3) (by kernel_rfl) rfl (fun K hK => ?_)
  simp only [nrm]
  go_simp
  (with_reducible refine (HH.out _).mono ?_)
  rintro e v2 ⟨rfl, hb2⟩
  have hSv2 : Bx v2 w.heap.size 46 #[.int .u8 (x.op : Nat), .int .u8 (x.client : Nat), V64 x.number, .int .u8 (x.p.a.fam : Nat), V64 x.p.a.hi, V64 x.p.a.lo, .int .i64 x.p.bits, .int .u8 (x.a.fam : Nat), V64 x.a.hi, V64 x.a.lo, S x.owner, S x.to, V64 x.d, V64 x.fr, .int .i64 x.n] ∧ Bx v2 (w.heap.size + 1) 62 #[.int .u8 (a.a.fam : Nat), V64 a.a.hi, V64 a.a.lo, .int .u8 0, .int .u64 0, .int .u64 0, S a.owner, V64 a.til, .int .u8 (a.pool.a.fam : Nat), V64 a.pool.a.hi, V64 a.pool.a.lo, .int .i64 a.pool.bits, .bool a.has, .bool a.held, .bool a.live, V64 a.clock, .slice r a.rows.length rc, .slice v a.events.length vc, .slice p a.pools.length pc] ∧ Below w.heap.size w v2 := ⟨hSv1.1.up hb2, hSv1.2.1.up hb2, Chain.up hSv1.2.2 hb2⟩
  refine hK.out _ _ hSv2 ?_
  clear hK K
  refine wpAnyH_take (i := 4) (v := ?_) rfl (by kernel_rfl) (by kernel_rfl) (by kernel_rfl) (fun _ _ _ h => h) (Or.inl ⟨by rfl, ?_⟩) hSv2 ?_
  rotate_left
  · intro wq hSw; go_simp; (try with_reducible rfl)
  simp only [Act.put, nrm]
  refine wpAnyH_take (i := 5) (v := ?_) rfl (by kernel_rfl) (by kernel_rfl) (by kernel_rfl) (fun _ _ _ h => h) (Or.inl ⟨by rfl, ?_⟩) hSv2 ?_
  rotate_left
  · intro wq hSw; go_simp; (try with_reducible rfl)
  simp only [Act.put, nrm]
  refine wpAnyH_done (by kernel_rfl) ?_ _
  clear h1 h2 hA hHeld hSv1 hb1 hb2 HE HH
  have hC := hSv2.1
  have hB := hSv2.2.1
  have hA := hSv2.2.2
  have hlt := hB.lt
  clear hSv2
  have q0 : v2.cell? ⟨w.heap.size, 0, none⟩ = some (.int .u8 (x.op : Nat)) := hC.cell 0
  obtain ⟨c0, c1, c2, c3, c4, c5, c6, c7, c8, c9, c10, c11, c12, c13, c14, c15, c16, c17, c18⟩ := hB.cells19
  go_wp2_with (go_at_call 48; (with_reducible refine (HN.out _).mono ?_); rintro e v3 ⟨rfl, hb3⟩; have hB3 := hB.up hb3; have hA3 := Chain.up hA hb3)
  clear hB hA hb3 hC c0 c1 c2 c3 c4 c5 c6 c7 c8 c9 c10 c11 c12 c13 c14 c15 c16 c17 c18 q0 HN k1 a1 a2
  go_loopw [7, 8] (fun s i wr => ∃ j : Nat, j ≤ a.rows.length ∧ i = .int .i64 ((j : Nat) : Int) ∧ s = S (L2 ++ (a.rows.take j).flatMap P.rwB) ∧ Bx wr (w.heap.size + 1) 62 #[.int .u8 (a.a.fam : Nat), V64 a.a.hi, V64 a.a.lo, .int .u8 0, .int .u64 0, .int .u64 0, S a.owner, V64 a.til, .int .u8 (a.pool.a.fam : Nat), V64 a.pool.a.hi, V64 a.pool.a.lo, .int .i64 a.pool.bits, .bool a.has, .bool a.held, .bool a.live, V64 a.clock, .slice r a.rows.length rc, .slice v a.events.length vc, .slice p a.pools.length pc] ∧ Below w.heap.size w wr) (fun _ i _ => a.rows.length - (intOf i).toNat)
  case atStart => exact ⟨0, Nat.zero_le _, rfl, by rw [List.take_zero, List.flatMap_nil, List.append_nil], hB3, hA3⟩
  case round =>
    clear hB3 hA3 k2
    obtain ⟨j, hj, rfl, rfl, hB, hA⟩ := hrel
    have hltB := hB.lt
    by_cases hjn : j < a.rows.length
    · have hji : ((j : Nat) : Int) < ((a.rows.length : Nat) : Int) := by omega
      have hll := flat_lenD P.rwB 20100 a.rows (fun y hy => by have := P.leB_le2 y.owner y.til (hown y hy); have := P.adX_le y.a; unfold P.rwB; rw [List.length_append]; omega) j
      have htk := take_flatD P.rwB a.rows j hjn
      have hmem : a.rows[j] ∈ a.rows := List.getElem_mem hjn
      have HJ := Lib.hid hjn
      have hty := ht.2.2.2.2.1 _ hmem
      have hoj := hown _ hmem
      obtain ⟨b, o, hq, hbl, k0, k1, k2, k3, k4⟩ := row_cells hrows j hjn
      obtain ⟨M, hM⟩ : ∃ M, M = L2 ++ (a.rows.take j).flatMap P.rwB := ⟨_, rfl⟩
      have hMl : M.length ≤ 12 + 20100 * 200 := by
        rw [hM, List.length_append]
        have h2 := L2n.out
        have : 20100 * j ≤ 20100 * 200 := Nat.mul_le_mul_left _ (by omega)
        omega
      generalize hy : a.rows[j] = y at *
      have HM := Lib.hid (show L2 ++ (a.rows.take (j + 1)).flatMap P.rwB = (M ++ P.adX y.a) ++ P.leB y.owner y.til by rw [htk, hM, List.append_assoc, List.append_assoc]; rfl)
      rw [← hM]
      clear hM htk hll hmem hy
      subst hq
      have HK := Lib.hid (fun wx (hx : Below w.heap.size w wx) => And.intro ((hx.cell (p := ⟨b, o + j * 5, none⟩) hbl).trans k0) (And.intro ((hx.cell (p := ⟨b, o + j * 5 + 1, none⟩) hbl).trans k1) (And.intro ((hx.cell (p := ⟨b, o + j * 5 + 2, none⟩) hbl).trans k2) (And.intro ((hx.cell (p := ⟨b, o + j * 5 + 3, none⟩) hbl).trans k3) ((hx.cell (p := ⟨b, o + j * 5 + 4, none⟩) hbl).trans k4)))))
      have HX := Lib.hid (fun wx => refAddress_any y.a hty.1 wx)
      have HY := Lib.hid (fun wx => refLease_any y.a y.owner y.til hoj hty.2 wx)
      have lX := P.adX_le y.a
      have lY := P.leB_le2 y.owner y.til hoj
      generalize P.adX y.a = X at *
      generalize P.leB y.owner y.til = Y at *
      have c1 := str_catD M X
      obtain ⟨M1, hM1⟩ : ∃ m, m = M ++ X := ⟨_, rfl⟩
      have lM1 : M1.length ≤ M.length + 20 := by rw [hM1, List.length_append]; omega
      rw [← hM1] at c1 HM
      have c2 := str_catD M1 Y
      rw [← HM.out] at c2
      have a2 : ¬ 9223372036854775807 < M.length + X.length := by omega
      have a3 : ¬ 9223372036854775807 < M1.length + Y.length := by omega
      clear hM1 k0 k1 k2 k3 k4 hrows
      obtain ⟨e0, e1, e2, e3, e4, e5, e6, e7, e8, e9, e10, e11, e12, e13, e14, e15, e16, e17, e18⟩ := hB.cells19
      go_upto_region 16 with fail
      clear e0 e1 e2 e3 e4 e5 e6 e7 e8 e9 e10 e11 e12 e13 e14 e15 e16 e17 e18
      refine wp_region_held_drew (S := fun wx => Bx wx (w.heap.size + 1) 62 #[.int .u8 (a.a.fam : Nat), V64 a.a.hi, V64 a.a.lo, .int .u8 0, .int .u64 0, .int .u64 0, S a.owner, V64 a.til, .int .u8 (a.pool.a.fam : Nat), V64 a.pool.a.hi, V64 a.pool.a.lo, .int .i64 a.pool.bits, .bool a.has, .bool a.held, .bool a.live, V64 a.clock, .slice (some ⟨b, o, none⟩) a.rows.length rc, .slice v a.events.length vc, .slice p a.pools.length pc] ∧ Below w.heap.size w wx) (by kernel_rfl) ⟨hB.drew, hA.drew⟩ (fun hHeld => ?_)
      refine wpAnyH_take (i := 0) (v := ?_) rfl (by kernel_rfl) (by kernel_rfl) (by kernel_rfl) (fun _ _ _ h => h) (Or.inl ⟨by rfl, ?_⟩) hHeld ?_
      rotate_left
      · intro wq hSw; go_simp; (try with_reducible rfl)
      simp only [Act.put, nrm]
      refine wpAnyH_take (i := 1) (v := ?_) rfl (by kernel_rfl) (by kernel_rfl) (by kernel_rfl) (fun _ _ _ h => h) (Or.inl ⟨by rfl, ?_⟩) hHeld ?_
      rotate_left
      · intro wq hSw; go_simp; (try with_reducible rfl)
      simp only [Act.put, nrm]
      refine wpAnyH_take (i := 2) (v := ?_) rfl (by kernel_rfl) (by kernel_rfl) (by kernel_rfl) (fun _ _ _ h => h) (Or.inl ⟨by rfl, ?_⟩) hHeld ?_
      rotate_left
      · intro wq hSw; obtain ⟨d0, d1, d2, d3, d4, d5, d6, d7, d8, d9, d10, d11, d12, d13, d14, d15, d16, d17, d18⟩ := hSw.1.cells19; go_simp; (try with_reducible rfl)
      simp only [Act.put, nrm]
      refine wpAnyH_take (i := 3) (v := ?_) rfl (by kernel_rfl) (by kernel_rfl) (by kernel_rfl) (fun _ _ _ h => h) (Or.inl ⟨by rfl, ?_⟩) hHeld ?_
      rotate_left
      · intro wq hSw; go_simp; (try with_reducible rfl)
      simp only [Act.put, nrm]
      refine wpAnyH_take (i := 4) (v := ?_) rfl (by kernel_rfl) (by kernel_rfl) (by kernel_rfl) (fun _ _ _ h => h) (Or.inl ⟨by rfl, ?_⟩) hHeld ?_
      rotate_left
      · intro wq hSw; go_simp; (try with_reducible rfl)
      simp only [Act.put, nrm]
      refine wpAnyH_take (i := 5) (v := ?_) rfl (by kernel_rfl) (by kernel_rfl) (by kernel_rfl) (fun _ _ _ h => h) (Or.inl ⟨by rfl, ?_⟩) hHeld ?_
      rotate_left
      · intro wq hSw; go_simp; (try with_reducible rfl)
      simp only [Act.put, nrm]
      refine wpAnyH_take (i := 6) (v := ?_) rfl (by kernel_rfl) (by kernel_rfl) (by kernel_rfl) (fun _ _ _ h => h) (Or.inl ⟨by rfl, ?_⟩) hHeld ?_
      rotate_left
      · intro wq hSw; obtain ⟨k0, k1, k2, k3, k4⟩ := HK.out _ hSw.2; go_simp; (try with_reducible rfl)
      simp only [Act.put, nrm]
      refine wpAnyH_take (i := 9) (v := ?_) rfl (by kernel_rfl) (by kernel_rfl) (by kernel_rfl) (fun _ _ _ h => h) (Or.inl ⟨by rfl, ?_⟩) hHeld ?_
      rotate_left
      · intro wq hSw; go_simp; (try with_reducible rfl)
      simp only [Act.put, nrm]
      refine wpAnyH_take (i := 10) (v := ?_) rfl (by kernel_rfl) (by kernel_rfl) (by kernel_rfl) (fun _ _ _ h => h) (Or.inl ⟨by rfl, ?_⟩) hHeld ?_
      rotate_left
      · intro wq hSw; obtain ⟨d0, d1, d2, d3, d4, d5, d6, d7, d8, d9, d10, d11, d12, d13, d14, d15, d16, d17, d18⟩ := hSw.1.cells19; go_simp; (try with_reducible rfl)
      simp only [Act.put, nrm]
      refine wpAnyH_take (i := 11) (v := ?_) rfl (by kernel_rfl) (by kernel_rfl) (by kernel_rfl) (fun _ _ _ h => h) (Or.inl ⟨by rfl, ?_⟩) hHeld ?_
      rotate_left
      · intro wq hSw; go_simp; (try with_reducible rfl)
      simp only [Act.put, nrm]
      refine wpAnyH_take (i := 12) (v := ?_) rfl (by kernel_rfl) (by kernel_rfl) (by kernel_rfl) (fun _ _ _ h => h) (Or.inl ⟨by rfl, ?_⟩) hHeld ?_
      rotate_left
      · intro wq hSw; go_simp; (try with_reducible rfl)
      simp only [Act.put, nrm]
      refine wpAnyH_take (i := 13) (v := ?_) rfl (by kernel_rfl) (by kernel_rfl) (by kernel_rfl) (fun _ _ _ h => h) (Or.inl ⟨by rfl, ?_⟩) hHeld ?_
      rotate_left
      · intro wq hSw; obtain ⟨k0, k1, k2, k3, k4⟩ := HK.out _ hSw.2; go_simp; (try with_reducible rfl)
      simp only [Act.put, nrm]
      refine wpAnyH_one (i := 7) (by kernel_rfl) rfl (fun K hK => ?_)
      simp only [nrm]
      go_simp
      (with_reducible refine (HX.out _).mono ?_)
      rintro e v5 ⟨rfl, hb5⟩
      have hS5 := And.intro (hHeld.1.up hb5) (Chain.up hHeld.2 hb5)
      refine hK.out _ _ hS5 ?_
      clear hK K
      refine wpAnyH_take (i := 8) (v := ?_) rfl (by kernel_rfl) (by kernel_rfl) (by kernel_rfl) (fun _ _ _ h => h) (Or.inl ⟨by rfl, ?_⟩) hS5 ?_
      rotate_left
      · intro wq hSw; go_simp; (try with_reducible rfl)
      simp only [Act.put, nrm]
      refine wpAnyH_one (i := 14) (by kernel_rfl) rfl (fun K hK => ?_)
      simp only [nrm]
      go_simp
      (with_reducible refine (HY.out _).mono ?_)
      rintro e v6 ⟨rfl, hb6⟩
      have hS6 := And.intro (hS5.1.up hb6) (Chain.up hS5.2 hb6)
      refine hK.out _ _ hS6 ?_
      clear hK K
      refine wpAnyH_take (i := 15) (v := ?_) rfl (by kernel_rfl) (by kernel_rfl) (by kernel_rfl) (fun _ _ _ h => h) (Or.inl ⟨by rfl, ?_⟩) hS6 ?_
      rotate_left
      · intro wq hSw; go_simp; (try with_reducible rfl)
      simp only [Act.put, nrm]
      refine wpAnyH_take (i := 16) (v := ?_) rfl (by kernel_rfl) (by kernel_rfl) (by kernel_rfl) (fun _ _ _ h => h) (Or.inl ⟨by rfl, ?_⟩) hS6 ?_
      rotate_left
      · intro wq hSw; go_simp; (try with_reducible rfl)
      simp only [Act.put, nrm]
      refine wpAnyH_done (by kernel_rfl) ?_ _
      go_wp2_with fail
      go_roundw
      case rel => exact ⟨j + 1, by have := HJ.out; omega, by go_num, by first | rfl | exact congrArg Value.string c2 | (simp only [c1, c2]; rfl), hS6.1, hS6.2⟩
      case measure => simp [intOf]; have := HJ.out; omega
    · have hje : j = a.rows.length := by omega
      obtain ⟨d0, d1, d2, d3, d4, d5, d6, d7, d8, d9, d10, d11, d12, d13, d14, d15, d16, d17, d18⟩ := hB.cells19
      have Hf := Lib.hid (show L2 ++ (a.rows.take j).flatMap P.rwB = P.tellB x.op x.client x.number a 0 by rw [hje]; exact Hres.out)
      rw [Hf.out]
      clear hje
      go_wp2_with fail
      go_ret
      exact ⟨rfl, hA⟩
set_option maxRecDepth 100000 in
set_option maxHeartbeats 4000000 in
theorem refTell_12 (x : P.Ca) (a : P.An) (r : Option Addr) (rc : Nat) (v : Option Addr) (vc : Nat) (p : Option Addr) (pc : Nat) (hop1 : x.op < 256) (hcl : x.client < 256) (hnu : x.number < 18446744073709551616) (ht : P.tyAn a) (ho : a.owner.length ≤ 20000) (hl : a.events.length ≤ 200) (hown : ∀ y ∈ a.events, y.owner.length ≤ 20000) (hop : x.op = 12) (w : World) (hrows : RowsAt 7 evD w v a.events) : Calls Tryd.prog 22 #[caV x, raV a r rc v vc p pc, .int .i64 0] w fun e' w' => e' = .returned (S (P.tellB x.op x.client x.number a 0)) ∧ Below w.heap.size w w' := by
  obtain ⟨h1, h2, hA⟩ := two_bx w #[.int .u8 (x.op : Nat), .int .u8 (x.client : Nat), V64 x.number, .int .u8 (x.p.a.fam : Nat), V64 x.p.a.hi, V64 x.p.a.lo, .int .i64 x.p.bits, .int .u8 (x.a.fam : Nat), V64 x.a.hi, V64 x.a.lo, S x.owner, S x.to, V64 x.d, V64 x.fr, .int .i64 x.n] #[.int .u8 (a.a.fam : Nat), V64 a.a.hi, V64 a.a.lo, .int .u8 0, .int .u64 0, .int .u64 0, S a.owner, V64 a.til, .int .u8 (a.pool.a.fam : Nat), V64 a.pool.a.hi, V64 a.pool.a.lo, .int .i64 a.pool.bits, .bool a.has, .bool a.held, .bool a.live, V64 a.clock, .slice r a.rows.length rc, .slice v a.events.length vc, .slice p a.pools.length pc] 46 62
  have HE := Lib.hid (fun wx => refOne_any 0 wx)
  have HH := Lib.hid (fun wx => refHead_any x hop1 hcl hnu wx)
  obtain ⟨E1, hE1⟩ : ∃ L, L = [P.byI 0] := ⟨_, rfl⟩
  obtain ⟨L0, hL0⟩ : ∃ L, L = P.headB x.op x.client x.number := ⟨_, rfl⟩
  obtain ⟨L1, hL1⟩ : ∃ L, L = E1 ++ L0 := ⟨_, rfl⟩
  have lE : E1.length = 1 := by rw [hE1]; rfl
  have l0 : L0.length = 10 := by rw [hL0, P.headB_len]
  have l1 : L1.length = 11 := by rw [hL1, List.length_append]; omega
  rw [← hE1] at HE
  rw [← hL0] at HH
  have k1 := str_catD E1 L0
  rw [← hL1] at k1
  have a1 : ¬ 9223372036854775807 < E1.length + L0.length := by omega
  have LE := Lib.hid lE
  have LZ := Lib.hid l0
  have L1n := Lib.hid l1
  have HN := Lib.hid (fun wx => refOne_any (a.events.length : Int) wx)
  obtain ⟨T1, hT1⟩ : ∃ T, T = [P.byI (a.events.length : Int)] := ⟨_, rfl⟩
  have lT : T1.length = 1 := by rw [hT1]; rfl
  rw [← hT1] at HN
  obtain ⟨L2, hL2⟩ : ∃ L, L = L1 ++ T1 := ⟨_, rfl⟩
  have l2 : L2.length = 12 := by rw [hL2, List.length_append]; omega
  have k2 := str_catD L1 T1
  rw [← hL2] at k2
  have a2 : ¬ 9223372036854775807 < L1.length + T1.length := by omega
  have Hres := Lib.hid (show L2 ++ (a.events.take a.events.length).flatMap P.evB = P.tellB x.op x.client x.number a 0 by rw [List.take_length, hL2, hL1, hL0, hE1, hT1]; unfold P.tellB P.tailB; rw [hop]; simp)
  have L2n := Lib.hid l2
  clear hE1 hL0 hL1 hL2 hT1 lT l2
  have t5 : ((x.op : Int) == 5) = false := beq_eq_false_iff_ne.2 (by omega)
  have t6 : ((x.op : Int) == 6) = false := beq_eq_false_iff_ne.2 (by omega)
  have t7 : ((x.op : Int) == 7) = false := beq_eq_false_iff_ne.2 (by omega)
  have t10 : ((x.op : Int) == 10) = false := beq_eq_false_iff_ne.2 (by omega)
  have t11 : ((x.op : Int) == 11) = false := beq_eq_false_iff_ne.2 (by omega)
  have t12 : ((x.op : Int) == 12) = true := beq_iff_eq.2 (by omega)
  clear hop
  go_enter Tryd.func22, Tryd.ntmps22
  go_upto_region 1 with fail
  generalize hW : (w.alloc (.cells #[.int .u8 (x.op : Nat), .int .u8 (x.client : Nat), V64 x.number, .int .u8 (x.p.a.fam : Nat), V64 x.p.a.hi, V64 x.p.a.lo, .int .i64 x.p.bits, .int .u8 (x.a.fam : Nat), V64 x.a.hi, V64 x.a.lo, S x.owner, S x.to, V64 x.d, V64 x.fr, .int .i64 x.n] 46)).alloc (.cells #[.int .u8 (a.a.fam : Nat), V64 a.a.hi, V64 a.a.lo, .int .u8 0, .int .u64 0, .int .u64 0, S a.owner, V64 a.til, .int .u8 (a.pool.a.fam : Nat), V64 a.pool.a.hi, V64 a.pool.a.lo, .int .i64 a.pool.bits, .bool a.has, .bool a.held, .bool a.live, V64 a.clock, .slice r a.rows.length rc, .slice v a.events.length vc, .slice p a.pools.length pc] 62) = w2 at *
  clear hW lE l0 l1
  refine wp_region_held_drew (S := fun wx => Bx wx w.heap.size 46 #[.int .u8 (x.op : Nat), .int .u8 (x.client : Nat), V64 x.number, .int .u8 (x.p.a.fam : Nat), V64 x.p.a.hi, V64 x.p.a.lo, .int .i64 x.p.bits, .int .u8 (x.a.fam : Nat), V64 x.a.hi, V64 x.a.lo, S x.owner, S x.to, V64 x.d, V64 x.fr, .int .i64 x.n] ∧ Bx wx (w.heap.size + 1) 62 #[.int .u8 (a.a.fam : Nat), V64 a.a.hi, V64 a.a.lo, .int .u8 0, .int .u64 0, .int .u64 0, S a.owner, V64 a.til, .int .u8 (a.pool.a.fam : Nat), V64 a.pool.a.hi, V64 a.pool.a.lo, .int .i64 a.pool.bits, .bool a.has, .bool a.held, .bool a.live, V64 a.clock, .slice r a.rows.length rc, .slice v a.events.length vc, .slice p a.pools.length pc] ∧ Below w.heap.size w wx) (by kernel_rfl) ⟨h1.drew, h2.drew, hA.drew⟩ (fun hHeld => ?_)
  refine wpAnyH_take (i := 0) (v := ?_) rfl (by kernel_rfl) (by kernel_rfl) (by kernel_rfl) (fun _ _ _ h => h) (Or.inl ⟨by rfl, ?_⟩) hHeld ?_
  rotate_left
  · intro wq hSw; go_simp; (try with_reducible rfl)
  simp only [Act.put, nrm]
  refine wpAnyH_take (i := 2) (v := .agg #[.int .u8 (x.op : Nat), .int .u8 (x.client : Nat), V64 x.number, .int .u8 (x.p.a.fam : Nat), V64 x.p.a.hi, V64 x.p.a.lo, .int .i64 x.p.bits, .int .u8 (x.a.fam : Nat), V64 x.a.hi, V64 x.a.lo, S x.owner, S x.to, V64 x.d, V64 x.fr, .int .i64 x.n]) rfl (by kernel_rfl) (by kernel_rfl) (by kernel_rfl) (fun _ _ _ h => h) (yieldsB (by rfl) _ _ (by rfl) (by rfl) (fun wx h => h.1) structRC 15 infoRC (by rfl)) hHeld ?_
  simp only [Act.put, nrm]
  refine wpAnyH_one (i := 1) (by kernel_rfl) rfl (fun K hK => ?_)
  simp only [nrm]
  go_simp
  (with_reducible refine (HE.out _).mono ?_)
  rintro e v1 ⟨rfl, hb1⟩
  have hSv1 : Bx v1 w.heap.size 46 #[.int .u8 (x.op : Nat), .int .u8 (x.client : Nat), V64 x.number, .int .u8 (x.p.a.fam : Nat), V64 x.p.a.hi, V64 x.p.a.lo, .int .i64 x.p.bits, .int .u8 (x.a.fam : Nat), V64 x.a.hi, V64 x.a.lo, S x.owner, S x.to, V64 x.d, V64 x.fr, .int .i64 x.n] ∧ Bx v1 (w.heap.size + 1) 62 #[.int .u8 (a.a.fam : Nat), V64 a.a.hi, V64 a.a.lo, .int .u8 0, .int .u64 0, .int .u64 0, S a.owner, V64 a.til, .int .u8 (a.pool.a.fam : Nat), V64 a.pool.a.hi, V64 a.pool.a.lo, .int .i64 a.pool.bits, .bool a.has, .bool a.held, .bool a.live, V64 a.clock, .slice r a.rows.length rc, .slice v a.events.length vc, .slice p a.pools.length pc] ∧ Below w.heap.size w v1 := ⟨hHeld.1.up hb1, hHeld.2.1.up hb1, Chain.up hHeld.2.2 hb1⟩
  refine hK.out _ _ hSv1 ?_
  clear hK K
  refine wpAnyH_one (i := 3) (by kernel_rfl) rfl (fun K hK => ?_)
  simp only [nrm]
  go_simp
  (with_reducible refine (HH.out _).mono ?_)
  rintro e v2 ⟨rfl, hb2⟩
  have hSv2 : Bx v2 w.heap.size 46 #[.int .u8 (x.op : Nat), .int .u8 (x.client : Nat), V64 x.number, .int .u8 (x.p.a.fam : Nat), V64 x.p.a.hi, V64 x.p.a.lo, .int .i64 x.p.bits, .int .u8 (x.a.fam : Nat), V64 x.a.hi, V64 x.a.lo, S x.owner, S x.to, V64 x.d, V64 x.fr, .int .i64 x.n] ∧ Bx v2 (w.heap.size + 1) 62 #[.int .u8 (a.a.fam : Nat), V64 a.a.hi, V64 a.a.lo, .int .u8 0, .int .u64 0, .int .u64 0, S a.owner, V64 a.til, .int .u8 (a.pool.a.fam : Nat), V64 a.pool.a.hi, V64 a.pool.a.lo, .int .i64 a.pool.bits, .bool a.has, .bool a.held, .bool a.live, V64 a.clock, .slice r a.rows.length rc, .slice v a.events.length vc, .slice p a.pools.length pc] ∧ Below w.heap.size w v2 := ⟨hSv1.1.up hb2, hSv1.2.1.up hb2, Chain.up hSv1.2.2 hb2⟩
  refine hK.out _ _ hSv2 ?_
  clear hK K
  refine wpAnyH_take (i := 4) (v := ?_) rfl (by kernel_rfl) (by kernel_rfl) (by kernel_rfl) (fun _ _ _ h => h) (Or.inl ⟨by rfl, ?_⟩) hSv2 ?_
  rotate_left
  · intro wq hSw; go_simp; (try with_reducible rfl)
  simp only [Act.put, nrm]
  refine wpAnyH_take (i := 5) (v := ?_) rfl (by kernel_rfl) (by kernel_rfl) (by kernel_rfl) (fun _ _ _ h => h) (Or.inl ⟨by rfl, ?_⟩) hSv2 ?_
  rotate_left
  · intro wq hSw; go_simp; (try with_reducible rfl)
  simp only [Act.put, nrm]
  refine wpAnyH_done (by kernel_rfl) ?_ _
  clear h1 h2 hA hHeld hSv1 hb1 hb2 HE HH
  have hC := hSv2.1
  have hB := hSv2.2.1
  have hA := hSv2.2.2
  have hlt := hB.lt
  clear hSv2
  have q0 : v2.cell? ⟨w.heap.size, 0, none⟩ = some (.int .u8 (x.op : Nat)) := hC.cell 0
  obtain ⟨c0, c1, c2, c3, c4, c5, c6, c7, c8, c9, c10, c11, c12, c13, c14, c15, c16, c17, c18⟩ := hB.cells19
  go_wp2_with (go_at_call 48; (with_reducible refine (HN.out _).mono ?_); rintro e v3 ⟨rfl, hb3⟩; have hB3 := hB.up hb3; have hA3 := Chain.up hA hb3)
  clear hB hA hb3 hC c0 c1 c2 c3 c4 c5 c6 c7 c8 c9 c10 c11 c12 c13 c14 c15 c16 c17 c18 q0 HN k1 a1 a2
  go_loopw [7, 9, 10] (fun s i p10 wr => ∃ j : Nat, j ≤ a.events.length ∧ i = .int .i64 ((j : Nat) : Int) ∧ s = S (L2 ++ (a.events.take j).flatMap P.evB) ∧ Bx wr (w.heap.size + 1) 62 #[.int .u8 (a.a.fam : Nat), V64 a.a.hi, V64 a.a.lo, .int .u8 0, .int .u64 0, .int .u64 0, S a.owner, V64 a.til, .int .u8 (a.pool.a.fam : Nat), V64 a.pool.a.hi, V64 a.pool.a.lo, .int .i64 a.pool.bits, .bool a.has, .bool a.held, .bool a.live, V64 a.clock, .slice r a.rows.length rc, .slice v a.events.length vc, .slice p a.pools.length pc] ∧ Below w.heap.size w wr) (fun _ i _ _ => a.events.length - (intOf i).toNat)
  case atStart => exact ⟨0, Nat.zero_le _, rfl, by rw [List.take_zero, List.flatMap_nil, List.append_nil], hB3, hA3⟩
  case round =>
    clear hB3 hA3 k2
    obtain ⟨j, hj, rfl, rfl, hB, hA⟩ := hrel
    have hltB := hB.lt
    by_cases hjn : j < a.events.length
    · have hji : ((j : Nat) : Int) < ((a.events.length : Nat) : Int) := by omega
      have hll := flat_lenD P.evB 20100 a.events (fun y hy => by have := P.leB_two y.owner y.til (hown y hy); have := P.row_len9 y.at'; unfold P.evB; simp only [List.length_cons, List.length_append]; omega) j
      have htk := take_flatD P.evB a.events j hjn
      have hmem : a.events[j] ∈ a.events := List.getElem_mem hjn
      have HJ := Lib.hid hjn
      have hty := ht.2.2.2.2.2.1 _ hmem
      have hoj := hown _ hmem
      obtain ⟨b, o, hq, hbl, k0, k1, k2, k3, k4, k5, k6⟩ := evt7_cells (RowsAt.up hrows hA) j hjn
      obtain ⟨M, hM⟩ : ∃ M, M = L2 ++ (a.events.take j).flatMap P.evB := ⟨_, rfl⟩
      have hMl : M.length ≤ 12 + 20100 * 200 := by
        rw [hM, List.length_append]
        have h2 := L2n.out
        have : 20100 * j ≤ 20100 * 200 := Nat.mul_le_mul_left _ (by omega)
        omega
      generalize hy : a.events[j] = y at *
      have HM := Lib.hid (show L2 ++ (a.events.take (j + 1)).flatMap P.evB = (((M ++ [P.byI y.how]) ++ P.txB y.owner) ++ P.row y.at') ++ P.row y.til by rw [htk, hM]; unfold P.evB; simp)
      rw [← hM]
      clear hM htk hll hmem hy
      subst hq
      have H1 := Lib.hid (fun wx => refOne_any y.how wx)
      have H2 := Lib.hid (fun wx => refText26_any y.owner hoj wx)
      have H3 := Lib.hid (fun wx => row_any y.at' hty.2.1 wx)
      have H4 := Lib.hid (fun wx => row_any y.til hty.2.2 wx)
      have lY := P.leB_two y.owner y.til hoj
      have lA := P.row_len9 y.at'
      obtain ⟨X1, hX1⟩ : ∃ m, m = [P.byI y.how] := ⟨_, rfl⟩
      have lX1 : X1.length = 1 := by rw [hX1]; rfl
      rw [← hX1] at H1 HM
      generalize P.txB y.owner = X2 at *
      generalize P.row y.at' = X3 at *
      generalize P.row y.til = X4 at *
      have c1 := str_catD M X1
      obtain ⟨M1, hM1⟩ : ∃ m, m = M ++ X1 := ⟨_, rfl⟩
      have lM1 : M1.length ≤ M.length + 1 := by rw [hM1, List.length_append]; omega
      rw [← hM1] at c1 HM
      have c2 := str_catD M1 X2
      obtain ⟨M2, hM2⟩ : ∃ m, m = M1 ++ X2 := ⟨_, rfl⟩
      have lM2 : M2.length ≤ M.length + 20010 := by rw [hM2, List.length_append]; omega
      rw [← hM2] at c2 HM
      have c3 := str_catD M2 X3
      obtain ⟨M3, hM3⟩ : ∃ m, m = M2 ++ X3 := ⟨_, rfl⟩
      have lM3 : M3.length ≤ M.length + 20019 := by rw [hM3, List.length_append]; omega
      rw [← hM3] at c3 HM
      have c4 := str_catD M3 X4
      rw [← HM.out] at c4
      have a1 : ¬ 9223372036854775807 < M.length + X1.length := by omega
      have a2 : ¬ 9223372036854775807 < M1.length + X2.length := by omega
      have a3 : ¬ 9223372036854775807 < M2.length + X3.length := by omega
      have a4 : ¬ 9223372036854775807 < M3.length + X4.length := by omega
      have LX1 := Lib.hid lX1
      clear hM1 hM2 hM3 hX1 lX1 hrows
      have hp1 := Bx.fresh wr 126 #[.int .u8 0, .int .u64 0, .int .u64 0, .int .i64 0, .string ⟨#[]⟩, .int .u64 0, .int .u64 0]
      have hB1 := hB.up ((Below.refl wr.heap.size wr).alloc (Nat.le_refl _) (.cells #[.int .u8 0, .int .u64 0, .int .u64 0, .int .i64 0, .string ⟨#[]⟩, .int .u64 0, .int .u64 0] 126))
      have hA1 := hA.alloc hA.size (.cells #[.int .u8 0, .int .u64 0, .int .u64 0, .int .i64 0, .string ⟨#[]⟩, .int .u64 0, .int .u64 0] 126)
      have hgA := hA.size
      obtain ⟨e0, e1, e2, e3, e4, e5, e6, e7, e8, e9, e10, e11, e12, e13, e14, e15, e16, e17, e18⟩ := hB.cells19
      go_upto_region 23 with (refine wpList_stB (by rfl) _ _ _ (by rfl) hp1 _ _ (by rfl) (by rfl) 7 7 (by rfl) (by rfl) (by decide) infoREv (by rfl) (by rfl) ?_; intro w5 hz' hb5; have hp5 : Bx w5 wr.heap.size 126 #[.int .u8 0, .int .u64 0, .int .u64 0, .int .i64 y.how, S y.owner, V64 y.at', V64 y.til] := hz'; clear hz'; have hB5 := hB1.but hb5 (by omega); have hA5 := hA1.trans (hb5.below hgA hA1.size))
      clear k0 k1 k2 k3 k4 k5 k6 hp1 hB1 hA1 hb5 e0 e1 e2 e3 e4 e5 e6 e7 e8 e9 e10 e11 e12 e13 e14 e15 e16 e17 e18
      refine wp_region_held_drew (S := fun wx => Bx wx wr.heap.size 126 #[.int .u8 0, .int .u64 0, .int .u64 0, .int .i64 y.how, S y.owner, V64 y.at', V64 y.til] ∧ Bx wx (w.heap.size + 1) 62 #[.int .u8 (a.a.fam : Nat), V64 a.a.hi, V64 a.a.lo, .int .u8 0, .int .u64 0, .int .u64 0, S a.owner, V64 a.til, .int .u8 (a.pool.a.fam : Nat), V64 a.pool.a.hi, V64 a.pool.a.lo, .int .i64 a.pool.bits, .bool a.has, .bool a.held, .bool a.live, V64 a.clock, .slice r a.rows.length rc, .slice (some ⟨b, o, none⟩) a.events.length vc, .slice p a.pools.length pc] ∧ Below w.heap.size w wx) (by kernel_rfl) ⟨hp5.drew, hB5.drew, hA5.drew⟩ (fun hHeld => ?_)
      refine wpAnyH_take (i := 0) (v := ?_) rfl (by kernel_rfl) (by kernel_rfl) (by kernel_rfl) (fun _ _ _ h => h) (Or.inl ⟨by rfl, ?_⟩) hHeld ?_
      rotate_left
      · intro wq hSw; go_simp; (try with_reducible rfl)
      simp only [Act.put, nrm]
      refine wpAnyH_take (i := 1) (v := ?_) rfl (by kernel_rfl) (by kernel_rfl) (by kernel_rfl) (fun _ _ _ h => h) (Or.inl ⟨by rfl, ?_⟩) hHeld ?_
      rotate_left
      · intro wq hSw; go_simp; (try with_reducible rfl)
      simp only [Act.put, nrm]
      refine wpAnyH_take (i := 2) (v := ?_) rfl (by kernel_rfl) (by kernel_rfl) (by kernel_rfl) (fun _ _ _ h => h) (Or.inl ⟨by rfl, ?_⟩) hHeld ?_
      rotate_left
      · intro wq hSw; have k3 := hSw.1.cell 3; have k4 := hSw.1.cell 4; have k5 := hSw.1.cell 5; have k6 := hSw.1.cell 6; simp only [List.getElem?_toArray, List.getElem?_cons_succ, List.getElem?_cons_zero] at k3 k4 k5 k6; go_simp; (try with_reducible rfl)
      simp only [Act.put, nrm]
      refine wpAnyH_take (i := 5) (v := ?_) rfl (by kernel_rfl) (by kernel_rfl) (by kernel_rfl) (fun _ _ _ h => h) (Or.inl ⟨by rfl, ?_⟩) hHeld ?_
      rotate_left
      · intro wq hSw; go_simp; (try with_reducible rfl)
      simp only [Act.put, nrm]
      refine wpAnyH_take (i := 6) (v := ?_) rfl (by kernel_rfl) (by kernel_rfl) (by kernel_rfl) (fun _ _ _ h => h) (Or.inl ⟨by rfl, ?_⟩) hHeld ?_
      rotate_left
      · intro wq hSw; have k3 := hSw.1.cell 3; have k4 := hSw.1.cell 4; have k5 := hSw.1.cell 5; have k6 := hSw.1.cell 6; simp only [List.getElem?_toArray, List.getElem?_cons_succ, List.getElem?_cons_zero] at k3 k4 k5 k6; go_simp; (try with_reducible rfl)
      simp only [Act.put, nrm]
      refine wpAnyH_take (i := 9) (v := ?_) rfl (by kernel_rfl) (by kernel_rfl) (by kernel_rfl) (fun _ _ _ h => h) (Or.inl ⟨by rfl, ?_⟩) hHeld ?_
      rotate_left
      · intro wq hSw; go_simp; (try with_reducible rfl)
      simp only [Act.put, nrm]
      refine wpAnyH_take (i := 10) (v := ?_) rfl (by kernel_rfl) (by kernel_rfl) (by kernel_rfl) (fun _ _ _ h => h) (Or.inl ⟨by rfl, ?_⟩) hHeld ?_
      rotate_left
      · intro wq hSw; have k3 := hSw.1.cell 3; have k4 := hSw.1.cell 4; have k5 := hSw.1.cell 5; have k6 := hSw.1.cell 6; simp only [List.getElem?_toArray, List.getElem?_cons_succ, List.getElem?_cons_zero] at k3 k4 k5 k6; go_simp; (try with_reducible rfl)
      simp only [Act.put, nrm]
      refine wpAnyH_take (i := 13) (v := ?_) rfl (by kernel_rfl) (by kernel_rfl) (by kernel_rfl) (fun _ _ _ h => h) (Or.inl ⟨by rfl, ?_⟩) hHeld ?_
      rotate_left
      · intro wq hSw; go_simp; (try with_reducible rfl)
      simp only [Act.put, nrm]
      refine wpAnyH_take (i := 14) (v := ?_) rfl (by kernel_rfl) (by kernel_rfl) (by kernel_rfl) (fun _ _ _ h => h) (Or.inl ⟨by rfl, ?_⟩) hHeld ?_
      rotate_left
      · intro wq hSw; have k3 := hSw.1.cell 3; have k4 := hSw.1.cell 4; have k5 := hSw.1.cell 5; have k6 := hSw.1.cell 6; simp only [List.getElem?_toArray, List.getElem?_cons_succ, List.getElem?_cons_zero] at k3 k4 k5 k6; go_simp; (try with_reducible rfl)
      simp only [Act.put, nrm]
      refine wpAnyH_one (i := 3) (by kernel_rfl) rfl (fun K hK => ?_)
      simp only [nrm]
      go_simp
      (with_reducible refine (H1.out _).mono ?_)
      rintro e u1 ⟨rfl, hv1⟩
      have hS1 := And.intro (hHeld.1.up hv1) (And.intro (hHeld.2.1.up hv1) (Chain.up hHeld.2.2 hv1))
      refine hK.out _ _ hS1 ?_
      clear hK K
      refine wpAnyH_take (i := 4) (v := ?_) rfl (by kernel_rfl) (by kernel_rfl) (by kernel_rfl) (fun _ _ _ h => h) (Or.inl ⟨by rfl, ?_⟩) hS1 ?_
      rotate_left
      · intro wq hSw; go_simp; (try with_reducible rfl)
      simp only [Act.put, nrm]
      refine wpAnyH_one (i := 7) (by kernel_rfl) rfl (fun K hK => ?_)
      simp only [nrm]
      go_simp
      (with_reducible refine (H2.out _).mono ?_)
      rintro e u2 ⟨rfl, hv2⟩
      have hS2 := And.intro (hS1.1.up hv2) (And.intro (hS1.2.1.up hv2) (Chain.up hS1.2.2 hv2))
      refine hK.out _ _ hS2 ?_
      clear hK K
      refine wpAnyH_take (i := 8) (v := ?_) rfl (by kernel_rfl) (by kernel_rfl) (by kernel_rfl) (fun _ _ _ h => h) (Or.inl ⟨by rfl, ?_⟩) hS2 ?_
      rotate_left
      · intro wq hSw; go_simp; (try with_reducible rfl)
      simp only [Act.put, nrm]
      refine wpAnyH_one (i := 11) (by kernel_rfl) rfl (fun K hK => ?_)
      simp only [nrm]
      go_simp
      (with_reducible refine (H3.out _).mono ?_)
      rintro e u3 ⟨rfl, hv3⟩
      have hS3 := And.intro (hS2.1.up hv3) (And.intro (hS2.2.1.up hv3) (Chain.up hS2.2.2 hv3))
      refine hK.out _ _ hS3 ?_
      clear hK K
      refine wpAnyH_take (i := 12) (v := ?_) rfl (by kernel_rfl) (by kernel_rfl) (by kernel_rfl) (fun _ _ _ h => h) (Or.inl ⟨by rfl, ?_⟩) hS3 ?_
      rotate_left
      · intro wq hSw; go_simp; (try with_reducible rfl)
      simp only [Act.put, nrm]
      refine wpAnyH_one (i := 15) (by kernel_rfl) rfl (fun K hK => ?_)
      simp only [nrm]
      go_simp
      (with_reducible refine (H4.out _).mono ?_)
      rintro e u4 ⟨rfl, hv4⟩
      have hS4 := And.intro (hS3.1.up hv4) (And.intro (hS3.2.1.up hv4) (Chain.up hS3.2.2 hv4))
      refine hK.out _ _ hS4 ?_
      clear hK K
      refine wpAnyH_take (i := 16) (v := ?_) rfl (by kernel_rfl) (by kernel_rfl) (by kernel_rfl) (fun _ _ _ h => h) (Or.inl ⟨by rfl, ?_⟩) hS4 ?_
      rotate_left
      · intro wq hSw; go_simp; (try with_reducible rfl)
      simp only [Act.put, nrm]
      refine wpAnyH_take (i := 17) (v := ?_) rfl (by kernel_rfl) (by kernel_rfl) (by kernel_rfl) (fun _ _ _ h => h) (Or.inl ⟨by rfl, ?_⟩) hS4 ?_
      rotate_left
      · intro wq hSw; go_simp; (try with_reducible rfl)
      simp only [Act.put, nrm]
      refine wpAnyH_done (by kernel_rfl) ?_ _
      go_wp2_with fail
      go_roundw
      case rel => exact ⟨j + 1, by have := HJ.out; omega, by go_num, by first | rfl | exact congrArg Value.string c4 | (simp only [c1, c2, c3, c4]; rfl), hS4.2.1, hS4.2.2⟩
      case measure => simp [intOf]; have := HJ.out; omega
    · have hje : j = a.events.length := by omega
      obtain ⟨d0, d1, d2, d3, d4, d5, d6, d7, d8, d9, d10, d11, d12, d13, d14, d15, d16, d17, d18⟩ := hB.cells19
      have Hf := Lib.hid (show L2 ++ (a.events.take j).flatMap P.evB = P.tellB x.op x.client x.number a 0 by rw [hje]; exact Hres.out)
      rw [Hf.out]
      clear hje
      go_wp2_with fail
      go_ret
      exact ⟨rfl, hA⟩
theorem refTell_any (x : P.Ca) (a : P.An) (r : Option Addr) (rc : Nat) (v : Option Addr) (vc : Nat) (p : Option Addr) (pc : Nat) (e : Int) (hop1 : x.op < 256) (hcl : x.client < 256) (hnu : x.number < 18446744073709551616) (ht : P.tyAn a) (ho : a.owner.length ≤ 20000) (hl : a.rows.length ≤ 200 ∧ a.events.length ≤ 200 ∧ a.pools.length ≤ 200) (hr : ∀ y ∈ a.rows, y.owner.length ≤ 20000) (hv : ∀ y ∈ a.events, y.owner.length ≤ 20000) (w : World) (hat : AnsD w a r v p) : Calls Tryd.prog 22 #[caV x, raV a r rc v vc p pc, .int .i64 e] w fun e' w' => e' = .returned (S (P.tellB x.op x.client x.number a e)) ∧ Below w.heap.size w w' := by
  by_cases he : e = 0
  · subst he
    by_cases ho1 : ¬ (5 ≤ x.op ∧ x.op ≤ 7) ∧ ¬ (10 ≤ x.op ∧ x.op ≤ 15)
    · exact refTell_other x a r rc v vc p pc hop1 hcl hnu ht ho ho1 w
    · rcases (show x.op = 5 ∨ x.op = 6 ∨ x.op = 7 ∨ x.op = 10 ∨ x.op = 11 ∨ x.op = 12 ∨ x.op = 13 ∨ x.op = 14 ∨ x.op = 15 by omega) with h | h | h | h | h | h | h | h | h
      · exact refTell_5 x a r rc v vc p pc hop1 hcl hnu ht ho h w
      · exact refTell_6 x a r rc v vc p pc hop1 hcl hnu ht ho h w
      · exact refTell_7 x a r rc v vc p pc hop1 hcl hnu ht ho h w
      · exact refTell_10 x a r rc v vc p pc hop1 hcl hnu ht ho h w
      · exact refTell_11 x a r rc v vc p pc hop1 hcl hnu ht ho hl.1 hr h w hat.rows
      · exact refTell_12 x a r rc v vc p pc hop1 hcl hnu ht ho hl.2.1 hv h w hat.events
      · exact refTell_13 x a r rc v vc p pc hop1 hcl hnu ht ho hl.2.2 h w hat.pools
      · exact refTell_14 x a r rc v vc p pc hop1 hcl hnu ht ho hl.2.2 h w hat.pools
      · exact refTell_15 x a r rc v vc p pc hop1 hcl hnu ht ho h w
  · exact refTell_err x a r rc v vc p pc e he hop1 hcl hnu ht ho w
end Go.Proofs.YtcobfoiajdbahaaDoor
