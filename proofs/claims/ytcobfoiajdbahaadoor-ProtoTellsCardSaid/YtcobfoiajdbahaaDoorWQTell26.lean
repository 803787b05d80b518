/- The walk of the document's Tell, of answers without lists. -/
import Derived.Test.YtcobfoiajdbahaaDoorWQLook26
namespace Go.Proofs.YtcobfoiajdbahaaDoor
open Go.RowKit
set_option linter.unusedVariables false
set_option linter.unusedSimpArgs false
set_option maxRecDepth 100000 in
set_option maxHeartbeats 4000000 in
theorem refTell_err (x : P.Ca) (a : P.An) (r : Option Addr) (rc : Nat) (v : Option Addr) (vc : Nat) (p : Option Addr) (pc : Nat) (e : Int) (he : e ≠ 0) (hop1 : x.op < 256) (hcl : x.client < 256) (hnu : x.number < 18446744073709551616) (ht : P.tyAn a) (ho : a.owner.length ≤ 20000) (w : World) : Calls Tryd.prog 22 #[caV x, raV a r rc v vc p pc, .int .i64 e] w fun e' w' => e' = .returned (S (P.tellB x.op x.client x.number a e)) ∧ Below w.heap.size w w' := by
  obtain ⟨h1, h2, hA⟩ := two_bx w #[.int .u8 (x.op : Nat), .int .u8 (x.client : Nat), V64 x.number, .int .u8 (x.p.a.fam : Nat), V64 x.p.a.hi, V64 x.p.a.lo, .int .i64 x.p.bits, .int .u8 (x.a.fam : Nat), V64 x.a.hi, V64 x.a.lo, S x.owner, S x.to, V64 x.d, V64 x.fr, .int .i64 x.n] #[.int .u8 (a.a.fam : Nat), V64 a.a.hi, V64 a.a.lo, .int .u8 0, .int .u64 0, .int .u64 0, S a.owner, V64 a.til, .int .u8 (a.pool.a.fam : Nat), V64 a.pool.a.hi, V64 a.pool.a.lo, .int .i64 a.pool.bits, .bool a.has, .bool a.held, .bool a.live, V64 a.clock, .slice r a.rows.length rc, .slice v a.events.length vc, .slice p a.pools.length pc] 46 62
  have HE := Lib.hid (fun wx => refOne_any e wx)
  have HH := Lib.hid (fun wx => refHead_any x hop1 hcl hnu wx)
  obtain ⟨E1, hE1⟩ : ∃ L, L = [P.byI e] := ⟨_, rfl⟩
  obtain ⟨L0, hL0⟩ : ∃ L, L = P.headB x.op x.client x.number := ⟨_, rfl⟩
  obtain ⟨L1, hL1⟩ : ∃ L, L = E1 ++ L0 := ⟨_, rfl⟩
  have lE : E1.length = 1 := by rw [hE1]; rfl
  have l0 : L0.length = 10 := by rw [hL0, P.headB_len]
  have l1 : L1.length = 11 := by rw [hL1, List.length_append]; omega
  rw [← hE1] at HE
  rw [← hL0] at HH
  have k1 := str_catD E1 L0
  rw [← hL1] at k1
  have a1 : ¬ 9223372036854775807 < E1.length + L0.length := by omega
  have LE := Lib.hid lE
  have LZ := Lib.hid l0
  have L1n := Lib.hid l1
  have Hres := Lib.hid (show L1 = P.tellB x.op x.client x.number a e by rw [hL1, hL0, hE1]; unfold P.tellB; rw [if_neg he, List.append_nil]; rfl)
  clear hE1 hL0 hL1
  have te : (e == 0) = false := beq_eq_false_iff_ne.2 he
  go_enter Tryd.func22, Tryd.ntmps22
  go_upto_region 1 with fail
  generalize hW : (w.alloc (.cells #[.int .u8 (x.op : Nat), .int .u8 (x.client : Nat), V64 x.number, .int .u8 (x.p.a.fam : Nat), V64 x.p.a.hi, V64 x.p.a.lo, .int .i64 x.p.bits, .int .u8 (x.a.fam : Nat), V64 x.a.hi, V64 x.a.lo, S x.owner, S x.to, V64 x.d, V64 x.fr, .int .i64 x.n] 46)).alloc (.cells #[.int .u8 (a.a.fam : Nat), V64 a.a.hi, V64 a.a.lo, .int .u8 0, .int .u64 0, .int .u64 0, S a.owner, V64 a.til, .int .u8 (a.pool.a.fam : Nat), V64 a.pool.a.hi, V64 a.pool.a.lo, .int .i64 a.pool.bits, .bool a.has, .bool a.held, .bool a.live, V64 a.clock, .slice r a.rows.length rc, .slice v a.events.length vc, .slice p a.pools.length pc] 62) = w2 at *
  clear hW lE l0 l1
  refine wp_region_held_drew (S := fun wx => Bx wx w.heap.size 46 #[.int .u8 (x.op : Nat), .int .u8 (x.client : Nat), V64 x.number, .int .u8 (x.p.a.fam : Nat), V64 x.p.a.hi, V64 x.p.a.lo, .int .i64 x.p.bits, .int .u8 (x.a.fam : Nat), V64 x.a.hi, V64 x.a.lo, S x.owner, S x.to, V64 x.d, V64 x.fr, .int .i64 x.n] ∧ Bx wx (w.heap.size + 1) 62 #[.int .u8 (a.a.fam : Nat), V64 a.a.hi, V64 a.a.lo, .int .u8 0, .int .u64 0, .int .u64 0, S a.owner, V64 a.til, .int .u8 (a.pool.a.fam : Nat), V64 a.pool.a.hi, V64 a.pool.a.lo, .int .i64 a.pool.bits, .bool a.has, .bool a.held, .bool a.live, V64 a.clock, .slice r a.rows.length rc, .slice v a.events.length vc, .slice p a.pools.length pc] ∧ Below w.heap.size w wx) (by kernel_rfl) ⟨h1.drew, h2.drew, hA.drew⟩ (fun hHeld => ?_)
  refine wpAnyH_take (i := 0) (v := ?_) rfl (by kernel_rfl) (by kernel_rfl) (by kernel_rfl) (fun _ _ _ h => h) (Or.inl ⟨by rfl, ?_⟩) hHeld ?_
  rotate_left
  · intro wq hSw; go_simp; (try with_reducible rfl)
  simp only [Act.put, nrm]
  refine wpAnyH_take (i := 2) (v := .agg #[.int .u8 (x.op : Nat), .int .u8 (x.client : Nat), V64 x.number, .int .u8 (x.p.a.fam : Nat), V64 x.p.a.hi, V64 x.p.a.lo, .int .i64 x.p.bits, .int .u8 (x.a.fam : Nat), V64 x.a.hi, V64 x.a.lo, S x.owner, S x.to, V64 x.d, V64 x.fr, .int .i64 x.n]) rfl (by kernel_rfl) (by kernel_rfl) (by kernel_rfl) (fun _ _ _ h => h) (yieldsB (by rfl) _ _ (by rfl) (by rfl) (fun wx h => h.1) structRC 15 infoRC (by rfl)) hHeld ?_
  simp only [Act.put, nrm]
  refine wpAnyH_one (i := 1) (by kernel_rfl) rfl (fun K hK => ?_)
  simp only [nrm]
  go_simp
  (with_reducible refine (HE.out _).mono ?_)
  rintro e v1 ⟨rfl, hb1⟩
  have hSv1 : Bx v1 w.heap.size 46 #[.int .u8 (x.op : Nat), .int .u8 (x.client : Nat), V64 x.number, .int .u8 (x.p.a.fam : Nat), V64 x.p.a.hi, V64 x.p.a.lo, .int .i64 x.p.bits, .int .u8 (x.a.fam : Nat), V64 x.a.hi, V64 x.a.lo, S x.owner, S x.to, V64 x.d, V64 x.fr, .int .i64 x.n] ∧ Bx v1 (w.heap.size + 1) 62 #[.int .u8 (a.a.fam : Nat), V64 a.a.hi, V64 a.a.lo, .int .u8 0, .int .u64 0, .int .u64 0, S a.owner, V64 a.til, .int .u8 (a.pool.a.fam : Nat), V64 a.pool.a.hi, V64 a.pool.a.lo, .int .i64 a.pool.bits, .bool a.has, .bool a.held, .bool a.live, V64 a.clock, .slice r a.rows.length rc, .slice v a.events.length vc, .slice p a.pools.length pc] ∧ Below w.heap.size w v1 := ⟨hHeld.1.up hb1, hHeld.2.1.up hb1, Chain.up hHeld.2.2 hb1⟩
  refine hK.out _ _ hSv1 ?_
  clear hK K
  refine wpAnyH_one (i := 3) (by kernel_rfl) rfl (fun K hK => ?_)
  simp only [nrm]
  go_simp
  (with_reducible refine (HH.out _).mono ?_)
  rintro e v2 ⟨rfl, hb2⟩
  have hSv2 : Bx v2 w.heap.size 46 #[.int .u8 (x.op : Nat), .int .u8 (x.client : Nat), V64 x.number, .int .u8 (x.p.a.fam : Nat), V64 x.p.a.hi, V64 x.p.a.lo, .int .i64 x.p.bits, .int .u8 (x.a.fam : Nat), V64 x.a.hi, V64 x.a.lo, S x.owner, S x.to, V64 x.d, V64 x.fr, .int .i64 x.n] ∧ Bx v2 (w.heap.size + 1) 62 #[.int .u8 (a.a.fam : Nat), V64 a.a.hi, V64 a.a.lo, .int .u8 0, .int .u64 0, .int .u64 0, S a.owner, V64 a.til, .int .u8 (a.pool.a.fam : Nat), V64 a.pool.a.hi, V64 a.pool.a.lo, .int .i64 a.pool.bits, .bool a.has, .bool a.held, .bool a.live, V64 a.clock, .slice r a.rows.length rc, .slice v a.events.length vc, .slice p a.pools.length pc] ∧ Below w.heap.size w v2 := ⟨hSv1.1.up hb2, hSv1.2.1.up hb2, Chain.up hSv1.2.2 hb2⟩
  refine hK.out _ _ hSv2 ?_
  clear hK K
  refine wpAnyH_take (i := 4) (v := ?_) rfl (by kernel_rfl) (by kernel_rfl) (by kernel_rfl) (fun _ _ _ h => h) (Or.inl ⟨by rfl, ?_⟩) hSv2 ?_
  rotate_left
  · intro wq hSw; go_simp; (try with_reducible rfl)
  simp only [Act.put, nrm]
  refine wpAnyH_take (i := 5) (v := ?_) rfl (by kernel_rfl) (by kernel_rfl) (by kernel_rfl) (fun _ _ _ h => h) (Or.inl ⟨by rfl, ?_⟩) hSv2 ?_
  rotate_left
  · intro wq hSw; go_simp; (try with_reducible rfl)
  simp only [Act.put, nrm]
  refine wpAnyH_done (by kernel_rfl) ?_ _
  clear h1 h2 hA hHeld hSv1 hb1 hb2 HE HH
  have hC := hSv2.1
  have hB := hSv2.2.1
  have hA := hSv2.2.2
  have hlt := hB.lt
  clear hSv2
  go_wp2_with fail
  go_ret
  exact ⟨by rw [← Hres.out]; first | rfl | (simp only [k1]; rfl) | (simp [k1]; done), hA⟩
set_option maxRecDepth 100000 in
set_option maxHeartbeats 4000000 in
theorem refTell_15 (x : P.Ca) (a : P.An) (r : Option Addr) (rc : Nat) (v : Option Addr) (vc : Nat) (p : Option Addr) (pc : Nat) (hop1 : x.op < 256) (hcl : x.client < 256) (hnu : x.number < 18446744073709551616) (ht : P.tyAn a) (ho : a.owner.length ≤ 20000) (hop : x.op = 15) (w : World) : Calls Tryd.prog 22 #[caV x, raV a r rc v vc p pc, .int .i64 0] w fun e' w' => e' = .returned (S (P.tellB x.op x.client x.number a 0)) ∧ Below w.heap.size w w' := by
  obtain ⟨h1, h2, hA⟩ := two_bx w #[.int .u8 (x.op : Nat), .int .u8 (x.client : Nat), V64 x.number, .int .u8 (x.p.a.fam : Nat), V64 x.p.a.hi, V64 x.p.a.lo, .int .i64 x.p.bits, .int .u8 (x.a.fam : Nat), V64 x.a.hi, V64 x.a.lo, S x.owner, S x.to, V64 x.d, V64 x.fr, .int .i64 x.n] #[.int .u8 (a.a.fam : Nat), V64 a.a.hi, V64 a.a.lo, .int .u8 0, .int .u64 0, .int .u64 0, S a.owner, V64 a.til, .int .u8 (a.pool.a.fam : Nat), V64 a.pool.a.hi, V64 a.pool.a.lo, .int .i64 a.pool.bits, .bool a.has, .bool a.held, .bool a.live, V64 a.clock, .slice r a.rows.length rc, .slice v a.events.length vc, .slice p a.pools.length pc] 46 62
  have HE := Lib.hid (fun wx => refOne_any 0 wx)
  have HH := Lib.hid (fun wx => refHead_any x hop1 hcl hnu wx)
  obtain ⟨E1, hE1⟩ : ∃ L, L = [P.byI 0] := ⟨_, rfl⟩
  obtain ⟨L0, hL0⟩ : ∃ L, L = P.headB x.op x.client x.number := ⟨_, rfl⟩
  obtain ⟨L1, hL1⟩ : ∃ L, L = E1 ++ L0 := ⟨_, rfl⟩
  have lE : E1.length = 1 := by rw [hE1]; rfl
  have l0 : L0.length = 10 := by rw [hL0, P.headB_len]
  have l1 : L1.length = 11 := by rw [hL1, List.length_append]; omega
  rw [← hE1] at HE
  rw [← hL0] at HH
  have k1 := str_catD E1 L0
  rw [← hL1] at k1
  have a1 : ¬ 9223372036854775807 < E1.length + L0.length := by omega
  have LE := Lib.hid lE
  have LZ := Lib.hid l0
  have L1n := Lib.hid l1
  have HR := Lib.hid (fun wx => row_any a.clock ht.2.2.2.1 wx)
  obtain ⟨T1, hT1⟩ : ∃ T, T = P.row a.clock := ⟨_, rfl⟩
  have lT : T1.length ≤ 9 := by rw [hT1]; exact P.row_len9 _
  rw [← hT1] at HR
  obtain ⟨L2, hL2⟩ : ∃ L, L = L1 ++ T1 := ⟨_, rfl⟩
  have k2 := str_catD L1 T1
  rw [← hL2] at k2
  have a2 : ¬ 9223372036854775807 < L1.length + T1.length := by omega
  have Hres := Lib.hid (show L2 = P.tellB x.op x.client x.number a 0 by rw [hL2, hL1, hL0, hE1, hT1]; unfold P.tellB P.tailB; rw [hop]; simp)
  clear hE1 hL0 hL1 hL2 hT1
  have t5 : ((x.op : Int) == 5) = false := beq_eq_false_iff_ne.2 (by omega)
  have t6 : ((x.op : Int) == 6) = false := beq_eq_false_iff_ne.2 (by omega)
  have t7 : ((x.op : Int) == 7) = false := beq_eq_false_iff_ne.2 (by omega)
  have t10 : ((x.op : Int) == 10) = false := beq_eq_false_iff_ne.2 (by omega)
  have t11 : ((x.op : Int) == 11) = false := beq_eq_false_iff_ne.2 (by omega)
  have t12 : ((x.op : Int) == 12) = false := beq_eq_false_iff_ne.2 (by omega)
  have t13 : ((x.op : Int) == 13) = false := beq_eq_false_iff_ne.2 (by omega)
  have t14 : ((x.op : Int) == 14) = false := beq_eq_false_iff_ne.2 (by omega)
  have t15 : ((x.op : Int) == 15) = true := beq_iff_eq.2 (by omega)
  clear hop
  go_enter Tryd.func22, Tryd.ntmps22
  go_upto_region 1 with fail
  generalize hW : (w.alloc (.cells #[.int .u8 (x.op : Nat), .int .u8 (x.client : Nat), V64 x.number, .int .u8 (x.p.a.fam : Nat), V64 x.p.a.hi, V64 x.p.a.lo, .int .i64 x.p.bits, .int .u8 (x.a.fam : Nat), V64 x.a.hi, V64 x.a.lo, S x.owner, S x.to, V64 x.d, V64 x.fr, .int .i64 x.n] 46)).alloc (.cells #[.int .u8 (a.a.fam : Nat), V64 a.a.hi, V64 a.a.lo, .int .u8 0, .int .u64 0, .int .u64 0, S a.owner, V64 a.til, .int .u8 (a.pool.a.fam : Nat), V64 a.pool.a.hi, V64 a.pool.a.lo, .int .i64 a.pool.bits, .bool a.has, .bool a.held, .bool a.live, V64 a.clock, .slice r a.rows.length rc, .slice v a.events.length vc, .slice p a.pools.length pc] 62) = w2 at *
  clear hW lE l0 l1
  refine wp_region_held_drew (S := fun wx => Bx wx w.heap.size 46 #[.int .u8 (x.op : Nat), .int .u8 (x.client : Nat), V64 x.number, .int .u8 (x.p.a.fam : Nat), V64 x.p.a.hi, V64 x.p.a.lo, .int .i64 x.p.bits, .int .u8 (x.a.fam : Nat), V64 x.a.hi, V64 x.a.lo, S x.owner, S x.to, V64 x.d, V64 x.fr, .int .i64 x.n] ∧ Bx wx (w.heap.size + 1) 62 #[.int .u8 (a.a.fam : Nat), V64 a.a.hi, V64 a.a.lo, .int .u8 0, .int .u64 0, .int .u64 0, S a.owner, V64 a.til, .int .u8 (a.pool.a.fam : Nat), V64 a.pool.a.hi, V64 a.pool.a.lo, .int .i64 a.pool.bits, .bool a.has, .bool a.held, .bool a.live, V64 a.clock, .slice r a.rows.length rc, .slice v a.events.length vc, .slice p a.pools.length pc] ∧ Below w.heap.size w wx) (by kernel_rfl) ⟨h1.drew, h2.drew, hA.drew⟩ (fun hHeld => ?_)
  refine wpAnyH_take (i := 0) (v := ?_) rfl (by kernel_rfl) (by kernel_rfl) (by kernel_rfl) (fun _ _ _ h => h) (Or.inl ⟨by rfl, ?_⟩) hHeld ?_
  rotate_left
  · intro wq hSw; go_simp; (try with_reducible rfl)
  simp only [Act.put, nrm]
  refine wpAnyH_take (i := 2) (v := .agg #[.int .u8 (x.op : Nat), .int .u8 (x.client : Nat), V64 x.number, .int .u8 (x.p.a.fam : Nat), V64 x.p.a.hi, V64 x.p.a.lo, .int .i64 x.p.bits, .int .u8 (x.a.fam : Nat), V64 x.a.hi, V64 x.a.lo, S x.owner, S x.to, V64 x.d, V64 x.fr, .int .i64 x.n]) rfl (by kernel_rfl) (by kernel_rfl) (by kernel_rfl) (fun _ _ _ h => h) (yieldsB (by rfl) _ _ (by rfl) (by rfl) (fun wx h => h.1) structRC 15 infoRC (by rfl)) hHeld ?_
  simp only [Act.put, nrm]
  refine wpAnyH_one (i := 1) (by kernel_rfl) rfl (fun K hK => ?_)
  simp only [nrm]
  go_simp
  (with_reducible refine (HE.out _).mono ?_)
  rintro e v1 ⟨rfl, hb1⟩
  have hSv1 : Bx v1 w.heap.size 46 #[.int .u8 (x.op : Nat), .int .u8 (x.client : Nat), V64 x.number, .int .u8 (x.p.a.fam : Nat), V64 x.p.a.hi, V64 x.p.a.lo, .int .i64 x.p.bits, .int .u8 (x.a.fam : Nat), V64 x.a.hi, V64 x.a.lo, S x.owner, S x.to, V64 x.d, V64 x.fr, .int .i64 x.n] ∧ Bx v1 (w.heap.size + 1) 62 #[.int .u8 (a.a.fam : Nat), V64 a.a.hi, V64 a.a.lo, .int .u8 0, .int .u64 0, .int .u64 0, S a.owner, V64 a.til, .int .u8 (a.pool.a.fam : Nat), V64 a.pool.a.hi, V64 a.pool.a.lo, .int .i64 a.pool.bits, .bool a.has, .bool a.held, .bool a.live, V64 a.clock, .slice r a.rows.length rc, .slice v a.events.length vc, .slice p a.pools.length pc] ∧ Below w.heap.size w v1 := ⟨hHeld.1.up hb1, hHeld.2.1.up hb1, Chain.up hHeld.2.2 hb1⟩
  refine hK.out _ _ hSv1 ?_
  clear hK K
  refine wpAnyH_one (i := 3) (by kernel_rfl) rfl (fun K hK => ?_)
  simp only [nrm]
  go_simp
  (with_reducible refine (HH.out _).mono ?_)
  rintro e v2 ⟨rfl, hb2⟩
  have hSv2 : Bx v2 w.heap.size 46 #[.int .u8 (x.op : Nat), .int .u8 (x.client : Nat), V64 x.number, .int .u8 (x.p.a.fam : Nat), V64 x.p.a.hi, V64 x.p.a.lo, .int .i64 x.p.bits, .int .u8 (x.a.fam : Nat), V64 x.a.hi, V64 x.a.lo, S x.owner, S x.to, V64 x.d, V64 x.fr, .int .i64 x.n] ∧ Bx v2 (w.heap.size + 1) 62 #[.int .u8 (a.a.fam : Nat), V64 a.a.hi, V64 a.a.lo, .int .u8 0, .int .u64 0, .int .u64 0, S a.owner, V64 a.til, .int .u8 (a.pool.a.fam : Nat), V64 a.pool.a.hi, V64 a.pool.a.lo, .int .i64 a.pool.bits, .bool a.has, .bool a.held, .bool a.live, V64 a.clock, .slice r a.rows.length rc, .slice v a.events.length vc, .slice p a.pools.length pc] ∧ Below w.heap.size w v2 := ⟨hSv1.1.up hb2, hSv1.2.1.up hb2, Chain.up hSv1.2.2 hb2⟩
  refine hK.out _ _ hSv2 ?_
  clear hK K
  refine wpAnyH_take (i := 4) (v := ?_) rfl (by kernel_rfl) (by kernel_rfl) (by kernel_rfl) (fun _ _ _ h => h) (Or.inl ⟨by rfl, ?_⟩) hSv2 ?_
  rotate_left
  · intro wq hSw; go_simp; (try with_reducible rfl)
  simp only [Act.put, nrm]
  refine wpAnyH_take (i := 5) (v := ?_) rfl (by kernel_rfl) (by kernel_rfl) (by kernel_rfl) (fun _ _ _ h => h) (Or.inl ⟨by rfl, ?_⟩) hSv2 ?_
  rotate_left
  · intro wq hSw; go_simp; (try with_reducible rfl)
  simp only [Act.put, nrm]
  refine wpAnyH_done (by kernel_rfl) ?_ _
  clear h1 h2 hA hHeld hSv1 hb1 hb2 HE HH
  have hC := hSv2.1
  have hB := hSv2.2.1
  have hA := hSv2.2.2
  have hlt := hB.lt
  clear hSv2
  have q0 : v2.cell? ⟨w.heap.size, 0, none⟩ = some (.int .u8 (x.op : Nat)) := hC.cell 0
  obtain ⟨c0, c1, c2, c3, c4, c5, c6, c7, c8, c9, c10, c11, c12, c13, c14, c15, c16, c17, c18⟩ := hB.cells19
  go_wp2_with (go_at_call 47; (with_reducible refine (HR.out _).mono ?_); rintro e v3 ⟨rfl, hb3⟩; have hA3 := Chain.up hA hb3)
  go_ret
  exact ⟨by rw [← Hres.out]; first | rfl | (simp only [k1, k2]; rfl) | (simp [k1, k2]; done), hA3⟩
set_option maxRecDepth 100000 in
set_option maxHeartbeats 4000000 in
theorem refTell_other (x : P.Ca) (a : P.An) (r : Option Addr) (rc : Nat) (v : Option Addr) (vc : Nat) (p : Option Addr) (pc : Nat) (hop1 : x.op < 256) (hcl : x.client < 256) (hnu : x.number < 18446744073709551616) (ht : P.tyAn a) (ho : a.owner.length ≤ 20000) (hop : ¬ (5 ≤ x.op ∧ x.op ≤ 7) ∧ ¬ (10 ≤ x.op ∧ x.op ≤ 15)) (w : World) : Calls Tryd.prog 22 #[caV x, raV a r rc v vc p pc, .int .i64 0] w fun e' w' => e' = .returned (S (P.tellB x.op x.client x.number a 0)) ∧ Below w.heap.size w w' := by
  obtain ⟨h1, h2, hA⟩ := two_bx w #[.int .u8 (x.op : Nat), .int .u8 (x.client : Nat), V64 x.number, .int .u8 (x.p.a.fam : Nat), V64 x.p.a.hi, V64 x.p.a.lo, .int .i64 x.p.bits, .int .u8 (x.a.fam : Nat), V64 x.a.hi, V64 x.a.lo, S x.owner, S x.to, V64 x.d, V64 x.fr, .int .i64 x.n] #[.int .u8 (a.a.fam : Nat), V64 a.a.hi, V64 a.a.lo, .int .u8 0, .int .u64 0, .int .u64 0, S a.owner, V64 a.til, .int .u8 (a.pool.a.fam : Nat), V64 a.pool.a.hi, V64 a.pool.a.lo, .int .i64 a.pool.bits, .bool a.has, .bool a.held, .bool a.live, V64 a.clock, .slice r a.rows.length rc, .slice v a.events.length vc, .slice p a.pools.length pc] 46 62
  have HE := Lib.hid (fun wx => refOne_any 0 wx)
  have HH := Lib.hid (fun wx => refHead_any x hop1 hcl hnu wx)
  obtain ⟨E1, hE1⟩ : ∃ L, L = [P.byI 0] := ⟨_, rfl⟩
  obtain ⟨L0, hL0⟩ : ∃ L, L = P.headB x.op x.client x.number := ⟨_, rfl⟩
  obtain ⟨L1, hL1⟩ : ∃ L, L = E1 ++ L0 := ⟨_, rfl⟩
  have lE : E1.length = 1 := by rw [hE1]; rfl
  have l0 : L0.length = 10 := by rw [hL0, P.headB_len]
  have l1 : L1.length = 11 := by rw [hL1, List.length_append]; omega
  rw [← hE1] at HE
  rw [← hL0] at HH
  have k1 := str_catD E1 L0
  rw [← hL1] at k1
  have a1 : ¬ 9223372036854775807 < E1.length + L0.length := by omega
  have LE := Lib.hid lE
  have LZ := Lib.hid l0
  have L1n := Lib.hid l1
  have Hres := Lib.hid (show L1 = P.tellB x.op x.client x.number a 0 by rw [hL1, hL0, hE1]; unfold P.tellB P.tailB; rw [if_pos rfl, if_neg hop.1, if_neg (by omega), if_neg (by omega), if_neg (by omega), if_neg (by omega), if_neg (by omega), List.append_nil]; rfl)
  clear hE1 hL0 hL1
  have t5 : ((x.op : Int) == 5) = false := beq_eq_false_iff_ne.2 (by omega)
  have t6 : ((x.op : Int) == 6) = false := beq_eq_false_iff_ne.2 (by omega)
  have t7 : ((x.op : Int) == 7) = false := beq_eq_false_iff_ne.2 (by omega)
  have t10 : ((x.op : Int) == 10) = false := beq_eq_false_iff_ne.2 (by omega)
  have t11 : ((x.op : Int) == 11) = false := beq_eq_false_iff_ne.2 (by omega)
  have t12 : ((x.op : Int) == 12) = false := beq_eq_false_iff_ne.2 (by omega)
  have t13 : ((x.op : Int) == 13) = false := beq_eq_false_iff_ne.2 (by omega)
  have t14 : ((x.op : Int) == 14) = false := beq_eq_false_iff_ne.2 (by omega)
  have t15 : ((x.op : Int) == 15) = false := beq_eq_false_iff_ne.2 (by omega)
  clear hop
  go_enter Tryd.func22, Tryd.ntmps22
  go_upto_region 1 with fail
  generalize hW : (w.alloc (.cells #[.int .u8 (x.op : Nat), .int .u8 (x.client : Nat), V64 x.number, .int .u8 (x.p.a.fam : Nat), V64 x.p.a.hi, V64 x.p.a.lo, .int .i64 x.p.bits, .int .u8 (x.a.fam : Nat), V64 x.a.hi, V64 x.a.lo, S x.owner, S x.to, V64 x.d, V64 x.fr, .int .i64 x.n] 46)).alloc (.cells #[.int .u8 (a.a.fam : Nat), V64 a.a.hi, V64 a.a.lo, .int .u8 0, .int .u64 0, .int .u64 0, S a.owner, V64 a.til, .int .u8 (a.pool.a.fam : Nat), V64 a.pool.a.hi, V64 a.pool.a.lo, .int .i64 a.pool.bits, .bool a.has, .bool a.held, .bool a.live, V64 a.clock, .slice r a.rows.length rc, .slice v a.events.length vc, .slice p a.pools.length pc] 62) = w2 at *
  clear hW lE l0 l1
  refine wp_region_held_drew (S := fun wx => Bx wx w.heap.size 46 #[.int .u8 (x.op : Nat), .int .u8 (x.client : Nat), V64 x.number, .int .u8 (x.p.a.fam : Nat), V64 x.p.a.hi, V64 x.p.a.lo, .int .i64 x.p.bits, .int .u8 (x.a.fam : Nat), V64 x.a.hi, V64 x.a.lo, S x.owner, S x.to, V64 x.d, V64 x.fr, .int .i64 x.n] ∧ Bx wx (w.heap.size + 1) 62 #[.int .u8 (a.a.fam : Nat), V64 a.a.hi, V64 a.a.lo, .int .u8 0, .int .u64 0, .int .u64 0, S a.owner, V64 a.til, .int .u8 (a.pool.a.fam : Nat), V64 a.pool.a.hi, V64 a.pool.a.lo, .int .i64 a.pool.bits, .bool a.has, .bool a.held, .bool a.live, V64 a.clock, .slice r a.rows.length rc, .slice v a.events.length vc, .slice p a.pools.length pc] ∧ Below w.heap.size w wx) (by kernel_rfl) ⟨h1.drew, h2.drew, hA.drew⟩ (fun hHeld => ?_)
  refine wpAnyH_take (i := 0) (v := ?_) rfl (by kernel_rfl) (by kernel_rfl) (by kernel_rfl) (fun _ _ _ h => h) (Or.inl ⟨by rfl, ?_⟩) hHeld ?_
  rotate_left
  · intro wq hSw; go_simp; (try with_reducible rfl)
  simp only [Act.put, nrm]
  refine wpAnyH_take (i := 2) (v := .agg #[.int .u8 (x.op : Nat), .int .u8 (x.client : Nat), V64 x.number, .int .u8 (x.p.a.fam : Nat), V64 x.p.a.hi, V64 x.p.a.lo, .int .i64 x.p.bits, .int .u8 (x.a.fam : Nat), V64 x.a.hi, V64 x.a.lo, S x.owner, S x.to, V64 x.d, V64 x.fr, .int .i64 x.n]) rfl (by kernel_rfl) (by kernel_rfl) (by kernel_rfl) (fun _ _ _ h => h) (yieldsB (by rfl) _ _ (by rfl) (by rfl) (fun wx h => h.1) structRC 15 infoRC (by rfl)) hHeld ?_
  simp only [Act.put, nrm]
  refine wpAnyH_one (i := 1) (by kernel_rfl) rfl (fun K hK => ?_)
  simp only [nrm]
  go_simp
  (with_reducible refine (HE.out _).mono ?_)
  rintro e v1 ⟨rfl, hb1⟩
  have hSv1 : Bx v1 w.heap.size 46 #[.int .u8 (x.op : Nat), .int .u8 (x.client : Nat), V64 x.number, .int .u8 (x.p.a.fam : Nat), V64 x.p.a.hi, V64 x.p.a.lo, .int .i64 x.p.bits, .int .u8 (x.a.fam : Nat), V64 x.a.hi, V64 x.a.lo, S x.owner, S x.to, V64 x.d, V64 x.fr, .int .i64 x.n] ∧ Bx v1 (w.heap.size + 1) 62 #[.int .u8 (a.a.fam : Nat), V64 a.a.hi, V64 a.a.lo, .int .u8 0, .int .u64 0, .int .u64 0, S a.owner, V64 a.til, .int .u8 (a.pool.a.fam : Nat), V64 a.pool.a.hi, V64 a.pool.a.lo, .int .i64 a.pool.bits, .bool a.has, .bool a.held, .bool a.live, V64 a.clock, .slice r a.rows.length rc, .slice v a.events.length vc, .slice p a.pools.length pc] ∧ Below w.heap.size w v1 := ⟨hHeld.1.up hb1, hHeld.2.1.up hb1, Chain.up hHeld.2.2 hb1⟩
  refine hK.out _ _ hSv1 ?_
  clear hK K
  refine wpAnyH_one (i := 3) (by kernel_rfl) rfl (fun K hK => ?_)
  simp only [nrm]
  go_simp
  (with_reducible refine (HH.out _).mono ?_)
  rintro e v2 ⟨rfl, hb2⟩
  have hSv2 : Bx v2 w.heap.size 46 #[.int .u8 (x.op : Nat), .int .u8 (x.client : Nat), V64 x.number, .int .u8 (x.p.a.fam : Nat), V64 x.p.a.hi, V64 x.p.a.lo, .int .i64 x.p.bits, .int .u8 (x.a.fam : Nat), V64 x.a.hi, V64 x.a.lo, S x.owner, S x.to, V64 x.d, V64 x.fr, .int .i64 x.n] ∧ Bx v2 (w.heap.size + 1) 62 #[.int .u8 (a.a.fam : Nat), V64 a.a.hi, V64 a.a.lo, .int .u8 0, .int .u64 0, .int .u64 0, S a.owner, V64 a.til, .int .u8 (a.pool.a.fam : Nat), V64 a.pool.a.hi, V64 a.pool.a.lo, .int .i64 a.pool.bits, .bool a.has, .bool a.held, .bool a.live, V64 a.clock, .slice r a.rows.length rc, .slice v a.events.length vc, .slice p a.pools.length pc] ∧ Below w.heap.size w v2 := ⟨hSv1.1.up hb2, hSv1.2.1.up hb2, Chain.up hSv1.2.2 hb2⟩
  refine hK.out _ _ hSv2 ?_
  clear hK K
  refine wpAnyH_take (i := 4) (v := ?_) rfl (by kernel_rfl) (by kernel_rfl) (by kernel_rfl) (fun _ _ _ h => h) (Or.inl ⟨by rfl, ?_⟩) hSv2 ?_
  rotate_left
  · intro wq hSw; go_simp; (try with_reducible rfl)
  simp only [Act.put, nrm]
  refine wpAnyH_take (i := 5) (v := ?_) rfl (by kernel_rfl) (by kernel_rfl) (by kernel_rfl) (fun _ _ _ h => h) (Or.inl ⟨by rfl, ?_⟩) hSv2 ?_
  rotate_left
  · intro wq hSw; go_simp; (try with_reducible rfl)
  simp only [Act.put, nrm]
  refine wpAnyH_done (by kernel_rfl) ?_ _
  clear h1 h2 hA hHeld hSv1 hb1 hb2 HE HH
  have hC := hSv2.1
  have hB := hSv2.2.1
  have hA := hSv2.2.2
  have hlt := hB.lt
  clear hSv2
  have q0 : v2.cell? ⟨w.heap.size, 0, none⟩ = some (.int .u8 (x.op : Nat)) := hC.cell 0
  obtain ⟨c0, c1, c2, c3, c4, c5, c6, c7, c8, c9, c10, c11, c12, c13, c14, c15, c16, c17, c18⟩ := hB.cells19
  go_wp2_with fail
  go_ret
  exact ⟨by rw [← Hres.out]; first | rfl | (simp only [k1]; rfl) | (simp [k1]; done), hA⟩
set_option maxRecDepth 100000 in
set_option maxHeartbeats 4000000 in
theorem refTell_10 (x : P.Ca) (a : P.An) (r : Option Addr) (rc : Nat) (v : Option Addr) (vc : Nat) (p : Option Addr) (pc : Nat) (hop1 : x.op < 256) (hcl : x.client < 256) (hnu : x.number < 18446744073709551616) (ht : P.tyAn a) (ho : a.owner.length ≤ 20000) (hop : x.op = 10) (w : World) : Calls Tryd.prog 22 #[caV x, raV a r rc v vc p pc, .int .i64 0] w fun e' w' => e' = .returned (S (P.tellB x.op x.client x.number a 0)) ∧ Below w.heap.size w w' := by
  obtain ⟨h1, h2, hA⟩ := two_bx w #[.int .u8 (x.op : Nat), .int .u8 (x.client : Nat), V64 x.number, .int .u8 (x.p.a.fam : Nat), V64 x.p.a.hi, V64 x.p.a.lo, .int .i64 x.p.bits, .int .u8 (x.a.fam : Nat), V64 x.a.hi, V64 x.a.lo, S x.owner, S x.to, V64 x.d, V64 x.fr, .int .i64 x.n] #[.int .u8 (a.a.fam : Nat), V64 a.a.hi, V64 a.a.lo, .int .u8 0, .int .u64 0, .int .u64 0, S a.owner, V64 a.til, .int .u8 (a.pool.a.fam : Nat), V64 a.pool.a.hi, V64 a.pool.a.lo, .int .i64 a.pool.bits, .bool a.has, .bool a.held, .bool a.live, V64 a.clock, .slice r a.rows.length rc, .slice v a.events.length vc, .slice p a.pools.length pc] 46 62
  have HE := Lib.hid (fun wx => refOne_any 0 wx)
  have HH := Lib.hid (fun wx => refHead_any x hop1 hcl hnu wx)
  obtain ⟨E1, hE1⟩ : ∃ L, L = [P.byI 0] := ⟨_, rfl⟩
  obtain ⟨L0, hL0⟩ : ∃ L, L = P.headB x.op x.client x.number := ⟨_, rfl⟩
  obtain ⟨L1, hL1⟩ : ∃ L, L = E1 ++ L0 := ⟨_, rfl⟩
  have lE : E1.length = 1 := by rw [hE1]; rfl
  have l0 : L0.length = 10 := by rw [hL0, P.headB_len]
  have l1 : L1.length = 11 := by rw [hL1, List.length_append]; omega
  rw [← hE1] at HE
  rw [← hL0] at HH
  have k1 := str_catD E1 L0
  rw [← hL1] at k1
  have a1 : ¬ 9223372036854775807 < E1.length + L0.length := by omega
  have LE := Lib.hid lE
  have LZ := Lib.hid l0
  have L1n := Lib.hid l1
  have HR := Lib.hid (fun wx => refLook_any a r rc v vc p pc ht ho wx)
  obtain ⟨T1, hT1⟩ : ∃ T, T = P.lkB a := ⟨_, rfl⟩
  have lT : T1.length ≤ 20100 := by
    rw [hT1]
    have h1 := P.pxX_le a.pool
    have h2 := P.leB_le2 a.owner a.til ho
    unfold P.lkB
    rw [List.length_cons, List.length_append]
    split <;> split <;> simp <;> omega
  rw [← hT1] at HR
  obtain ⟨L2, hL2⟩ : ∃ L, L = L1 ++ T1 := ⟨_, rfl⟩
  have k2 := str_catD L1 T1
  rw [← hL2] at k2
  have a2 : ¬ 9223372036854775807 < L1.length + T1.length := by omega
  have Hres := Lib.hid (show L2 = P.tellB x.op x.client x.number a 0 by rw [hL2, hL1, hL0, hE1, hT1]; unfold P.tellB P.tailB; rw [hop]; simp)
  clear hE1 hL0 hL1 hL2 hT1
  have t5 : ((x.op : Int) == 5) = false := beq_eq_false_iff_ne.2 (by omega)
  have t6 : ((x.op : Int) == 6) = false := beq_eq_false_iff_ne.2 (by omega)
  have t7 : ((x.op : Int) == 7) = false := beq_eq_false_iff_ne.2 (by omega)
  have t10 : ((x.op : Int) == 10) = true := beq_iff_eq.2 (by omega)
  clear hop
  go_enter Tryd.func22, Tryd.ntmps22
  go_upto_region 1 with fail
  generalize hW : (w.alloc (.cells #[.int .u8 (x.op : Nat), .int .u8 (x.client : Nat), V64 x.number, .int .u8 (x.p.a.fam : Nat), V64 x.p.a.hi, V64 x.p.a.lo, .int .i64 x.p.bits, .int .u8 (x.a.fam : Nat), V64 x.a.hi, V64 x.a.lo, S x.owner, S x.to, V64 x.d, V64 x.fr, .int .i64 x.n] 46)).alloc (.cells #[.int .u8 (a.a.fam : Nat), V64 a.a.hi, V64 a.a.lo, .int .u8 0, .int .u64 0, .int .u64 0, S a.owner, V64 a.til, .int .u8 (a.pool.a.fam : Nat), V64 a.pool.a.hi, V64 a.pool.a.lo, .int .i64 a.pool.bits, .bool a.has, .bool a.held, .bool a.live, V64 a.clock, .slice r a.rows.length rc, .slice v a.events.length vc, .slice p a.pools.length pc] 62) = w2 at *
  clear hW lE l0 l1
  refine wp_region_held_drew (S := fun wx => Bx wx w.heap.size 46 #[.int .u8 (x.op : Nat), .int .u8 (x.client : Nat), V64 x.number, .int .u8 (x.p.a.fam : Nat), V64 x.p.a.hi, V64 x.p.a.lo, .int .i64 x.p.bits, .int .u8 (x.a.fam : Nat), V64 x.a.hi, V64 x.a.lo, S x.owner, S x.to, V64 x.d, V64 x.fr, .int .i64 x.n] ∧ Bx wx (w.heap.size + 1) 62 #[.int .u8 (a.a.fam : Nat), V64 a.a.hi, V64 a.a.lo, .int .u8 0, .int .u64 0, .int .u64 0, S a.owner, V64 a.til, .int .u8 (a.pool.a.fam : Nat), V64 a.pool.a.hi, V64 a.pool.a.lo, .int .i64 a.pool.bits, .bool a.has, .bool a.held, .bool a.live, V64 a.clock, .slice r a.rows.length rc, .slice v a.events.length vc, .slice p a.pools.length pc] ∧ Below w.heap.size w wx) (by kernel_rfl) ⟨h1.drew, h2.drew, hA.drew⟩ (fun hHeld => ?_)
  refine wpAnyH_take (i := 0) (v := ?_) rfl (by kernel_rfl) (by kernel_rfl) (by kernel_rfl) (fun _ _ _ h => h) (Or.inl ⟨by rfl, ?_⟩) hHeld ?_
  rotate_left
  · intro wq hSw; go_simp; (try with_reducible rfl)
  simp only [Act.put, nrm]
  refine wpAnyH_take (i := 2) (v := .agg #[.int .u8 (x.op : Nat), .int .u8 (x.client : Nat), V64 x.number, .int .u8 (x.p.a.fam : Nat), V64 x.p.a.hi, V64 x.p.a.lo, .int .i64 x.p.bits, .int .u8 (x.a.fam : Nat), V64 x.a.hi, V64 x.a.lo, S x.owner, S x.to, V64 x.d, V64 x.fr, .int .i64 x.n]) rfl (by kernel_rfl) (by kernel_rfl) (by kernel_rfl) (fun _ _ _ h => h) (yieldsB (by rfl) _ _ (by rfl) (by rfl) (fun wx h => h.1) structRC 15 infoRC (by rfl)) hHeld ?_
  simp only [Act.put, nrm]
  refine wpAnyH_one (i := 1) (by kernel_rfl) rfl (fun K hK => ?_)
  simp only [nrm]
  go_simp
  (with_reducible refine (HE.out _).mono ?_)
  rintro e v1 ⟨rfl, hb1⟩
  have hSv1 : Bx v1 w.heap.size 46 #[.int .u8 (x.op : Nat), .int .u8 (x.client : Nat), V64 x.number, .int .u8 (x.p.a.fam : Nat), V64 x.p.a.hi, V64 x.p.a.lo, .int .i64 x.p.bits, .int .u8 (x.a.fam : Nat), V64 x.a.hi, V64 x.a.lo, S x.owner, S x.to, V64 x.d, V64 x.fr, .int .i64 x.n] ∧ Bx v1 (w.heap.size + 1) 62 #[.int .u8 (a.a.fam : Nat), V64 a.a.hi, V64 a.a.lo, .int .u8 0, .int .u64 0, .int .u64 0, S a.owner, V64 a.til, .int .u8 (a.pool.a.fam : Nat), V64 a.pool.a.hi, V64 a.pool.a.lo, .int .i64 a.pool.bits, .bool a.has, .bool a.held, .bool a.live, V64 a.clock, .slice r a.rows.length rc, .slice v a.events.length vc, .slice p a.pools.length pc] ∧ Below w.heap.size w v1 := ⟨hHeld.1.up hb1, hHeld.2.1.up hb1, Chain.up hHeld.2.2 hb1⟩
  refine hK.out _ _ hSv1 ?_
  clear hK K
  refine wpAnyH_one (i := 3) (by kernel_rfl) rfl (fun K hK => ?_)
  simp only [nrm]
  go_simp
  (with_reducible refine (HH.out _).mono ?_)
  rintro e v2 ⟨rfl, hb2⟩
  have hSv2 : Bx v2 w.heap.size 46 #[.int .u8 (x.op : Nat), .int .u8 (x.client : Nat), V64 x.number, .int .u8 (x.p.a.fam : Nat), V64 x.p.a.hi, V64 x.p.a.lo, .int .i64 x.p.bits, .int .u8 (x.a.fam : Nat), V64 x.a.hi, V64 x.a.lo, S x.owner, S x.to, V64 x.d, V64 x.fr, .int .i64 x.n] ∧ Bx v2 (w.heap.size + 1) 62 #[.int .u8 (a.a.fam : Nat), V64 a.a.hi, V64 a.a.lo, .int .u8 0, .int .u64 0, .int .u64 0, S a.owner, V64 a.til, .int .u8 (a.pool.a.fam : Nat), V64 a.pool.a.hi, V64 a.pool.a.lo, .int .i64 a.pool.bits, .bool a.has, .bool a.held, .bool a.live, V64 a.clock, .slice r a.rows.length rc, .slice v a.events.length vc, .slice p a.pools.length pc] ∧ Below w.heap.size w v2 := ⟨hSv1.1.up hb2, hSv1.2.1.up hb2, Chain.up hSv1.2.2 hb2⟩
  refine hK.out _ _ hSv2 ?_
  clear hK K
  refine wpAnyH_take (i := 4) (v := ?_) rfl (by kernel_rfl) (by kernel_rfl) (by kernel_rfl) (fun _ _ _ h => h) (Or.inl ⟨by rfl, ?_⟩) hSv2 ?_
  rotate_left
  · intro wq hSw; go_simp; (try with_reducible rfl)
  simp only [Act.put, nrm]
  refine wpAnyH_take (i := 5) (v := ?_) rfl (by kernel_rfl) (by kernel_rfl) (by kernel_rfl) (fun _ _ _ h => h) (Or.inl ⟨by rfl, ?_⟩) hSv2 ?_
  rotate_left
  · intro wq hSw; go_simp; (try with_reducible rfl)
  simp only [Act.put, nrm]
  refine wpAnyH_done (by kernel_rfl) ?_ _
  clear h1 h2 hA hHeld hSv1 hb1 hb2 HE HH
  have hC := hSv2.1
  have hB := hSv2.2.1
  have hA := hSv2.2.2
  have hlt := hB.lt
  clear hSv2
  have q0 : v2.cell? ⟨w.heap.size, 0, none⟩ = some (.int .u8 (x.op : Nat)) := hC.cell 0
  go_wp2_with (first
    | (refine wpList_ldB (by rfl) _ _ (by rfl) hB (by rfl) structRAn 19 infoRAn (by rfl) ?_)
    | (go_at_call 66; (with_reducible refine (HR.out _).mono ?_); rintro e v3 ⟨rfl, hb3⟩; have hA3 := Chain.up hA hb3))
  go_ret
  exact ⟨by rw [← Hres.out]; first | rfl | (simp only [k1, k2]; rfl) | (simp [k1, k2]; done), hA3⟩
set_option maxRecDepth 100000 in
set_option maxHeartbeats 4000000 in
theorem refTell_5 (x : P.Ca) (a : P.An) (r : Option Addr) (rc : Nat) (v : Option Addr) (vc : Nat) (p : Option Addr) (pc : Nat) (hop1 : x.op < 256) (hcl : x.client < 256) (hnu : x.number < 18446744073709551616) (ht : P.tyAn a) (ho : a.owner.length ≤ 20000) (hop : x.op = 5) (w : World) : Calls Tryd.prog 22 #[caV x, raV a r rc v vc p pc, .int .i64 0] w fun e' w' => e' = .returned (S (P.tellB x.op x.client x.number a 0)) ∧ Below w.heap.size w w' := by
  obtain ⟨h1, h2, hA⟩ := two_bx w #[.int .u8 (x.op : Nat), .int .u8 (x.client : Nat), V64 x.number, .int .u8 (x.p.a.fam : Nat), V64 x.p.a.hi, V64 x.p.a.lo, .int .i64 x.p.bits, .int .u8 (x.a.fam : Nat), V64 x.a.hi, V64 x.a.lo, S x.owner, S x.to, V64 x.d, V64 x.fr, .int .i64 x.n] #[.int .u8 (a.a.fam : Nat), V64 a.a.hi, V64 a.a.lo, .int .u8 0, .int .u64 0, .int .u64 0, S a.owner, V64 a.til, .int .u8 (a.pool.a.fam : Nat), V64 a.pool.a.hi, V64 a.pool.a.lo, .int .i64 a.pool.bits, .bool a.has, .bool a.held, .bool a.live, V64 a.clock, .slice r a.rows.length rc, .slice v a.events.length vc, .slice p a.pools.length pc] 46 62
  have HE := Lib.hid (fun wx => refOne_any 0 wx)
  have HH := Lib.hid (fun wx => refHead_any x hop1 hcl hnu wx)
  obtain ⟨E1, hE1⟩ : ∃ L, L = [P.byI 0] := ⟨_, rfl⟩
  obtain ⟨L0, hL0⟩ : ∃ L, L = P.headB x.op x.client x.number := ⟨_, rfl⟩
  obtain ⟨L1, hL1⟩ : ∃ L, L = E1 ++ L0 := ⟨_, rfl⟩
  have lE : E1.length = 1 := by rw [hE1]; rfl
  have l0 : L0.length = 10 := by rw [hL0, P.headB_len]
  have l1 : L1.length = 11 := by rw [hL1, List.length_append]; omega
  rw [← hE1] at HE
  rw [← hL0] at HH
  have k1 := str_catD E1 L0
  rw [← hL1] at k1
  have a1 : ¬ 9223372036854775807 < E1.length + L0.length := by omega
  have LE := Lib.hid lE
  have LZ := Lib.hid l0
  have L1n := Lib.hid l1
  have HX := Lib.hid (fun wx => refAddress_any a.a ht.1 wx)
  have HY := Lib.hid (fun wx => lease0_any a.owner a.til ho ht.2.1 wx)
  obtain ⟨T1, hT1⟩ : ∃ T, T = P.adX a.a := ⟨_, rfl⟩
  obtain ⟨T2, hT2⟩ : ∃ T, T = P.leB a.owner a.til := ⟨_, rfl⟩
  have lT1 : T1.length ≤ 20 := by rw [hT1]; have := P.adX_le a.a; omega
  have lT2 : T2.length ≤ 20018 := by rw [hT2]; exact P.leB_le2 a.owner a.til ho
  rw [← hT1] at HX
  rw [← hT2] at HY
  obtain ⟨L2, hL2⟩ : ∃ L, L = L1 ++ T1 := ⟨_, rfl⟩
  obtain ⟨L3, hL3⟩ : ∃ L, L = L2 ++ T2 := ⟨_, rfl⟩
  have l2 : L2.length ≤ 40 := by rw [hL2, List.length_append]; omega
  have k2 := str_catD L1 T1
  rw [← hL2] at k2
  have k3 := str_catD L2 T2
  rw [← hL3] at k3
  have a2 : ¬ 9223372036854775807 < L1.length + T1.length := by omega
  have a3 : ¬ 9223372036854775807 < L2.length + T2.length := by omega
  have Hres := Lib.hid (show L3 = P.tellB x.op x.client x.number a 0 by rw [hL3, hL2, hL1, hL0, hE1, hT1, hT2]; unfold P.tellB P.tailB; rw [hop]; simp)
  clear hE1 hL0 hL1 hL2 hL3 hT1 hT2
  have t5 : ((x.op : Int) == 5) = true := beq_iff_eq.2 (by omega)
  clear hop
  go_enter Tryd.func22, Tryd.ntmps22
  go_upto_region 1 with fail
  generalize hW : (w.alloc (.cells #[.int .u8 (x.op : Nat), .int .u8 (x.client : Nat), V64 x.number, .int .u8 (x.p.a.fam : Nat), V64 x.p.a.hi, V64 x.p.a.lo, .int .i64 x.p.bits, .int .u8 (x.a.fam : Nat), V64 x.a.hi, V64 x.a.lo, S x.owner, S x.to, V64 x.d, V64 x.fr, .int .i64 x.n] 46)).alloc (.cells #[.int .u8 (a.a.fam : Nat), V64 a.a.hi, V64 a.a.lo, .int .u8 0, .int .u64 0, .int .u64 0, S a.owner, V64 a.til, .int .u8 (a.pool.a.fam : Nat), V64 a.pool.a.hi, V64 a.pool.a.lo, .int .i64 a.pool.bits, .bool a.has, .bool a.held, .bool a.live, V64 a.clock, .slice r a.rows.length rc, .slice v a.events.length vc, .slice p a.pools.length pc] 62) = w2 at *
  clear hW lE l0 l1
  refine wp_region_held_drew (S := fun wx => Bx wx w.heap.size 46 #[.int .u8 (x.op : Nat), .int .u8 (x.client : Nat), V64 x.number, .int .u8 (x.p.a.fam : Nat), V64 x.p.a.hi, V64 x.p.a.lo, .int .i64 x.p.bits, .int .u8 (x.a.fam : Nat), V64 x.a.hi, V64 x.a.lo, S x.owner, S x.to, V64 x.d, V64 x.fr, .int .i64 x.n] ∧ Bx wx (w.heap.size + 1) 62 #[.int .u8 (a.a.fam : Nat), V64 a.a.hi, V64 a.a.lo, .int .u8 0, .int .u64 0, .int .u64 0, S a.owner, V64 a.til, .int .u8 (a.pool.a.fam : Nat), V64 a.pool.a.hi, V64 a.pool.a.lo, .int .i64 a.pool.bits, .bool a.has, .bool a.held, .bool a.live, V64 a.clock, .slice r a.rows.length rc, .slice v a.events.length vc, .slice p a.pools.length pc] ∧ Below w.heap.size w wx) (by kernel_rfl) ⟨h1.drew, h2.drew, hA.drew⟩ (fun hHeld => ?_)
  refine wpAnyH_take (i := 0) (v := ?_) rfl (by kernel_rfl) (by kernel_rfl) (by kernel_rfl) (fun _ _ _ h => h) (Or.inl ⟨by rfl, ?_⟩) hHeld ?_
  rotate_left
  · intro wq hSw; go_simp; (try with_reducible rfl)
  simp only [Act.put, nrm]
  refine wpAnyH_take (i := 2) (v := .agg #[.int .u8 (x.op : Nat), .int .u8 (x.client : Nat), V64 x.number, .int .u8 (x.p.a.fam : Nat), V64 x.p.a.hi, V64 x.p.a.lo, .int .i64 x.p.bits, .int .u8 (x.a.fam : Nat), V64 x.a.hi, V64 x.a.lo, S x.owner, S x.to, V64 x.d, V64 x.fr, .int .i64 x.n]) rfl (by kernel_rfl) (by kernel_rfl) (by kernel_rfl) (fun _ _ _ h => h) (yieldsB (by rfl) _ _ (by rfl) (by rfl) (fun wx h => h.1) structRC 15 infoRC (by rfl)) hHeld ?_
  simp only [Act.put, nrm]
  refine wpAnyH_one (i := 1) (by kernel_rfl) rfl (fun K hK => ?_)
  simp only [nrm]
  go_simp
  (with_reducible refine (HE.out _).mono ?_)
  rintro e v1 ⟨rfl, hb1⟩
  have hSv1 : Bx v1 w.heap.size 46 #[.int .u8 (x.op : Nat), .int .u8 (x.client : Nat), V64 x.number, .int .u8 (x.p.a.fam : Nat), V64 x.p.a.hi, V64 x.p.a.lo, .int .i64 x.p.bits, .int .u8 (x.a.fam : Nat), V64 x.a.hi, V64 x.a.lo, S x.owner, S x.to, V64 x.d, V64 x.fr, .int .i64 x.n] ∧ Bx v1 (w.heap.size + 1) 62 #[.int .u8 (a.a.fam : Nat), V64 a.a.hi, V64 a.a.lo, .int .u8 0, .int .u64 0, .int .u64 0, S a.owner, V64 a.til, .int .u8 (a.pool.a.fam : Nat), V64 a.pool.a.hi, V64 a.pool.a.lo, .int .i64 a.pool.bits, .bool a.has, .bool a.held, .bool a.live, V64 a.clock, .slice r a.rows.length rc, .slice v a.events.length vc, .slice p a.pools.length pc] ∧ Below w.heap.size w v1 := ⟨hHeld.1.up hb1, hHeld.2.1.up hb1, Chain.up hHeld.2.2 hb1⟩
  refine hK.out _ _ hSv1 ?_
  clear hK K
  refine wpAnyH_one (i := 3) (by kernel_rfl) rfl (fun K hK => ?_)
  simp only [nrm]
  go_simp
  (with_reducible refine (HH.out _).mono ?_)
  rintro e v2 ⟨rfl, hb2⟩
  have hSv2 : Bx v2 w.heap.size 46 #[.int .u8 (x.op : Nat), .int .u8 (x.client : Nat), V64 x.number, .int .u8 (x.p.a.fam : Nat), V64 x.p.a.hi, V64 x.p.a.lo, .int .i64 x.p.bits, .int .u8 (x.a.fam : Nat), V64 x.a.hi, V64 x.a.lo, S x.owner, S x.to, V64 x.d, V64 x.fr, .int .i64 x.n] ∧ Bx v2 (w.heap.size + 1) 62 #[.int .u8 (a.a.fam : Nat), V64 a.a.hi, V64 a.a.lo, .int .u8 0, .int .u64 0, .int .u64 0, S a.owner, V64 a.til, .int .u8 (a.pool.a.fam : Nat), V64 a.pool.a.hi, V64 a.pool.a.lo, .int .i64 a.pool.bits, .bool a.has, .bool a.held, .bool a.live, V64 a.clock, .slice r a.rows.length rc, .slice v a.events.length vc, .slice p a.pools.length pc] ∧ Below w.heap.size w v2 := ⟨hSv1.1.up hb2, hSv1.2.1.up hb2, Chain.up hSv1.2.2 hb2⟩
  refine hK.out _ _ hSv2 ?_
  clear hK K
  refine wpAnyH_take (i := 4) (v := ?_) rfl (by kernel_rfl) (by kernel_rfl) (by kernel_rfl) (fun _ _ _ h => h) (Or.inl ⟨by rfl, ?_⟩) hSv2 ?_
  rotate_left
  · intro wq hSw; go_simp; (try with_reducible rfl)
  simp only [Act.put, nrm]
  refine wpAnyH_take (i := 5) (v := ?_) rfl (by kernel_rfl) (by kernel_rfl) (by kernel_rfl) (fun _ _ _ h => h) (Or.inl ⟨by rfl, ?_⟩) hSv2 ?_
  rotate_left
  · intro wq hSw; go_simp; (try with_reducible rfl)
  simp only [Act.put, nrm]
  refine wpAnyH_done (by kernel_rfl) ?_ _
  clear h1 h2 hA hHeld hSv1 hb1 hb2 HE HH
  have hC := hSv2.1
  have hB := hSv2.2.1
  have hA := hSv2.2.2
  have hlt := hB.lt
  clear hSv2
  have q0 : v2.cell? ⟨w.heap.size, 0, none⟩ = some (.int .u8 (x.op : Nat)) := hC.cell 0
  obtain ⟨c0, c1, c2, c3, c4, c5, c6, c7, c8, c9, c10, c11, c12, c13, c14, c15, c16, c17, c18⟩ := hB.cells19
  go_upto_region 8 with fail
  refine wp_region_held_drew (S := fun wx => Bx wx w.heap.size 46 #[.int .u8 (x.op : Nat), .int .u8 (x.client : Nat), V64 x.number, .int .u8 (x.p.a.fam : Nat), V64 x.p.a.hi, V64 x.p.a.lo, .int .i64 x.p.bits, .int .u8 (x.a.fam : Nat), V64 x.a.hi, V64 x.a.lo, S x.owner, S x.to, V64 x.d, V64 x.fr, .int .i64 x.n] ∧ Bx wx (w.heap.size + 1) 62 #[.int .u8 (a.a.fam : Nat), V64 a.a.hi, V64 a.a.lo, .int .u8 0, .int .u64 0, .int .u64 0, S a.owner, V64 a.til, .int .u8 (a.pool.a.fam : Nat), V64 a.pool.a.hi, V64 a.pool.a.lo, .int .i64 a.pool.bits, .bool a.has, .bool a.held, .bool a.live, V64 a.clock, .slice r a.rows.length rc, .slice v a.events.length vc, .slice p a.pools.length pc] ∧ Below w.heap.size w wx) (by kernel_rfl) ⟨hC.drew, hB.drew, hA.drew⟩ (fun hHeld => ?_)
  refine wpAnyH_take (i := 0) (v := ?_) rfl (by kernel_rfl) (by kernel_rfl) (by kernel_rfl) (fun _ _ _ h => h) (Or.inl ⟨by rfl, ?_⟩) hHeld ?_
  rotate_left
  · intro wq hSw; go_simp; (try with_reducible rfl)
  simp only [Act.put, nrm]
  refine wpAnyH_take (i := 1) (v := ?_) rfl (by kernel_rfl) (by kernel_rfl) (by kernel_rfl) (fun _ _ _ h => h) (Or.inl ⟨by rfl, ?_⟩) hHeld ?_
  rotate_left
  · intro wq hSw; go_simp; (try with_reducible rfl)
  simp only [Act.put, nrm]
  refine wpAnyH_take (i := 2) (v := ?_) rfl (by kernel_rfl) (by kernel_rfl) (by kernel_rfl) (fun _ _ _ h => h) (Or.inl ⟨by rfl, ?_⟩) hHeld ?_
  rotate_left
  · intro wq hSw; obtain ⟨d0, d1, d2, d3, d4, d5, d6, d7, d8, d9, d10, d11, d12, d13, d14, d15, d16, d17, d18⟩ := hSw.2.1.cells19; go_simp; (try with_reducible rfl)
  simp only [Act.put, nrm]
  refine wpAnyH_take (i := 5) (v := ?_) rfl (by kernel_rfl) (by kernel_rfl) (by kernel_rfl) (fun _ _ _ h => h) (Or.inl ⟨by rfl, ?_⟩) hHeld ?_
  rotate_left
  · intro wq hSw; go_simp; (try with_reducible rfl)
  simp only [Act.put, nrm]
  refine wpAnyH_take (i := 6) (v := ?_) rfl (by kernel_rfl) (by kernel_rfl) (by kernel_rfl) (fun _ _ _ h => h) (Or.inl ⟨by rfl, ?_⟩) hHeld ?_
  rotate_left
  · intro wq hSw; obtain ⟨d0, d1, d2, d3, d4, d5, d6, d7, d8, d9, d10, d11, d12, d13, d14, d15, d16, d17, d18⟩ := hSw.2.1.cells19; go_simp; (try with_reducible rfl)
  simp only [Act.put, nrm]
  refine wpAnyH_one (i := 3) (by kernel_rfl) rfl (fun K hK => ?_)
  simp only [nrm]
  go_simp
  (with_reducible refine (HX.out _).mono ?_)
  rintro e v3 ⟨rfl, hb3⟩
  have hSv3 : Bx v3 w.heap.size 46 #[.int .u8 (x.op : Nat), .int .u8 (x.client : Nat), V64 x.number, .int .u8 (x.p.a.fam : Nat), V64 x.p.a.hi, V64 x.p.a.lo, .int .i64 x.p.bits, .int .u8 (x.a.fam : Nat), V64 x.a.hi, V64 x.a.lo, S x.owner, S x.to, V64 x.d, V64 x.fr, .int .i64 x.n] ∧ Bx v3 (w.heap.size + 1) 62 #[.int .u8 (a.a.fam : Nat), V64 a.a.hi, V64 a.a.lo, .int .u8 0, .int .u64 0, .int .u64 0, S a.owner, V64 a.til, .int .u8 (a.pool.a.fam : Nat), V64 a.pool.a.hi, V64 a.pool.a.lo, .int .i64 a.pool.bits, .bool a.has, .bool a.held, .bool a.live, V64 a.clock, .slice r a.rows.length rc, .slice v a.events.length vc, .slice p a.pools.length pc] ∧ Below w.heap.size w v3 := ⟨hHeld.1.up hb3, hHeld.2.1.up hb3, Chain.up hHeld.2.2 hb3⟩
  refine hK.out _ _ hSv3 ?_
  clear hK K
  refine wpAnyH_take (i := 4) (v := ?_) rfl (by kernel_rfl) (by kernel_rfl) (by kernel_rfl) (fun _ _ _ h => h) (Or.inl ⟨by rfl, ?_⟩) hSv3 ?_
  rotate_left
  · intro wq hSw; go_simp; (try with_reducible rfl)
  simp only [Act.put, nrm]
  refine wpAnyH_one (i := 7) (by kernel_rfl) rfl (fun K hK => ?_)
  simp only [nrm]
  go_simp
  (with_reducible refine (HY.out _).mono ?_)
  rintro e v4 ⟨rfl, hb4⟩
  have hSv4 : Bx v4 w.heap.size 46 #[.int .u8 (x.op : Nat), .int .u8 (x.client : Nat), V64 x.number, .int .u8 (x.p.a.fam : Nat), V64 x.p.a.hi, V64 x.p.a.lo, .int .i64 x.p.bits, .int .u8 (x.a.fam : Nat), V64 x.a.hi, V64 x.a.lo, S x.owner, S x.to, V64 x.d, V64 x.fr, .int .i64 x.n] ∧ Bx v4 (w.heap.size + 1) 62 #[.int .u8 (a.a.fam : Nat), V64 a.a.hi, V64 a.a.lo, .int .u8 0, .int .u64 0, .int .u64 0, S a.owner, V64 a.til, .int .u8 (a.pool.a.fam : Nat), V64 a.pool.a.hi, V64 a.pool.a.lo, .int .i64 a.pool.bits, .bool a.has, .bool a.held, .bool a.live, V64 a.clock, .slice r a.rows.length rc, .slice v a.events.length vc, .slice p a.pools.length pc] ∧ Below w.heap.size w v4 := ⟨hSv3.1.up hb4, hSv3.2.1.up hb4, Chain.up hSv3.2.2 hb4⟩
  refine hK.out _ _ hSv4 ?_
  clear hK K
  refine wpAnyH_take (i := 8) (v := ?_) rfl (by kernel_rfl) (by kernel_rfl) (by kernel_rfl) (fun _ _ _ h => h) (Or.inl ⟨by rfl, ?_⟩) hSv4 ?_
  rotate_left
  · intro wq hSw; go_simp; (try with_reducible rfl)
  simp only [Act.put, nrm]
  refine wpAnyH_take (i := 9) (v := ?_) rfl (by kernel_rfl) (by kernel_rfl) (by kernel_rfl) (fun _ _ _ h => h) (Or.inl ⟨by rfl, ?_⟩) hSv4 ?_
  rotate_left
  · intro wq hSw; go_simp; (try with_reducible rfl)
  simp only [Act.put, nrm]
  refine wpAnyH_done (by kernel_rfl) ?_ _
  go_wp2_with fail
  go_ret
  exact ⟨by rw [← Hres.out]; first | rfl | (simp only [k1, k2, k3]; rfl) | (simp [k1, k2, k3]; done), hSv4.2.2⟩
set_option maxRecDepth 100000 in
set_option maxHeartbeats 4000000 in
theorem refTell_6 (x : P.Ca) (a : P.An) (r : Option Addr) (rc : Nat) (v : Option Addr) (vc : Nat) (p : Option Addr) (pc : Nat) (hop1 : x.op < 256) (hcl : x.client < 256) (hnu : x.number < 18446744073709551616) (ht : P.tyAn a) (ho : a.owner.length ≤ 20000) (hop : x.op = 6) (w : World) : Calls Tryd.prog 22 #[caV x, raV a r rc v vc p pc, .int .i64 0] w fun e' w' => e' = .returned (S (P.tellB x.op x.client x.number a 0)) ∧ Below w.heap.size w w' := by
  obtain ⟨h1, h2, hA⟩ := two_bx w #[.int .u8 (x.op : Nat), .int .u8 (x.client : Nat), V64 x.number, .int .u8 (x.p.a.fam : Nat), V64 x.p.a.hi, V64 x.p.a.lo, .int .i64 x.p.bits, .int .u8 (x.a.fam : Nat), V64 x.a.hi, V64 x.a.lo, S x.owner, S x.to, V64 x.d, V64 x.fr, .int .i64 x.n] #[.int .u8 (a.a.fam : Nat), V64 a.a.hi, V64 a.a.lo, .int .u8 0, .int .u64 0, .int .u64 0, S a.owner, V64 a.til, .int .u8 (a.pool.a.fam : Nat), V64 a.pool.a.hi, V64 a.pool.a.lo, .int .i64 a.pool.bits, .bool a.has, .bool a.held, .bool a.live, V64 a.clock, .slice r a.rows.length rc, .slice v a.events.length vc, .slice p a.pools.length pc] 46 62
  have HE := Lib.hid (fun wx => refOne_any 0 wx)
  have HH := Lib.hid (fun wx => refHead_any x hop1 hcl hnu wx)
  obtain ⟨E1, hE1⟩ : ∃ L, L = [P.byI 0] := ⟨_, rfl⟩
  obtain ⟨L0, hL0⟩ : ∃ L, L = P.headB x.op x.client x.number := ⟨_, rfl⟩
  obtain ⟨L1, hL1⟩ : ∃ L, L = E1 ++ L0 := ⟨_, rfl⟩
  have lE : E1.length = 1 := by rw [hE1]; rfl
  have l0 : L0.length = 10 := by rw [hL0, P.headB_len]
  have l1 : L1.length = 11 := by rw [hL1, List.length_append]; omega
  rw [← hE1] at HE
  rw [← hL0] at HH
  have k1 := str_catD E1 L0
  rw [← hL1] at k1
  have a1 : ¬ 9223372036854775807 < E1.length + L0.length := by omega
  have LE := Lib.hid lE
  have LZ := Lib.hid l0
  have L1n := Lib.hid l1
  have HX := Lib.hid (fun wx => refAddress_any a.a ht.1 wx)
  have HY := Lib.hid (fun wx => lease0_any a.owner a.til ho ht.2.1 wx)
  obtain ⟨T1, hT1⟩ : ∃ T, T = P.adX a.a := ⟨_, rfl⟩
  obtain ⟨T2, hT2⟩ : ∃ T, T = P.leB a.owner a.til := ⟨_, rfl⟩
  have lT1 : T1.length ≤ 20 := by rw [hT1]; have := P.adX_le a.a; omega
  have lT2 : T2.length ≤ 20018 := by rw [hT2]; exact P.leB_le2 a.owner a.til ho
  rw [← hT1] at HX
  rw [← hT2] at HY
  obtain ⟨L2, hL2⟩ : ∃ L, L = L1 ++ T1 := ⟨_, rfl⟩
  obtain ⟨L3, hL3⟩ : ∃ L, L = L2 ++ T2 := ⟨_, rfl⟩
  have l2 : L2.length ≤ 40 := by rw [hL2, List.length_append]; omega
  have k2 := str_catD L1 T1
  rw [← hL2] at k2
  have k3 := str_catD L2 T2
  rw [← hL3] at k3
  have a2 : ¬ 9223372036854775807 < L1.length + T1.length := by omega
  have a3 : ¬ 9223372036854775807 < L2.length + T2.length := by omega
  have Hres := Lib.hid (show L3 = P.tellB x.op x.client x.number a 0 by rw [hL3, hL2, hL1, hL0, hE1, hT1, hT2]; unfold P.tellB P.tailB; rw [hop]; simp)
  clear hE1 hL0 hL1 hL2 hL3 hT1 hT2
  have t5 : ((x.op : Int) == 5) = false := beq_eq_false_iff_ne.2 (by omega)
  have t6 : ((x.op : Int) == 6) = true := beq_iff_eq.2 (by omega)
  clear hop
  go_enter Tryd.func22, Tryd.ntmps22
  go_upto_region 1 with fail
  generalize hW : (w.alloc (.cells #[.int .u8 (x.op : Nat), .int .u8 (x.client : Nat), V64 x.number, .int .u8 (x.p.a.fam : Nat), V64 x.p.a.hi, V64 x.p.a.lo, .int .i64 x.p.bits, .int .u8 (x.a.fam : Nat), V64 x.a.hi, V64 x.a.lo, S x.owner, S x.to, V64 x.d, V64 x.fr, .int .i64 x.n] 46)).alloc (.cells #[.int .u8 (a.a.fam : Nat), V64 a.a.hi, V64 a.a.lo, .int .u8 0, .int .u64 0, .int .u64 0, S a.owner, V64 a.til, .int .u8 (a.pool.a.fam : Nat), V64 a.pool.a.hi, V64 a.pool.a.lo, .int .i64 a.pool.bits, .bool a.has, .bool a.held, .bool a.live, V64 a.clock, .slice r a.rows.length rc, .slice v a.events.length vc, .slice p a.pools.length pc] 62) = w2 at *
  clear hW lE l0 l1
  refine wp_region_held_drew (S := fun wx => Bx wx w.heap.size 46 #[.int .u8 (x.op : Nat), .int .u8 (x.client : Nat), V64 x.number, .int .u8 (x.p.a.fam : Nat), V64 x.p.a.hi, V64 x.p.a.lo, .int .i64 x.p.bits, .int .u8 (x.a.fam : Nat), V64 x.a.hi, V64 x.a.lo, S x.owner, S x.to, V64 x.d, V64 x.fr, .int .i64 x.n] ∧ Bx wx (w.heap.size + 1) 62 #[.int .u8 (a.a.fam : Nat), V64 a.a.hi, V64 a.a.lo, .int .u8 0, .int .u64 0, .int .u64 0, S a.owner, V64 a.til, .int .u8 (a.pool.a.fam : Nat), V64 a.pool.a.hi, V64 a.pool.a.lo, .int .i64 a.pool.bits, .bool a.has, .bool a.held, .bool a.live, V64 a.clock, .slice r a.rows.length rc, .slice v a.events.length vc, .slice p a.pools.length pc] ∧ Below w.heap.size w wx) (by kernel_rfl) ⟨h1.drew, h2.drew, hA.drew⟩ (fun hHeld => ?_)
  refine wpAnyH_take (i := 0) (v := ?_) rfl (by kernel_rfl) (by kernel_rfl) (by kernel_rfl) (fun _ _ _ h => h) (Or.inl ⟨by rfl, ?_⟩) hHeld ?_
  rotate_left
  · intro wq hSw; go_simp; (try with_reducible rfl)
  simp only [Act.put, nrm]
  refine wpAnyH_take (i := 2) (v := .agg #[.int .u8 (x.op : Nat), .int .u8 (x.client : Nat), V64 x.number, .int .u8 (x.p.a.fam : Nat), V64 x.p.a.hi, V64 x.p.a.lo, .int .i64 x.p.bits, .int .u8 (x.a.fam : Nat), V64 x.a.hi, V64 x.a.lo, S x.owner, S x.to, V64 x.d, V64 x.fr, .int .i64 x.n]) rfl (by kernel_rfl) (by kernel_rfl) (by kernel_rfl) (fun _ _ _ h => h) (yieldsB (by rfl) _ _ (by rfl) (by rfl) (fun wx h => h.1) structRC 15 infoRC (by rfl)) hHeld ?_
  simp only [Act.put, nrm]
  refine wpAnyH_one (i := 1) (by kernel_rfl) rfl (fun K hK => ?_)
  simp only [nrm]
  go_simp
  (with_reducible refine (HE.out _).mono ?_)
  rintro e v1 ⟨rfl, hb1⟩
  have hSv1 : Bx v1 w.heap.size 46 #[.int .u8 (x.op : Nat), .int .u8 (x.client : Nat), V64 x.number, .int .u8 (x.p.a.fam : Nat), V64 x.p.a.hi, V64 x.p.a.lo, .int .i64 x.p.bits, .int .u8 (x.a.fam : Nat), V64 x.a.hi, V64 x.a.lo, S x.owner, S x.to, V64 x.d, V64 x.fr, .int .i64 x.n] ∧ Bx v1 (w.heap.size + 1) 62 #[.int .u8 (a.a.fam : Nat), V64 a.a.hi, V64 a.a.lo, .int .u8 0, .int .u64 0, .int .u64 0, S a.owner, V64 a.til, .int .u8 (a.pool.a.fam : Nat), V64 a.pool.a.hi, V64 a.pool.a.lo, .int .i64 a.pool.bits, .bool a.has, .bool a.held, .bool a.live, V64 a.clock, .slice r a.rows.length rc, .slice v a.events.length vc, .slice p a.pools.length pc] ∧ Below w.heap.size w v1 := ⟨hHeld.1.up hb1, hHeld.2.1.up hb1, Chain.up hHeld.2.2 hb1⟩
  refine hK.out _ _ hSv1 ?_
  clear hK K
  refine wpAnyH_one (i := 3) (by kernel_rfl) rfl (fun K hK => ?_)
  simp only [nrm]
  go_simp
  (with_reducible refine (HH.out _).mono ?_)
  rintro e v2 ⟨rfl, hb2⟩
  have hSv2 : Bx v2 w.heap.size 46 #[.int .u8 (x.op : Nat), .int .u8 (x.client : Nat), V64 x.number, .int .u8 (x.p.a.fam : Nat), V64 x.p.a.hi, V64 x.p.a.lo, .int .i64 x.p.bits, .int .u8 (x.a.fam : Nat), V64 x.a.hi, V64 x.a.lo, S x.owner, S x.to, V64 x.d, V64 x.fr, .int .i64 x.n] ∧ Bx v2 (w.heap.size + 1) 62 #[.int .u8 (a.a.fam : Nat), V64 a.a.hi, V64 a.a.lo, .int .u8 0, .int .u64 0, .int .u64 0, S a.owner, V64 a.til, .int .u8 (a.pool.a.fam : Nat), V64 a.pool.a.hi, V64 a.pool.a.lo, .int .i64 a.pool.bits, .bool a.has, .bool a.held, .bool a.live, V64 a.clock, .slice r a.rows.length rc, .slice v a.events.length vc, .slice p a.pools.length pc] ∧ Below w.heap.size w v2 := ⟨hSv1.1.up hb2, hSv1.2.1.up hb2, Chain.up hSv1.2.2 hb2⟩
  refine hK.out _ _ hSv2 ?_
  clear hK K
  refine wpAnyH_take (i := 4) (v := ?_) rfl (by kernel_rfl) (by kernel_rfl) (by kernel_rfl) (fun _ _ _ h => h) (Or.inl ⟨by rfl, ?_⟩) hSv2 ?_
  rotate_left
  · intro wq hSw; go_simp; (try with_reducible rfl)
  simp only [Act.put, nrm]
  refine wpAnyH_take (i := 5) (v := ?_) rfl (by kernel_rfl) (by kernel_rfl) (by kernel_rfl) (fun _ _ _ h => h) (Or.inl ⟨by rfl, ?_⟩) hSv2 ?_
  rotate_left
  · intro wq hSw; go_simp; (try with_reducible rfl)
  simp only [Act.put, nrm]
  refine wpAnyH_done (by kernel_rfl) ?_ _
  clear h1 h2 hA hHeld hSv1 hb1 hb2 HE HH
  have hC := hSv2.1
  have hB := hSv2.2.1
  have hA := hSv2.2.2
  have hlt := hB.lt
  clear hSv2
  have q0 : v2.cell? ⟨w.heap.size, 0, none⟩ = some (.int .u8 (x.op : Nat)) := hC.cell 0
  obtain ⟨c0, c1, c2, c3, c4, c5, c6, c7, c8, c9, c10, c11, c12, c13, c14, c15, c16, c17, c18⟩ := hB.cells19
  go_upto_region 8 with fail
  refine wp_region_held_drew (S := fun wx => Bx wx w.heap.size 46 #[.int .u8 (x.op : Nat), .int .u8 (x.client : Nat), V64 x.number, .int .u8 (x.p.a.fam : Nat), V64 x.p.a.hi, V64 x.p.a.lo, .int .i64 x.p.bits, .int .u8 (x.a.fam : Nat), V64 x.a.hi, V64 x.a.lo, S x.owner, S x.to, V64 x.d, V64 x.fr, .int .i64 x.n] ∧ Bx wx (w.heap.size + 1) 62 #[.int .u8 (a.a.fam : Nat), V64 a.a.hi, V64 a.a.lo, .int .u8 0, .int .u64 0, .int .u64 0, S a.owner, V64 a.til, .int .u8 (a.pool.a.fam : Nat), V64 a.pool.a.hi, V64 a.pool.a.lo, .int .i64 a.pool.bits, .bool a.has, .bool a.held, .bool a.live, V64 a.clock, .slice r a.rows.length rc, .slice v a.events.length vc, .slice p a.pools.length pc] ∧ Below w.heap.size w wx) (by kernel_rfl) ⟨hC.drew, hB.drew, hA.drew⟩ (fun hHeld => ?_)
  refine wpAnyH_take (i := 0) (v := ?_) rfl (by kernel_rfl) (by kernel_rfl) (by kernel_rfl) (fun _ _ _ h => h) (Or.inl ⟨by rfl, ?_⟩) hHeld ?_
  rotate_left
  · intro wq hSw; go_simp; (try with_reducible rfl)
  simp only [Act.put, nrm]
  refine wpAnyH_take (i := 1) (v := ?_) rfl (by kernel_rfl) (by kernel_rfl) (by kernel_rfl) (fun _ _ _ h => h) (Or.inl ⟨by rfl, ?_⟩) hHeld ?_
  rotate_left
  · intro wq hSw; go_simp; (try with_reducible rfl)
  simp only [Act.put, nrm]
  refine wpAnyH_take (i := 2) (v := ?_) rfl (by kernel_rfl) (by kernel_rfl) (by kernel_rfl) (fun _ _ _ h => h) (Or.inl ⟨by rfl, ?_⟩) hHeld ?_
  rotate_left
  · intro wq hSw; obtain ⟨d0, d1, d2, d3, d4, d5, d6, d7, d8, d9, d10, d11, d12, d13, d14, d15, d16, d17, d18⟩ := hSw.2.1.cells19; go_simp; (try with_reducible rfl)
  simp only [Act.put, nrm]
  refine wpAnyH_take (i := 5) (v := ?_) rfl (by kernel_rfl) (by kernel_rfl) (by kernel_rfl) (fun _ _ _ h => h) (Or.inl ⟨by rfl, ?_⟩) hHeld ?_
  rotate_left
  · intro wq hSw; go_simp; (try with_reducible rfl)
  simp only [Act.put, nrm]
  refine wpAnyH_take (i := 6) (v := ?_) rfl (by kernel_rfl) (by kernel_rfl) (by kernel_rfl) (fun _ _ _ h => h) (Or.inl ⟨by rfl, ?_⟩) hHeld ?_
  rotate_left
  · intro wq hSw; obtain ⟨d0, d1, d2, d3, d4, d5, d6, d7, d8, d9, d10, d11, d12, d13, d14, d15, d16, d17, d18⟩ := hSw.2.1.cells19; go_simp; (try with_reducible rfl)
  simp only [Act.put, nrm]
  refine wpAnyH_one (i := 3) (by kernel_rfl) rfl (fun K hK => ?_)
  simp only [nrm]
  go_simp
  (with_reducible refine (HX.out _).mono ?_)
  rintro e v3 ⟨rfl, hb3⟩
  have hSv3 : Bx v3 w.heap.size 46 #[.int .u8 (x.op : Nat), .int .u8 (x.client : Nat), V64 x.number, .int .u8 (x.p.a.fam : Nat), V64 x.p.a.hi, V64 x.p.a.lo, .int .i64 x.p.bits, .int .u8 (x.a.fam : Nat), V64 x.a.hi, V64 x.a.lo, S x.owner, S x.to, V64 x.d, V64 x.fr, .int .i64 x.n] ∧ Bx v3 (w.heap.size + 1) 62 #[.int .u8 (a.a.fam : Nat), V64 a.a.hi, V64 a.a.lo, .int .u8 0, .int .u64 0, .int .u64 0, S a.owner, V64 a.til, .int .u8 (a.pool.a.fam : Nat), V64 a.pool.a.hi, V64 a.pool.a.lo, .int .i64 a.pool.bits, .bool a.has, .bool a.held, .bool a.live, V64 a.clock, .slice r a.rows.length rc, .slice v a.events.length vc, .slice p a.pools.length pc] ∧ Below w.heap.size w v3 := ⟨hHeld.1.up hb3, hHeld.2.1.up hb3, Chain.up hHeld.2.2 hb3⟩
  refine hK.out _ _ hSv3 ?_
  clear hK K
  refine wpAnyH_take (i := 4) (v := ?_) rfl (by kernel_rfl) (by kernel_rfl) (by kernel_rfl) (fun _ _ _ h => h) (Or.inl ⟨by rfl, ?_⟩) hSv3 ?_
  rotate_left
  · intro wq hSw; go_simp; (try with_reducible rfl)
  simp only [Act.put, nrm]
  refine wpAnyH_one (i := 7) (by kernel_rfl) rfl (fun K hK => ?_)
  simp only [nrm]
  go_simp
  (with_reducible refine (HY.out _).mono ?_)
  rintro e v4 ⟨rfl, hb4⟩
  have hSv4 : Bx v4 w.heap.size 46 #[.int .u8 (x.op : Nat), .int .u8 (x.client : Nat), V64 x.number, .int .u8 (x.p.a.fam : Nat), V64 x.p.a.hi, V64 x.p.a.lo, .int .i64 x.p.bits, .int .u8 (x.a.fam : Nat), V64 x.a.hi, V64 x.a.lo, S x.owner, S x.to, V64 x.d, V64 x.fr, .int .i64 x.n] ∧ Bx v4 (w.heap.size + 1) 62 #[.int .u8 (a.a.fam : Nat), V64 a.a.hi, V64 a.a.lo, .int .u8 0, .int .u64 0, .int .u64 0, S a.owner, V64 a.til, .int .u8 (a.pool.a.fam : Nat), V64 a.pool.a.hi, V64 a.pool.a.lo, .int .i64 a.pool.bits, .bool a.has, .bool a.held, .bool a.live, V64 a.clock, .slice r a.rows.length rc, .slice v a.events.length vc, .slice p a.pools.length pc] ∧ Below w.heap.size w v4 := ⟨hSv3.1.up hb4, hSv3.2.1.up hb4, Chain.up hSv3.2.2 hb4⟩
  refine hK.out _ _ hSv4 ?_
  clear hK K
  refine wpAnyH_take (i := 8) (v := ?_) rfl (by kernel_rfl) (by kernel_rfl) (by kernel_rfl) (fun _ _ _ h => h) (Or.inl ⟨by rfl, ?_⟩) hSv4 ?_
  rotate_left
  · intro wq hSw; go_simp; (try with_reducible rfl)
  simp only [Act.put, nrm]
  refine wpAnyH_take (i := 9) (v := ?_) rfl (by kernel_rfl) (by kernel_rfl) (by kernel_rfl) (fun _ _ _ h => h) (Or.inl ⟨by rfl, ?_⟩) hSv4 ?_
  rotate_left
  · intro wq hSw; go_simp; (try with_reducible rfl)
  simp only [Act.put, nrm]
  refine wpAnyH_done (by kernel_rfl) ?_ _
  go_wp2_with fail
  go_ret
  exact ⟨by rw [← Hres.out]; first | rfl | (simp only [k1, k2, k3]; rfl) | (simp [k1, k2, k3]; done), hSv4.2.2⟩
set_option maxRecDepth 100000 in
set_option maxHeartbeats 4000000 in
theorem refTell_7 (x : P.Ca) (a : P.An) (r : Option Addr) (rc : Nat) (v : Option Addr) (vc : Nat) (p : Option Addr) (pc : Nat) (hop1 : x.op < 256) (hcl : x.client < 256) (hnu : x.number < 18446744073709551616) (ht : P.tyAn a) (ho : a.owner.length ≤ 20000) (hop : x.op = 7) (w : World) : Calls Tryd.prog 22 #[caV x, raV a r rc v vc p pc, .int .i64 0] w fun e' w' => e' = .returned (S (P.tellB x.op x.client x.number a 0)) ∧ Below w.heap.size w w' := by
  obtain ⟨h1, h2, hA⟩ := two_bx w #[.int .u8 (x.op : Nat), .int .u8 (x.client : Nat), V64 x.number, .int .u8 (x.p.a.fam : Nat), V64 x.p.a.hi, V64 x.p.a.lo, .int .i64 x.p.bits, .int .u8 (x.a.fam : Nat), V64 x.a.hi, V64 x.a.lo, S x.owner, S x.to, V64 x.d, V64 x.fr, .int .i64 x.n] #[.int .u8 (a.a.fam : Nat), V64 a.a.hi, V64 a.a.lo, .int .u8 0, .int .u64 0, .int .u64 0, S a.owner, V64 a.til, .int .u8 (a.pool.a.fam : Nat), V64 a.pool.a.hi, V64 a.pool.a.lo, .int .i64 a.pool.bits, .bool a.has, .bool a.held, .bool a.live, V64 a.clock, .slice r a.rows.length rc, .slice v a.events.length vc, .slice p a.pools.length pc] 46 62
  have HE := Lib.hid (fun wx => refOne_any 0 wx)
  have HH := Lib.hid (fun wx => refHead_any x hop1 hcl hnu wx)
  obtain ⟨E1, hE1⟩ : ∃ L, L = [P.byI 0] := ⟨_, rfl⟩
  obtain ⟨L0, hL0⟩ : ∃ L, L = P.headB x.op x.client x.number := ⟨_, rfl⟩
  obtain ⟨L1, hL1⟩ : ∃ L, L = E1 ++ L0 := ⟨_, rfl⟩
  have lE : E1.length = 1 := by rw [hE1]; rfl
  have l0 : L0.length = 10 := by rw [hL0, P.headB_len]
  have l1 : L1.length = 11 := by rw [hL1, List.length_append]; omega
  rw [← hE1] at HE
  rw [← hL0] at HH
  have k1 := str_catD E1 L0
  rw [← hL1] at k1
  have a1 : ¬ 9223372036854775807 < E1.length + L0.length := by omega
  have LE := Lib.hid lE
  have LZ := Lib.hid l0
  have L1n := Lib.hid l1
  have HX := Lib.hid (fun wx => refAddress_any a.a ht.1 wx)
  have HY := Lib.hid (fun wx => lease0_any a.owner a.til ho ht.2.1 wx)
  obtain ⟨T1, hT1⟩ : ∃ T, T = P.adX a.a := ⟨_, rfl⟩
  obtain ⟨T2, hT2⟩ : ∃ T, T = P.leB a.owner a.til := ⟨_, rfl⟩
  have lT1 : T1.length ≤ 20 := by rw [hT1]; have := P.adX_le a.a; omega
  have lT2 : T2.length ≤ 20018 := by rw [hT2]; exact P.leB_le2 a.owner a.til ho
  rw [← hT1] at HX
  rw [← hT2] at HY
  obtain ⟨L2, hL2⟩ : ∃ L, L = L1 ++ T1 := ⟨_, rfl⟩
  obtain ⟨L3, hL3⟩ : ∃ L, L = L2 ++ T2 := ⟨_, rfl⟩
  have l2 : L2.length ≤ 40 := by rw [hL2, List.length_append]; omega
  have k2 := str_catD L1 T1
  rw [← hL2] at k2
  have k3 := str_catD L2 T2
  rw [← hL3] at k3
  have a2 : ¬ 9223372036854775807 < L1.length + T1.length := by omega
  have a3 : ¬ 9223372036854775807 < L2.length + T2.length := by omega
  have Hres := Lib.hid (show L3 = P.tellB x.op x.client x.number a 0 by rw [hL3, hL2, hL1, hL0, hE1, hT1, hT2]; unfold P.tellB P.tailB; rw [hop]; simp)
  clear hE1 hL0 hL1 hL2 hL3 hT1 hT2
  have t5 : ((x.op : Int) == 5) = false := beq_eq_false_iff_ne.2 (by omega)
  have t6 : ((x.op : Int) == 6) = false := beq_eq_false_iff_ne.2 (by omega)
  have t7 : ((x.op : Int) == 7) = true := beq_iff_eq.2 (by omega)
  clear hop
  go_enter Tryd.func22, Tryd.ntmps22
  go_upto_region 1 with fail
  generalize hW : (w.alloc (.cells #[.int .u8 (x.op : Nat), .int .u8 (x.client : Nat), V64 x.number, .int .u8 (x.p.a.fam : Nat), V64 x.p.a.hi, V64 x.p.a.lo, .int .i64 x.p.bits, .int .u8 (x.a.fam : Nat), V64 x.a.hi, V64 x.a.lo, S x.owner, S x.to, V64 x.d, V64 x.fr, .int .i64 x.n] 46)).alloc (.cells #[.int .u8 (a.a.fam : Nat), V64 a.a.hi, V64 a.a.lo, .int .u8 0, .int .u64 0, .int .u64 0, S a.owner, V64 a.til, .int .u8 (a.pool.a.fam : Nat), V64 a.pool.a.hi, V64 a.pool.a.lo, .int .i64 a.pool.bits, .bool a.has, .bool a.held, .bool a.live, V64 a.clock, .slice r a.rows.length rc, .slice v a.events.length vc, .slice p a.pools.length pc] 62) = w2 at *
  clear hW lE l0 l1
  refine wp_region_held_drew (S := fun wx => Bx wx w.heap.size 46 #[.int .u8 (x.op : Nat), .int .u8 (x.client : Nat), V64 x.number, .int .u8 (x.p.a.fam : Nat), V64 x.p.a.hi, V64 x.p.a.lo, .int .i64 x.p.bits, .int .u8 (x.a.fam : Nat), V64 x.a.hi, V64 x.a.lo, S x.owner, S x.to, V64 x.d, V64 x.fr, .int .i64 x.n] ∧ Bx wx (w.heap.size + 1) 62 #[.int .u8 (a.a.fam : Nat), V64 a.a.hi, V64 a.a.lo, .int .u8 0, .int .u64 0, .int .u64 0, S a.owner, V64 a.til, .int .u8 (a.pool.a.fam : Nat), V64 a.pool.a.hi, V64 a.pool.a.lo, .int .i64 a.pool.bits, .bool a.has, .bool a.held, .bool a.live, V64 a.clock, .slice r a.rows.length rc, .slice v a.events.length vc, .slice p a.pools.length pc] ∧ Below w.heap.size w wx) (by kernel_rfl) ⟨h1.drew, h2.drew, hA.drew⟩ (fun hHeld => ?_)
  refine wpAnyH_take (i := 0) (v := ?_) rfl (by kernel_rfl) (by kernel_rfl) (by kernel_rfl) (fun _ _ _ h => h) (Or.inl ⟨by rfl, ?_⟩) hHeld ?_
  rotate_left
  · intro wq hSw; go_simp; (try with_reducible rfl)
  simp only [Act.put, nrm]
  refine wpAnyH_take (i := 2) (v := .agg #[.int .u8 (x.op : Nat), .int .u8 (x.client : Nat), V64 x.number, .int .u8 (x.p.a.fam : Nat), V64 x.p.a.hi, V64 x.p.a.lo, .int .i64 x.p.bits, .int .u8 (x.a.fam : Nat), V64 x.a.hi, V64 x.a.lo, S x.owner, S x.to, V64 x.d, V64 x.fr, .int .i64 x.n]) rfl (by kernel_rfl) (by kernel_rfl) (by kernel_rfl) (fun _ _ _ h => h) (yieldsB (by rfl) _ _ (by rfl) (by rfl) (fun wx h => h.1) structRC 15 infoRC (by rfl)) hHeld ?_
  simp only [Act.put, nrm]
  refine wpAnyH_one (i := 1) (by kernel_rfl) rfl (fun K hK => ?_)
  simp only [nrm]
  go_simp
  (with_reducible refine (HE.out _).mono ?_)
  rintro e v1 ⟨rfl, hb1⟩
  have hSv1 : Bx v1 w.heap.size 46 #[.int .u8 (x.op : Nat), .int .u8 (x.client : Nat), V64 x.number, .int .u8 (x.p.a.fam : Nat), V64 x.p.a.hi, V64 x.p.a.lo, .int .i64 x.p.bits, .int .u8 (x.a.fam : Nat), V64 x.a.hi, V64 x.a.lo, S x.owner, S x.to, V64 x.d, V64 x.fr, .int .i64 x.n] ∧ Bx v1 (w.heap.size + 1) 62 #[.int .u8 (a.a.fam : Nat), V64 a.a.hi, V64 a.a.lo, .int .u8 0, .int .u64 0, .int .u64 0, S a.owner, V64 a.til, .int .u8 (a.pool.a.fam : Nat), V64 a.pool.a.hi, V64 a.pool.a.lo, .int .i64 a.pool.bits, .bool a.has, .bool a.held, .bool a.live, V64 a.clock, .slice r a.rows.length rc, .slice v a.events.length vc, .slice p a.pools.length pc] ∧ Below w.heap.size w v1 := ⟨hHeld.1.up hb1, hHeld.2.1.up hb1, Chain.up hHeld.2.2 hb1⟩
  refine hK.out _ _ hSv1 ?_
  clear hK K
  refine wpAnyH_one (i := 3) (by kernel_rfl) rfl (fun K hK => ?_)
  simp only [nrm]
  go_simp
  (with_reducible refine (HH.out _).mono ?_)
  rintro e v2 ⟨rfl, hb2⟩
  have hSv2 : Bx v2 w.heap.size 46 #[.int .u8 (x.op : Nat), .int .u8 (x.client : Nat), V64 x.number, .int .u8 (x.p.a.fam : Nat), V64 x.p.a.hi, V64 x.p.a.lo, .int .i64 x.p.bits, .int .u8 (x.a.fam : Nat), V64 x.a.hi, V64 x.a.lo, S x.owner, S x.to, V64 x.d, V64 x.fr, .int .i64 x.n] ∧ Bx v2 (w.heap.size + 1) 62 #[.int .u8 (a.a.fam : Nat), V64 a.a.hi, V64 a.a.lo, .int .u8 0, .int .u64 0, .int .u64 0, S a.owner, V64 a.til, .int .u8 (a.pool.a.fam : Nat), V64 a.pool.a.hi, V64 a.pool.a.lo, .int .i64 a.pool.bits, .bool a.has, .bool a.held, .bool a.live, V64 a.clock, .slice r a.rows.length rc, .slice v a.events.length vc, .slice p a.pools.length pc] ∧ Below w.heap.size w v2 := ⟨hSv1.1.up hb2, hSv1.2.1.up hb2, Chain.up hSv1.2.2 hb2⟩
  refine hK.out _ _ hSv2 ?_
  clear hK K
  refine wpAnyH_take (i := 4) (v := ?_) rfl (by kernel_rfl) (by kernel_rfl) (by kernel_rfl) (fun _ _ _ h => h) (Or.inl ⟨by rfl, ?_⟩) hSv2 ?_
  rotate_left
  · intro wq hSw; go_simp; (try with_reducible rfl)
  simp only [Act.put, nrm]
  refine wpAnyH_take (i := 5) (v := ?_) rfl (by kernel_rfl) (by kernel_rfl) (by kernel_rfl) (fun _ _ _ h => h) (Or.inl ⟨by rfl, ?_⟩) hSv2 ?_
  rotate_left
  · intro wq hSw; go_simp; (try with_reducible rfl)
  simp only [Act.put, nrm]
  refine wpAnyH_done (by kernel_rfl) ?_ _
  clear h1 h2 hA hHeld hSv1 hb1 hb2 HE HH
  have hC := hSv2.1
  have hB := hSv2.2.1
  have hA := hSv2.2.2
  have hlt := hB.lt
  clear hSv2
  have q0 : v2.cell? ⟨w.heap.size, 0, none⟩ = some (.int .u8 (x.op : Nat)) := hC.cell 0
  obtain ⟨c0, c1, c2, c3, c4, c5, c6, c7, c8, c9, c10, c11, c12, c13, c14, c15, c16, c17, c18⟩ := hB.cells19
  go_upto_region 8 with fail
  refine wp_region_held_drew (S := fun wx => Bx wx w.heap.size 46 #[.int .u8 (x.op : Nat), .int .u8 (x.client : Nat), V64 x.number, .int .u8 (x.p.a.fam : Nat), V64 x.p.a.hi, V64 x.p.a.lo, .int .i64 x.p.bits, .int .u8 (x.a.fam : Nat), V64 x.a.hi, V64 x.a.lo, S x.owner, S x.to, V64 x.d, V64 x.fr, .int .i64 x.n] ∧ Bx wx (w.heap.size + 1) 62 #[.int .u8 (a.a.fam : Nat), V64 a.a.hi, V64 a.a.lo, .int .u8 0, .int .u64 0, .int .u64 0, S a.owner, V64 a.til, .int .u8 (a.pool.a.fam : Nat), V64 a.pool.a.hi, V64 a.pool.a.lo, .int .i64 a.pool.bits, .bool a.has, .bool a.held, .bool a.live, V64 a.clock, .slice r a.rows.length rc, .slice v a.events.length vc, .slice p a.pools.length pc] ∧ Below w.heap.size w wx) (by kernel_rfl) ⟨hC.drew, hB.drew, hA.drew⟩ (fun hHeld => ?_)
  refine wpAnyH_take (i := 0) (v := ?_) rfl (by kernel_rfl) (by kernel_rfl) (by kernel_rfl) (fun _ _ _ h => h) (Or.inl ⟨by rfl, ?_⟩) hHeld ?_
  rotate_left
  · intro wq hSw; go_simp; (try with_reducible rfl)
  simp only [Act.put, nrm]
  refine wpAnyH_take (i := 1) (v := ?_) rfl (by kernel_rfl) (by kernel_rfl) (by kernel_rfl) (fun _ _ _ h => h) (Or.inl ⟨by rfl, ?_⟩) hHeld ?_
  rotate_left
  · intro wq hSw; go_simp; (try with_reducible rfl)
  simp only [Act.put, nrm]
  refine wpAnyH_take (i := 2) (v := ?_) rfl (by kernel_rfl) (by kernel_rfl) (by kernel_rfl) (fun _ _ _ h => h) (Or.inl ⟨by rfl, ?_⟩) hHeld ?_
  rotate_left
  · intro wq hSw; obtain ⟨d0, d1, d2, d3, d4, d5, d6, d7, d8, d9, d10, d11, d12, d13, d14, d15, d16, d17, d18⟩ := hSw.2.1.cells19; go_simp; (try with_reducible rfl)
  simp only [Act.put, nrm]
  refine wpAnyH_take (i := 5) (v := ?_) rfl (by kernel_rfl) (by kernel_rfl) (by kernel_rfl) (fun _ _ _ h => h) (Or.inl ⟨by rfl, ?_⟩) hHeld ?_
  rotate_left
  · intro wq hSw; go_simp; (try with_reducible rfl)
  simp only [Act.put, nrm]
  refine wpAnyH_take (i := 6) (v := ?_) rfl (by kernel_rfl) (by kernel_rfl) (by kernel_rfl) (fun _ _ _ h => h) (Or.inl ⟨by rfl, ?_⟩) hHeld ?_
  rotate_left
  · intro wq hSw; obtain ⟨d0, d1, d2, d3, d4, d5, d6, d7, d8, d9, d10, d11, d12, d13, d14, d15, d16, d17, d18⟩ := hSw.2.1.cells19; go_simp; (try with_reducible rfl)
  simp only [Act.put, nrm]
  refine wpAnyH_one (i := 3) (by kernel_rfl) rfl (fun K hK => ?_)
  simp only [nrm]
  go_simp
  (with_reducible refine (HX.out _).mono ?_)
  rintro e v3 ⟨rfl, hb3⟩
  have hSv3 : Bx v3 w.heap.size 46 #[.int .u8 (x.op : Nat), .int .u8 (x.client : Nat), V64 x.number, .int .u8 (x.p.a.fam : Nat), V64 x.p.a.hi, V64 x.p.a.lo, .int .i64 x.p.bits, .int .u8 (x.a.fam : Nat), V64 x.a.hi, V64 x.a.lo, S x.owner, S x.to, V64 x.d, V64 x.fr, .int .i64 x.n] ∧ Bx v3 (w.heap.size + 1) 62 #[.int .u8 (a.a.fam : Nat), V64 a.a.hi, V64 a.a.lo, .int .u8 0, .int .u64 0, .int .u64 0, S a.owner, V64 a.til, .int .u8 (a.pool.a.fam : Nat), V64 a.pool.a.hi, V64 a.pool.a.lo, .int .i64 a.pool.bits, .bool a.has, .bool a.held, .bool a.live, V64 a.clock, .slice r a.rows.length rc, .slice v a.events.length vc, .slice p a.pools.length pc] ∧ Below w.heap.size w v3 := ⟨hHeld.1.up hb3, hHeld.2.1.up hb3, Chain.up hHeld.2.2 hb3⟩
  refine hK.out _ _ hSv3 ?_
  clear hK K
  refine wpAnyH_take (i := 4) (v := ?_) rfl (by kernel_rfl) (by kernel_rfl) (by kernel_rfl) (fun _ _ _ h => h) (Or.inl ⟨by rfl, ?_⟩) hSv3 ?_
  rotate_left
  · intro wq hSw; go_simp; (try with_reducible rfl)
  simp only [Act.put, nrm]
  refine wpAnyH_one (i := 7) (by kernel_rfl) rfl (fun K hK => ?_)
  simp only [nrm]
  go_simp
  (with_reducible refine (HY.out _).mono ?_)
  rintro e v4 ⟨rfl, hb4⟩
  have hSv4 : Bx v4 w.heap.size 46 #[.int .u8 (x.op : Nat), .int .u8 (x.client : Nat), V64 x.number, .int .u8 (x.p.a.fam : Nat), V64 x.p.a.hi, V64 x.p.a.lo, .int .i64 x.p.bits, .int .u8 (x.a.fam : Nat), V64 x.a.hi, V64 x.a.lo, S x.owner, S x.to, V64 x.d, V64 x.fr, .int .i64 x.n] ∧ Bx v4 (w.heap.size + 1) 62 #[.int .u8 (a.a.fam : Nat), V64 a.a.hi, V64 a.a.lo, .int .u8 0, .int .u64 0, .int .u64 0, S a.owner, V64 a.til, .int .u8 (a.pool.a.fam : Nat), V64 a.pool.a.hi, V64 a.pool.a.lo, .int .i64 a.pool.bits, .bool a.has, .bool a.held, .bool a.live, V64 a.clock, .slice r a.rows.length rc, .slice v a.events.length vc, .slice p a.pools.length pc] ∧ Below w.heap.size w v4 := ⟨hSv3.1.up hb4, hSv3.2.1.up hb4, Chain.up hSv3.2.2 hb4⟩
  refine hK.out _ _ hSv4 ?_
  clear hK K
  refine wpAnyH_take (i := 8) (v := ?_) rfl (by kernel_rfl) (by kernel_rfl) (by kernel_rfl) (fun _ _ _ h => h) (Or.inl ⟨by rfl, ?_⟩) hSv4 ?_
  rotate_left
  · intro wq hSw; go_simp; (try with_reducible rfl)
  simp only [Act.put, nrm]
  refine wpAnyH_take (i := 9) (v := ?_) rfl (by kernel_rfl) (by kernel_rfl) (by kernel_rfl) (fun _ _ _ h => h) (Or.inl ⟨by rfl, ?_⟩) hSv4 ?_
  rotate_left
  · intro wq hSw; go_simp; (try with_reducible rfl)
  simp only [Act.put, nrm]
  refine wpAnyH_done (by kernel_rfl) ?_ _
  go_wp2_with fail
  go_ret
  exact ⟨by rw [← Hres.out]; first | rfl | (simp only [k1, k2, k3]; rfl) | (simp [k1, k2, k3]; done), hSv4.2.2⟩
end Go.Proofs.YtcobfoiajdbahaaDoor
