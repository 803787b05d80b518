/- The walk of the document's head of a request. -/
import Derived.Test.YtcobfoiajdbahaaDoorWQAns
import Derived.Test.YtcobfoiajdbahaaDoorWBaseQ
import Derived.Test.YtcobfoiajdbahaaDoorWQTold2
import Derived.Test.YtcobfoiajdbahaaDoorWQWr
import Derived.Deep.RegionWith
namespace Go.Proofs.YtcobfoiajdbahaaDoor
open Go.RowKit
set_option linter.unusedVariables false
set_option linter.unusedSimpArgs false
theorem infoRA : (Tryd.prog.info? 42).map (·.size) = some 3 := by kernel_rfl
theorem infoRX : (Tryd.prog.info? 44).map (·.size) = some 4 := by kernel_rfl
theorem infoRC : (Tryd.prog.info? 46).map (·.size) = some 15 := by kernel_rfl
theorem structRA : Tryd.prog.underlying 42 = some (.struct (Tryd.prog.fieldsOf 42)) := by kernel_rfl
theorem structRX : Tryd.prog.underlying 44 = some (.struct (Tryd.prog.fieldsOf 44)) := by kernel_rfl
theorem structRC : Tryd.prog.underlying 46 = some (.struct (Tryd.prog.fieldsOf 46)) := by kernel_rfl
set_option maxRecDepth 100000 in
set_option maxHeartbeats 8000000 in
theorem given19_any (x : P.Ad) (w : World) : Calls Tryd.prog 42 #[adV x] w fun e w' => e = .returned (adV x) ∧ Below w.heap.size w w' := by
  obtain ⟨h1, h2, hA⟩ := two_bx w #[.int .u8 (x.fam : Nat), V64 x.hi, V64 x.lo] #[.int .u8 0, .int .u64 0, .int .u64 0] 24 42
  go_enter Tryd.func42, Tryd.ntmps42
  go_upto_region 1 with fail
  generalize hW : (w.alloc (.cells #[.int .u8 (x.fam : Nat), V64 x.hi, V64 x.lo] 24)).alloc (.cells #[.int .u8 0, .int .u64 0, .int .u64 0] 42) = w2 at *
  clear hW
  obtain ⟨c0, c1, c2, _, _, _⟩ := h1.three
  go_wp2_with (refine wpList_stB (by rfl) _ _ _ (by rfl) h2 _ _ (by rfl) (by rfl) 3 3 (by rfl) (by rfl) (by decide) infoRA (by rfl) (by rfl) ?_; intro w3 hz' hb3; have h3 : Bx w3 (w.heap.size + 1) 42 #[.int .u8 (x.fam : Nat), V64 x.hi, V64 x.lo] := hz'; clear hz')
  exact bodyPost_ret (results_box rfl (by rfl) (loadB h3 structRA infoRA rfl)) rfl ⟨rfl, hA.trans (hb3.below (Nat.le_succ _) hA.size)⟩
set_option maxRecDepth 100000 in
set_option maxHeartbeats 8000000 in
theorem given20_any (x : P.Px) (w : World) : Calls Tryd.prog 41 #[pxV x] w fun e w' => e = .returned (pxV x) ∧ Below w.heap.size w w' := by
  obtain ⟨h1, h2, hA⟩ := two_bx w #[.int .u8 (x.a.fam : Nat), V64 x.a.hi, V64 x.a.lo, .int .i64 x.bits] #[.int .u8 0, .int .u64 0, .int .u64 0, .int .i64 0] 26 44
  go_enter Tryd.func41, Tryd.ntmps41
  go_upto_region 1 with fail
  generalize hW : (w.alloc (.cells #[.int .u8 (x.a.fam : Nat), V64 x.a.hi, V64 x.a.lo, .int .i64 x.bits] 26)).alloc (.cells #[.int .u8 0, .int .u64 0, .int .u64 0, .int .i64 0] 44) = w2 at *
  clear hW
  have hlt2 := h2.lt
  refine wp_region_held_drew (S := fun wx => Bx wx w.heap.size 26 #[.int .u8 (x.a.fam : Nat), V64 x.a.hi, V64 x.a.lo, .int .i64 x.bits] ∧ Below w.heap.size w wx) (by kernel_rfl) ⟨h1.drew, hA.drew⟩ (fun hHeld => ?_)
  refine wpAnyH_take (i := 0) (v := ?_) rfl (by kernel_rfl) (by kernel_rfl) (by kernel_rfl) (fun _ _ _ h => h) (Or.inl ⟨by rfl, ?_⟩) hHeld ?_
  rotate_left
  · intro wq hSw; go_simp; (try with_reducible rfl)
  simp only [Act.put, nrm]
  refine wpAnyH_take (i := 1) (v := ?_) rfl (by kernel_rfl) (by kernel_rfl) (by kernel_rfl) (fun _ _ _ h => h) (Or.inl ⟨by rfl, ?_⟩) hHeld ?_
  rotate_left
  · intro wq hSw; obtain ⟨q0, q1, q2, q3, _, _, _, _⟩ := hSw.1.fourP; go_simp; (try with_reducible rfl)
  simp only [Act.put, nrm]
  refine wpAnyH_take (i := 3) (v := ?_) rfl (by kernel_rfl) (by kernel_rfl) (by kernel_rfl) (fun _ _ _ h => h) (Or.inl ⟨by rfl, ?_⟩) hHeld ?_
  rotate_left
  · intro wq hSw; go_simp; (try with_reducible rfl)
  simp only [Act.put, nrm]
  refine wpAnyH_take (i := 4) (v := ?_) rfl (by kernel_rfl) (by kernel_rfl) (by kernel_rfl) (fun _ _ _ h => h) (Or.inl ⟨by rfl, ?_⟩) hHeld ?_
  rotate_left
  · intro wq hSw; obtain ⟨q0, q1, q2, q3, _, _, _, _⟩ := hSw.1.fourP; go_simp; (try with_reducible rfl)
  simp only [Act.put, nrm]
  refine wpAnyH_one (i := 2) (by kernel_rfl) rfl (fun K hK => ?_)
  simp only [nrm]
  go_simp
  (with_reducible refine (given19_any x.a _).mono ?_)
  rintro e v0 ⟨rfl, hb0⟩
  have hS0 : Bx v0 w.heap.size 26 #[.int .u8 (x.a.fam : Nat), V64 x.a.hi, V64 x.a.lo, .int .i64 x.bits] ∧ Below w.heap.size w v0 := ⟨hHeld.1.up hb0, Chain.up hHeld.2 hb0⟩
  have hz0 := (h2.drew).up hb0
  refine hK.out _ _ hS0 ?_
  clear hK K
  refine wpAnyH_take (i := 5) (v := .agg #[.int .u8 (x.a.fam : Nat), V64 x.a.hi, V64 x.a.lo, .int .i64 x.bits]) rfl (by kernel_rfl) (by kernel_rfl) (by kernel_rfl) (fun _ _ _ h => h) (Or.inl ⟨by rfl, ?_⟩) hS0 ?_
  · intro wq hSw; go_simp; (try with_reducible rfl); (try rfl)
  simp only [Act.put, nrm]
  refine wpAnyH_one (i := 6) (by kernel_rfl) rfl (fun K hK => ?_)
  simp only [nrm]
  rw [if_pos (by rfl)]
  refine wp_stB _ _ _ (by rfl) hz0 _ _ (by rfl) (by rfl) 4 4 (by rfl) (by rfl) (by decide) infoRX (by rfl) (by rfl) ?_
  intro v9 hz' hb9
  have h9 : Bx v9 (w.heap.size + 1) 44 #[.int .u8 (x.a.fam : Nat), V64 x.a.hi, V64 x.a.lo, .int .i64 x.bits] := hz'
  have hS9 : Bx v9 w.heap.size 26 #[.int .u8 (x.a.fam : Nat), V64 x.a.hi, V64 x.a.lo, .int .i64 x.bits] ∧ Below w.heap.size w v9 := ⟨hS0.1.but hb9 (by omega), hS0.2.trans (hb9.below (Nat.le_succ _) hS0.2.size)⟩
  refine hK.out _ _ hS9 ?_
  simp only [Act.put, nrm]
  clear hK K
  refine wpAnyH_done (by kernel_rfl) ?_ _
  go_wp2_with fail
  exact bodyPost_ret (results_box rfl (by rfl) (loadB h9 structRX infoRX rfl)) rfl ⟨rfl, hS9.2⟩
set_option maxRecDepth 100000 in
set_option maxHeartbeats 8000000 in
theorem given26_any (x : P.Ca) (w : World) : Calls Tryd.prog 15 #[caV x] w fun e w' => e = .returned (caV x) ∧ Below w.heap.size w w' := by
  obtain ⟨h1, h2, hA⟩ := two_bx w #[.int .u8 (x.op : Nat), .int .u8 (x.client : Nat), V64 x.number, .int .u8 (x.p.a.fam : Nat), V64 x.p.a.hi, V64 x.p.a.lo, .int .i64 x.p.bits, .int .u8 (x.a.fam : Nat), V64 x.a.hi, V64 x.a.lo, S x.owner, S x.to, V64 x.d, V64 x.fr, .int .i64 x.n] #[.int .u8 0, .int .u8 0, .int .u64 0, .int .u8 0, .int .u64 0, .int .u64 0, .int .i64 0, .int .u8 0, .int .u64 0, .int .u64 0, .string ⟨#[]⟩, .string ⟨#[]⟩, .int .u64 0, .int .u64 0, .int .i64 0] 28 46
  go_enter Tryd.func15, Tryd.ntmps15
  go_upto_region 1 with fail
  generalize hW : (w.alloc (.cells #[.int .u8 (x.op : Nat), .int .u8 (x.client : Nat), V64 x.number, .int .u8 (x.p.a.fam : Nat), V64 x.p.a.hi, V64 x.p.a.lo, .int .i64 x.p.bits, .int .u8 (x.a.fam : Nat), V64 x.a.hi, V64 x.a.lo, S x.owner, S x.to, V64 x.d, V64 x.fr, .int .i64 x.n] 28)).alloc (.cells #[.int .u8 0, .int .u8 0, .int .u64 0, .int .u8 0, .int .u64 0, .int .u64 0, .int .i64 0, .int .u8 0, .int .u64 0, .int .u64 0, .string ⟨#[]⟩, .string ⟨#[]⟩, .int .u64 0, .int .u64 0, .int .i64 0] 46) = w2 at *
  clear hW
  have hlt2 := h2.lt
  refine wp_region_held_drew (S := fun wx => Bx wx w.heap.size 28 #[.int .u8 (x.op : Nat), .int .u8 (x.client : Nat), V64 x.number, .int .u8 (x.p.a.fam : Nat), V64 x.p.a.hi, V64 x.p.a.lo, .int .i64 x.p.bits, .int .u8 (x.a.fam : Nat), V64 x.a.hi, V64 x.a.lo, S x.owner, S x.to, V64 x.d, V64 x.fr, .int .i64 x.n] ∧ Below w.heap.size w wx) (by kernel_rfl) ⟨h1.drew, hA.drew⟩ (fun hHeld => ?_)
  refine wpAnyH_take (i := 0) (v := ?_) rfl (by kernel_rfl) (by kernel_rfl) (by kernel_rfl) (fun _ _ _ h => h) (Or.inl ⟨by rfl, ?_⟩) hHeld ?_
  rotate_left
  · intro wq hSw; go_simp; (try with_reducible rfl)
  simp only [Act.put, nrm]
  refine wpAnyH_take (i := 1) (v := ?_) rfl (by kernel_rfl) (by kernel_rfl) (by kernel_rfl) (fun _ _ _ h => h) (Or.inl ⟨by rfl, ?_⟩) hHeld ?_
  rotate_left
  · intro wq hSw; obtain ⟨⟨q0, q1, q2, q3, q4, q5, q6, q7, q8, q9, q10, q11, q12, q13, q14⟩, -⟩ := hSw.1.cells15; go_simp; (try with_reducible rfl)
  simp only [Act.put, nrm]
  refine wpAnyH_take (i := 2) (v := ?_) rfl (by kernel_rfl) (by kernel_rfl) (by kernel_rfl) (fun _ _ _ h => h) (Or.inl ⟨by rfl, ?_⟩) hHeld ?_
  rotate_left
  · intro wq hSw; go_simp; (try with_reducible rfl)
  simp only [Act.put, nrm]
  refine wpAnyH_take (i := 3) (v := ?_) rfl (by kernel_rfl) (by kernel_rfl) (by kernel_rfl) (fun _ _ _ h => h) (Or.inl ⟨by rfl, ?_⟩) hHeld ?_
  rotate_left
  · intro wq hSw; obtain ⟨⟨q0, q1, q2, q3, q4, q5, q6, q7, q8, q9, q10, q11, q12, q13, q14⟩, -⟩ := hSw.1.cells15; go_simp; (try with_reducible rfl)
  simp only [Act.put, nrm]
  refine wpAnyH_take (i := 4) (v := ?_) rfl (by kernel_rfl) (by kernel_rfl) (by kernel_rfl) (fun _ _ _ h => h) (Or.inl ⟨by rfl, ?_⟩) hHeld ?_
  rotate_left
  · intro wq hSw; go_simp; (try with_reducible rfl)
  simp only [Act.put, nrm]
  refine wpAnyH_take (i := 5) (v := ?_) rfl (by kernel_rfl) (by kernel_rfl) (by kernel_rfl) (fun _ _ _ h => h) (Or.inl ⟨by rfl, ?_⟩) hHeld ?_
  rotate_left
  · intro wq hSw; obtain ⟨⟨q0, q1, q2, q3, q4, q5, q6, q7, q8, q9, q10, q11, q12, q13, q14⟩, -⟩ := hSw.1.cells15; go_simp; (try with_reducible rfl)
  simp only [Act.put, nrm]
  refine wpAnyH_take (i := 6) (v := ?_) rfl (by kernel_rfl) (by kernel_rfl) (by kernel_rfl) (fun _ _ _ h => h) (Or.inl ⟨by rfl, ?_⟩) hHeld ?_
  rotate_left
  · intro wq hSw; go_simp; (try with_reducible rfl)
  simp only [Act.put, nrm]
  refine wpAnyH_take (i := 7) (v := ?_) rfl (by kernel_rfl) (by kernel_rfl) (by kernel_rfl) (fun _ _ _ h => h) (Or.inl ⟨by rfl, ?_⟩) hHeld ?_
  rotate_left
  · intro wq hSw; obtain ⟨⟨q0, q1, q2, q3, q4, q5, q6, q7, q8, q9, q10, q11, q12, q13, q14⟩, -⟩ := hSw.1.cells15; go_simp; (try with_reducible rfl)
  simp only [Act.put, nrm]
  refine wpAnyH_take (i := 9) (v := ?_) rfl (by kernel_rfl) (by kernel_rfl) (by kernel_rfl) (fun _ _ _ h => h) (Or.inl ⟨by rfl, ?_⟩) hHeld ?_
  rotate_left
  · intro wq hSw; go_simp; (try with_reducible rfl)
  simp only [Act.put, nrm]
  refine wpAnyH_take (i := 10) (v := ?_) rfl (by kernel_rfl) (by kernel_rfl) (by kernel_rfl) (fun _ _ _ h => h) (Or.inl ⟨by rfl, ?_⟩) hHeld ?_
  rotate_left
  · intro wq hSw; obtain ⟨⟨q0, q1, q2, q3, q4, q5, q6, q7, q8, q9, q10, q11, q12, q13, q14⟩, -⟩ := hSw.1.cells15; go_simp; (try with_reducible rfl)
  simp only [Act.put, nrm]
  refine wpAnyH_take (i := 12) (v := ?_) rfl (by kernel_rfl) (by kernel_rfl) (by kernel_rfl) (fun _ _ _ h => h) (Or.inl ⟨by rfl, ?_⟩) hHeld ?_
  rotate_left
  · intro wq hSw; go_simp; (try with_reducible rfl)
  simp only [Act.put, nrm]
  refine wpAnyH_take (i := 13) (v := ?_) rfl (by kernel_rfl) (by kernel_rfl) (by kernel_rfl) (fun _ _ _ h => h) (Or.inl ⟨by rfl, ?_⟩) hHeld ?_
  rotate_left
  · intro wq hSw; obtain ⟨⟨q0, q1, q2, q3, q4, q5, q6, q7, q8, q9, q10, q11, q12, q13, q14⟩, -⟩ := hSw.1.cells15; go_simp; (try with_reducible rfl)
  simp only [Act.put, nrm]
  refine wpAnyH_take (i := 14) (v := ?_) rfl (by kernel_rfl) (by kernel_rfl) (by kernel_rfl) (fun _ _ _ h => h) (Or.inl ⟨by rfl, ?_⟩) hHeld ?_
  rotate_left
  · intro wq hSw; go_simp; (try with_reducible rfl)
  simp only [Act.put, nrm]
  refine wpAnyH_take (i := 15) (v := ?_) rfl (by kernel_rfl) (by kernel_rfl) (by kernel_rfl) (fun _ _ _ h => h) (Or.inl ⟨by rfl, ?_⟩) hHeld ?_
  rotate_left
  · intro wq hSw; obtain ⟨⟨q0, q1, q2, q3, q4, q5, q6, q7, q8, q9, q10, q11, q12, q13, q14⟩, -⟩ := hSw.1.cells15; go_simp; (try with_reducible rfl)
  simp only [Act.put, nrm]
  refine wpAnyH_take (i := 16) (v := ?_) rfl (by kernel_rfl) (by kernel_rfl) (by kernel_rfl) (fun _ _ _ h => h) (Or.inl ⟨by rfl, ?_⟩) hHeld ?_
  rotate_left
  · intro wq hSw; go_simp; (try with_reducible rfl)
  simp only [Act.put, nrm]
  refine wpAnyH_take (i := 17) (v := ?_) rfl (by kernel_rfl) (by kernel_rfl) (by kernel_rfl) (fun _ _ _ h => h) (Or.inl ⟨by rfl, ?_⟩) hHeld ?_
  rotate_left
  · intro wq hSw; obtain ⟨⟨q0, q1, q2, q3, q4, q5, q6, q7, q8, q9, q10, q11, q12, q13, q14⟩, -⟩ := hSw.1.cells15; go_simp; (try with_reducible rfl)
  simp only [Act.put, nrm]
  refine wpAnyH_take (i := 18) (v := ?_) rfl (by kernel_rfl) (by kernel_rfl) (by kernel_rfl) (fun _ _ _ h => h) (Or.inl ⟨by rfl, ?_⟩) hHeld ?_
  rotate_left
  · intro wq hSw; go_simp; (try with_reducible rfl)
  simp only [Act.put, nrm]
  refine wpAnyH_take (i := 19) (v := ?_) rfl (by kernel_rfl) (by kernel_rfl) (by kernel_rfl) (fun _ _ _ h => h) (Or.inl ⟨by rfl, ?_⟩) hHeld ?_
  rotate_left
  · intro wq hSw; obtain ⟨⟨q0, q1, q2, q3, q4, q5, q6, q7, q8, q9, q10, q11, q12, q13, q14⟩, -⟩ := hSw.1.cells15; go_simp; (try with_reducible rfl)
  simp only [Act.put, nrm]
  refine wpAnyH_take (i := 20) (v := ?_) rfl (by kernel_rfl) (by kernel_rfl) (by kernel_rfl) (fun _ _ _ h => h) (Or.inl ⟨by rfl, ?_⟩) hHeld ?_
  rotate_left
  · intro wq hSw; go_simp; (try with_reducible rfl)
  simp only [Act.put, nrm]
  refine wpAnyH_take (i := 21) (v := ?_) rfl (by kernel_rfl) (by kernel_rfl) (by kernel_rfl) (fun _ _ _ h => h) (Or.inl ⟨by rfl, ?_⟩) hHeld ?_
  rotate_left
  · intro wq hSw; obtain ⟨⟨q0, q1, q2, q3, q4, q5, q6, q7, q8, q9, q10, q11, q12, q13, q14⟩, -⟩ := hSw.1.cells15; go_simp; (try with_reducible rfl)
  simp only [Act.put, nrm]
  refine wpAnyH_one (i := 8) (by kernel_rfl) rfl (fun K hK => ?_)
  simp only [nrm]
  go_simp
  (with_reducible refine (given20_any x.p _).mono ?_)
  rintro e v0 ⟨rfl, hb0⟩
  have hS0 : Bx v0 w.heap.size 28 #[.int .u8 (x.op : Nat), .int .u8 (x.client : Nat), V64 x.number, .int .u8 (x.p.a.fam : Nat), V64 x.p.a.hi, V64 x.p.a.lo, .int .i64 x.p.bits, .int .u8 (x.a.fam : Nat), V64 x.a.hi, V64 x.a.lo, S x.owner, S x.to, V64 x.d, V64 x.fr, .int .i64 x.n] ∧ Below w.heap.size w v0 := ⟨hHeld.1.up hb0, Chain.up hHeld.2 hb0⟩
  have hz0 := (h2.drew).up hb0
  refine hK.out _ _ hS0 ?_
  clear hK K
  refine wpAnyH_one (i := 11) (by kernel_rfl) rfl (fun K hK => ?_)
  simp only [nrm]
  go_simp
  (with_reducible refine (given19_any x.a _).mono ?_)
  rintro e v1 ⟨rfl, hb1⟩
  have hS1 : Bx v1 w.heap.size 28 #[.int .u8 (x.op : Nat), .int .u8 (x.client : Nat), V64 x.number, .int .u8 (x.p.a.fam : Nat), V64 x.p.a.hi, V64 x.p.a.lo, .int .i64 x.p.bits, .int .u8 (x.a.fam : Nat), V64 x.a.hi, V64 x.a.lo, S x.owner, S x.to, V64 x.d, V64 x.fr, .int .i64 x.n] ∧ Below w.heap.size w v1 := ⟨hS0.1.up hb1, Chain.up hS0.2 hb1⟩
  have hz1 := hz0.up hb1
  refine hK.out _ _ hS1 ?_
  clear hK K
  refine wpAnyH_take (i := 22) (v := .agg #[.int .u8 (x.op : Nat), .int .u8 (x.client : Nat), V64 x.number, .int .u8 (x.p.a.fam : Nat), V64 x.p.a.hi, V64 x.p.a.lo, .int .i64 x.p.bits, .int .u8 (x.a.fam : Nat), V64 x.a.hi, V64 x.a.lo, S x.owner, S x.to, V64 x.d, V64 x.fr, .int .i64 x.n]) rfl (by kernel_rfl) (by kernel_rfl) (by kernel_rfl) (fun _ _ _ h => h) (Or.inl ⟨by rfl, ?_⟩) hS1 ?_
  · intro wq hSw; go_simp; (try with_reducible rfl); (try rfl)
  simp only [Act.put, nrm]
  refine wpAnyH_one (i := 23) (by kernel_rfl) rfl (fun K hK => ?_)
  simp only [nrm]
  rw [if_pos (by rfl)]
  refine wp_stB _ _ _ (by rfl) hz1 _ _ (by rfl) (by rfl) 15 15 (by rfl) (by rfl) (by decide) infoRC (by rfl) (by rfl) ?_
  intro v9 hz' hb9
  have h9 : Bx v9 (w.heap.size + 1) 46 #[.int .u8 (x.op : Nat), .int .u8 (x.client : Nat), V64 x.number, .int .u8 (x.p.a.fam : Nat), V64 x.p.a.hi, V64 x.p.a.lo, .int .i64 x.p.bits, .int .u8 (x.a.fam : Nat), V64 x.a.hi, V64 x.a.lo, S x.owner, S x.to, V64 x.d, V64 x.fr, .int .i64 x.n] := hz'
  have hS9 : Bx v9 w.heap.size 28 #[.int .u8 (x.op : Nat), .int .u8 (x.client : Nat), V64 x.number, .int .u8 (x.p.a.fam : Nat), V64 x.p.a.hi, V64 x.p.a.lo, .int .i64 x.p.bits, .int .u8 (x.a.fam : Nat), V64 x.a.hi, V64 x.a.lo, S x.owner, S x.to, V64 x.d, V64 x.fr, .int .i64 x.n] ∧ Below w.heap.size w v9 := ⟨hS1.1.but hb9 (by omega), hS1.2.trans (hb9.below (Nat.le_succ _) hS1.2.size)⟩
  refine hK.out _ _ hS9 ?_
  simp only [Act.put, nrm]
  clear hK K
  refine wpAnyH_done (by kernel_rfl) ?_ _
  go_wp2_with fail
  exact bodyPost_ret (results_box rfl (by rfl) (loadB h9 structRC infoRC rfl)) rfl ⟨rfl, hS9.2⟩
set_option maxRecDepth 100000 in
theorem ref19Right_any (x : P.Ad) (w : World) : Calls Tryd.prog 39 #[adV x] w fun e w' => e = .returned (.bool (P.adOk x)) ∧ Below w.heap.size w w' := by
  have h1 := Bx.fresh w 42 #[.int .u8 (x.fam : Nat), V64 x.hi, V64 x.lo]
  have hA := (Below.refl w.heap.size w).alloc (Nat.le_refl _) (.cells #[.int .u8 (x.fam : Nat), V64 x.hi, V64 x.lo] 42)
  obtain ⟨c0, c1, c2, _, _, _⟩ := h1.three
  by_cases h4 : x.fam = 4
  · have t4 : ((x.fam : Int) == 4) = true := beq_iff_eq.2 (by omega)
    have Hk := Lib.hid (show P.adOk x = (decide (x.hi = 0) && decide (x.lo < 4294967296)) by unfold P.adOk; rw [h4]; simp)
    clear h4
    by_cases hh : x.hi = 0
    · have t0 : ((x.hi : Int) == 0) = true := beq_iff_eq.2 (by omega)
      have hk2 : P.adOk x = decide (x.lo < 4294967296) := by rw [Hk.out, hh]; simp
      have Hk2 := Lib.hid hk2
      clear hh Hk hk2
      go_enter Tryd.func39, Tryd.ntmps39
      go_wp2_with fail
      all_goals (go_ret; refine ⟨ret_bool ?_, hA⟩; rw [Hk2.out]; exact decide_eq_decide.2 (by omega))
    · have t0 : ((x.hi : Int) == 0) = false := beq_eq_false_iff_ne.2 (by omega)
      have hk2 : P.adOk x = false := by rw [Hk.out]; simp [hh]
      have Hk2 := Lib.hid hk2
      clear hh Hk hk2
      go_enter Tryd.func39, Tryd.ntmps39
      go_wp2_with fail
      all_goals (go_ret; refine ⟨ret_bool ?_, hA⟩; rw [Hk2.out])
  · have t4 : ((x.fam : Int) == 4) = false := beq_eq_false_iff_ne.2 (by omega)
    have Hk := Lib.hid (show P.adOk x = decide (x.fam = 6) by unfold P.adOk; simp [h4])
    clear h4
    go_enter Tryd.func39, Tryd.ntmps39
    go_wp2_with fail
    all_goals (go_ret; refine ⟨ret_bool ?_, hA⟩; rw [Hk.out]; first | rfl | (rw [Bool.eq_iff_iff]; simp; omega))
end Go.Proofs.YtcobfoiajdbahaaDoor
namespace Go.Proofs.YtcobfoiajdbahaaDoor
open Go.RowKit
set_option linter.unusedVariables false
set_option linter.unusedSimpArgs false
theorem P.be8 (n : Nat) : P.be 8 n = [P.byt (n / 72057594037927936), P.byt (n / 281474976710656), P.byt (n / 1099511627776), P.byt (n / 4294967296), P.byt (n / 16777216), P.byt (n / 65536), P.byt (n / 256), P.byt n] := by simp [P.be, Nat.div_div_eq_div_mul]
theorem P.be4 (n : Nat) : P.be 4 n = [P.byt (n / 16777216), P.byt (n / 65536), P.byt (n / 256), P.byt n] := by simp [P.be, Nat.div_div_eq_div_mul]
set_option maxRecDepth 100000 in
set_option maxHeartbeats 8000000 in
theorem ref19Bytes_six (x : P.Ad) (h6 : x.fam = 6) (ht : P.tyA x) (w : World) : Calls Tryd.prog 78 #[adV x] w fun e w' => ∃ v, e = .returned v ∧ Own w' w.heap.size v (P.adB x) ∧ Below w.heap.size w w' := by
  have h1 := Bx.fresh w 42 #[.int .u8 (x.fam : Nat), V64 x.hi, V64 x.lo]
  have hA := (Below.refl w.heap.size w).alloc (Nat.le_refl _) (.cells #[.int .u8 (x.fam : Nat), V64 x.hi, V64 x.lo] 42)
  obtain ⟨c0, c1, c2, _, _, _⟩ := h1.three
  have hR := ref19Right_any x
  have hok : P.adOk x = true := by unfold P.adOk; simp [h6]
  simp only [hok] at hR
  have HR := Lib.hid hR
  have t6 : ((x.fam : Int) == 6) = true := beq_iff_eq.2 (by omega)
  have hhi := ht.2.1
  have hlo := ht.2.2
  have Hres := Lib.hid (P.adB_six hok h6)
  clear hR hok ht h6
  go_enter Tryd.func78, Tryd.ntmps78
  go_wp2_with (go_at_call 39; (with_reducible refine (HR.out _).mono ?_); rintro e w1 ⟨rfl, hb1⟩; have h2 := h1.up hb1; have hA1 := Chain.up hA hb1)
  go_loopw [3, 4] (fun s k wr => ∃ (j : Nat) (a : Option Addr) (c : Nat), j ≤ 8 ∧ k = .int .i64 (7 - (j : Int)) ∧ s = .slice a j c ∧ Own wr w.heap.size (.slice a j c) ((P.be 8 x.hi).take j) ∧ Bx wr w.heap.size 42 #[.int .u8 (x.fam : Nat), V64 x.hi, V64 x.lo] ∧ Below w.heap.size w wr) (fun _ k _ => ((intOf k) + 1).toNat)
  case atStart => exact ⟨0, none, 0, by omega, rfl, rfl, own_nil _ _, h2, hA1⟩
  case round =>
    clear h1 h2 hA hA1 c0 c1 c2
    obtain ⟨j, a, c, hj, rfl, rfl, hown, h1, hb⟩ := hrel
    obtain ⟨c0, c1, c2, _, _, _⟩ := h1.three
    have hlt := h1.lt
    rcases (show j = 0 ∨ j = 1 ∨ j = 2 ∨ j = 3 ∨ j = 4 ∨ j = 5 ∨ j = 6 ∨ j = 7 ∨ j = 8 by omega) with rfl | rfl | rfl | rfl | rfl | rfl | rfl | rfl | rfl
    · have hv : ((x.hi : Int) / 72057594037927936) = ((P.byt (x.hi / 72057594037927936)).toNat : Int) := by rw [P.byt_toNat]; omega
      have htk : (P.be 8 x.hi).take 1 = (P.be 8 x.hi).take 0 ++ [P.byt (x.hi / 72057594037927936)] := by rw [P.be8 x.hi] <;> rfl
      have Htk := Lib.hid htk
      have hlen : ((P.be 8 x.hi).take 0).length = 0 := by rw [List.length_take, P.be_length] <;> rfl
      have hownA := hown.alloc (.cells #[.int .u8 ((x.hi : Int) / 72057594037927936)] 5)
      have hr := rows_new 1 byQ byQ_len wr [P.byt (x.hi / 72057594037927936)] #[.int .u8 ((x.hi : Int) / 72057594037927936)] 5 (by rw [hv]; rfl)
      have hA1 := (Below.refl wr.heap.size wr).alloc (Nat.le_refl _) (.cells #[.int .u8 ((x.hi : Int) / 72057594037927936)] 5)
      have Hlen := Lib.hid hlen
      clear hv htk hlen
      generalize (P.be 8 x.hi).take 0 = l at *
      go_wp2_with (at_builtin; (refine wpList_appQ (by rfl) _ _ (by rfl) w.heap.size _ l [P.byt (x.hi / 72057594037927936)] (by rfl) hownA (by have := Hlen.out; simp only [List.length_singleton]; omega) _ _ _ (by rfl) (by rfl) hr (by have := hA1.size; omega) ?_); intro b' c' w2 hown2 hb2 hkt2)
      go_roundw
      case rel => exact ⟨1, b', c', by omega, by first | rfl | go_num, by rw [Hlen.out] <;> rfl, by rw [Htk.out]; have h := hown2; rw [Hlen.out] at h; exact h, hkt2 _ _ _ _ (by decide) (h1.up hA1), (hb.trans (hA1.mono hb.size)).trans hb2⟩
      case measure => simp [intOf]
    · have hv : ((x.hi : Int) / 281474976710656 % 256) = ((P.byt (x.hi / 281474976710656)).toNat : Int) := by rw [P.byt_toNat]; omega
      have htk : (P.be 8 x.hi).take 2 = (P.be 8 x.hi).take 1 ++ [P.byt (x.hi / 281474976710656)] := by rw [P.be8 x.hi] <;> rfl
      have Htk := Lib.hid htk
      have hlen : ((P.be 8 x.hi).take 1).length = 1 := by rw [List.length_take, P.be_length] <;> rfl
      have hownA := hown.alloc (.cells #[.int .u8 ((x.hi : Int) / 281474976710656 % 256)] 5)
      have hr := rows_new 1 byQ byQ_len wr [P.byt (x.hi / 281474976710656)] #[.int .u8 ((x.hi : Int) / 281474976710656 % 256)] 5 (by rw [hv]; rfl)
      have hA1 := (Below.refl wr.heap.size wr).alloc (Nat.le_refl _) (.cells #[.int .u8 ((x.hi : Int) / 281474976710656 % 256)] 5)
      have Hlen := Lib.hid hlen
      clear hv htk hlen
      generalize (P.be 8 x.hi).take 1 = l at *
      go_wp2_with (at_builtin; (refine wpList_appQ (by rfl) _ _ (by rfl) w.heap.size _ l [P.byt (x.hi / 281474976710656)] (by rfl) hownA (by have := Hlen.out; simp only [List.length_singleton]; omega) _ _ _ (by rfl) (by rfl) hr (by have := hA1.size; omega) ?_); intro b' c' w2 hown2 hb2 hkt2)
      go_roundw
      case rel => exact ⟨2, b', c', by omega, by first | rfl | go_num, by rw [Hlen.out] <;> rfl, by rw [Htk.out]; have h := hown2; rw [Hlen.out] at h; exact h, hkt2 _ _ _ _ (by decide) (h1.up hA1), (hb.trans (hA1.mono hb.size)).trans hb2⟩
      case measure => simp [intOf]
    · have hv : ((x.hi : Int) / 1099511627776 % 256) = ((P.byt (x.hi / 1099511627776)).toNat : Int) := by rw [P.byt_toNat]; omega
      have htk : (P.be 8 x.hi).take 3 = (P.be 8 x.hi).take 2 ++ [P.byt (x.hi / 1099511627776)] := by rw [P.be8 x.hi] <;> rfl
      have Htk := Lib.hid htk
      have hlen : ((P.be 8 x.hi).take 2).length = 2 := by rw [List.length_take, P.be_length] <;> rfl
      have hownA := hown.alloc (.cells #[.int .u8 ((x.hi : Int) / 1099511627776 % 256)] 5)
      have hr := rows_new 1 byQ byQ_len wr [P.byt (x.hi / 1099511627776)] #[.int .u8 ((x.hi : Int) / 1099511627776 % 256)] 5 (by rw [hv]; rfl)
      have hA1 := (Below.refl wr.heap.size wr).alloc (Nat.le_refl _) (.cells #[.int .u8 ((x.hi : Int) / 1099511627776 % 256)] 5)
      have Hlen := Lib.hid hlen
      clear hv htk hlen
      generalize (P.be 8 x.hi).take 2 = l at *
      go_wp2_with (at_builtin; (refine wpList_appQ (by rfl) _ _ (by rfl) w.heap.size _ l [P.byt (x.hi / 1099511627776)] (by rfl) hownA (by have := Hlen.out; simp only [List.length_singleton]; omega) _ _ _ (by rfl) (by rfl) hr (by have := hA1.size; omega) ?_); intro b' c' w2 hown2 hb2 hkt2)
      go_roundw
      case rel => exact ⟨3, b', c', by omega, by first | rfl | go_num, by rw [Hlen.out] <;> rfl, by rw [Htk.out]; have h := hown2; rw [Hlen.out] at h; exact h, hkt2 _ _ _ _ (by decide) (h1.up hA1), (hb.trans (hA1.mono hb.size)).trans hb2⟩
      case measure => simp [intOf]
    · have hv : ((x.hi : Int) / 4294967296 % 256) = ((P.byt (x.hi / 4294967296)).toNat : Int) := by rw [P.byt_toNat]; omega
      have htk : (P.be 8 x.hi).take 4 = (P.be 8 x.hi).take 3 ++ [P.byt (x.hi / 4294967296)] := by rw [P.be8 x.hi] <;> rfl
      have Htk := Lib.hid htk
      have hlen : ((P.be 8 x.hi).take 3).length = 3 := by rw [List.length_take, P.be_length] <;> rfl
      have hownA := hown.alloc (.cells #[.int .u8 ((x.hi : Int) / 4294967296 % 256)] 5)
      have hr := rows_new 1 byQ byQ_len wr [P.byt (x.hi / 4294967296)] #[.int .u8 ((x.hi : Int) / 4294967296 % 256)] 5 (by rw [hv]; rfl)
      have hA1 := (Below.refl wr.heap.size wr).alloc (Nat.le_refl _) (.cells #[.int .u8 ((x.hi : Int) / 4294967296 % 256)] 5)
      have Hlen := Lib.hid hlen
      clear hv htk hlen
      generalize (P.be 8 x.hi).take 3 = l at *
      go_wp2_with (at_builtin; (refine wpList_appQ (by rfl) _ _ (by rfl) w.heap.size _ l [P.byt (x.hi / 4294967296)] (by rfl) hownA (by have := Hlen.out; simp only [List.length_singleton]; omega) _ _ _ (by rfl) (by rfl) hr (by have := hA1.size; omega) ?_); intro b' c' w2 hown2 hb2 hkt2)
      go_roundw
      case rel => exact ⟨4, b', c', by omega, by first | rfl | go_num, by rw [Hlen.out] <;> rfl, by rw [Htk.out]; have h := hown2; rw [Hlen.out] at h; exact h, hkt2 _ _ _ _ (by decide) (h1.up hA1), (hb.trans (hA1.mono hb.size)).trans hb2⟩
      case measure => simp [intOf]
    · have hv : ((x.hi : Int) / 16777216 % 256) = ((P.byt (x.hi / 16777216)).toNat : Int) := by rw [P.byt_toNat]; omega
      have htk : (P.be 8 x.hi).take 5 = (P.be 8 x.hi).take 4 ++ [P.byt (x.hi / 16777216)] := by rw [P.be8 x.hi] <;> rfl
      have Htk := Lib.hid htk
      have hlen : ((P.be 8 x.hi).take 4).length = 4 := by rw [List.length_take, P.be_length] <;> rfl
      have hownA := hown.alloc (.cells #[.int .u8 ((x.hi : Int) / 16777216 % 256)] 5)
      have hr := rows_new 1 byQ byQ_len wr [P.byt (x.hi / 16777216)] #[.int .u8 ((x.hi : Int) / 16777216 % 256)] 5 (by rw [hv]; rfl)
      have hA1 := (Below.refl wr.heap.size wr).alloc (Nat.le_refl _) (.cells #[.int .u8 ((x.hi : Int) / 16777216 % 256)] 5)
      have Hlen := Lib.hid hlen
      clear hv htk hlen
      generalize (P.be 8 x.hi).take 4 = l at *
      go_wp2_with (at_builtin; (refine wpList_appQ (by rfl) _ _ (by rfl) w.heap.size _ l [P.byt (x.hi / 16777216)] (by rfl) hownA (by have := Hlen.out; simp only [List.length_singleton]; omega) _ _ _ (by rfl) (by rfl) hr (by have := hA1.size; omega) ?_); intro b' c' w2 hown2 hb2 hkt2)
      go_roundw
      case rel => exact ⟨5, b', c', by omega, by first | rfl | go_num, by rw [Hlen.out] <;> rfl, by rw [Htk.out]; have h := hown2; rw [Hlen.out] at h; exact h, hkt2 _ _ _ _ (by decide) (h1.up hA1), (hb.trans (hA1.mono hb.size)).trans hb2⟩
      case measure => simp [intOf]
    · have hv : ((x.hi : Int) / 65536 % 256) = ((P.byt (x.hi / 65536)).toNat : Int) := by rw [P.byt_toNat]; omega
      have htk : (P.be 8 x.hi).take 6 = (P.be 8 x.hi).take 5 ++ [P.byt (x.hi / 65536)] := by rw [P.be8 x.hi] <;> rfl
      have Htk := Lib.hid htk
      have hlen : ((P.be 8 x.hi).take 5).length = 5 := by rw [List.length_take, P.be_length] <;> rfl
      have hownA := hown.alloc (.cells #[.int .u8 ((x.hi : Int) / 65536 % 256)] 5)
      have hr := rows_new 1 byQ byQ_len wr [P.byt (x.hi / 65536)] #[.int .u8 ((x.hi : Int) / 65536 % 256)] 5 (by rw [hv]; rfl)
      have hA1 := (Below.refl wr.heap.size wr).alloc (Nat.le_refl _) (.cells #[.int .u8 ((x.hi : Int) / 65536 % 256)] 5)
      have Hlen := Lib.hid hlen
      clear hv htk hlen
      generalize (P.be 8 x.hi).take 5 = l at *
      go_wp2_with (at_builtin; (refine wpList_appQ (by rfl) _ _ (by rfl) w.heap.size _ l [P.byt (x.hi / 65536)] (by rfl) hownA (by have := Hlen.out; simp only [List.length_singleton]; omega) _ _ _ (by rfl) (by rfl) hr (by have := hA1.size; omega) ?_); intro b' c' w2 hown2 hb2 hkt2)
      go_roundw
      case rel => exact ⟨6, b', c', by omega, by first | rfl | go_num, by rw [Hlen.out] <;> rfl, by rw [Htk.out]; have h := hown2; rw [Hlen.out] at h; exact h, hkt2 _ _ _ _ (by decide) (h1.up hA1), (hb.trans (hA1.mono hb.size)).trans hb2⟩
      case measure => simp [intOf]
    · have hv : ((x.hi : Int) / 256 % 256) = ((P.byt (x.hi / 256)).toNat : Int) := by rw [P.byt_toNat]; omega
      have htk : (P.be 8 x.hi).take 7 = (P.be 8 x.hi).take 6 ++ [P.byt (x.hi / 256)] := by rw [P.be8 x.hi] <;> rfl
      have Htk := Lib.hid htk
      have hlen : ((P.be 8 x.hi).take 6).length = 6 := by rw [List.length_take, P.be_length] <;> rfl
      have hownA := hown.alloc (.cells #[.int .u8 ((x.hi : Int) / 256 % 256)] 5)
      have hr := rows_new 1 byQ byQ_len wr [P.byt (x.hi / 256)] #[.int .u8 ((x.hi : Int) / 256 % 256)] 5 (by rw [hv]; rfl)
      have hA1 := (Below.refl wr.heap.size wr).alloc (Nat.le_refl _) (.cells #[.int .u8 ((x.hi : Int) / 256 % 256)] 5)
      have Hlen := Lib.hid hlen
      clear hv htk hlen
      generalize (P.be 8 x.hi).take 6 = l at *
      go_wp2_with (at_builtin; (refine wpList_appQ (by rfl) _ _ (by rfl) w.heap.size _ l [P.byt (x.hi / 256)] (by rfl) hownA (by have := Hlen.out; simp only [List.length_singleton]; omega) _ _ _ (by rfl) (by rfl) hr (by have := hA1.size; omega) ?_); intro b' c' w2 hown2 hb2 hkt2)
      go_roundw
      case rel => exact ⟨7, b', c', by omega, by first | rfl | go_num, by rw [Hlen.out] <;> rfl, by rw [Htk.out]; have h := hown2; rw [Hlen.out] at h; exact h, hkt2 _ _ _ _ (by decide) (h1.up hA1), (hb.trans (hA1.mono hb.size)).trans hb2⟩
      case measure => simp [intOf]
    · have hv : ((x.hi : Int) % 256) = ((P.byt (x.hi)).toNat : Int) := by rw [P.byt_toNat]; omega
      have htk : (P.be 8 x.hi).take 8 = (P.be 8 x.hi).take 7 ++ [P.byt (x.hi)] := by rw [P.be8 x.hi] <;> rfl
      have Htk := Lib.hid htk
      have hlen : ((P.be 8 x.hi).take 7).length = 7 := by rw [List.length_take, P.be_length] <;> rfl
      have hownA := hown.alloc (.cells #[.int .u8 ((x.hi : Int) % 256)] 5)
      have hr := rows_new 1 byQ byQ_len wr [P.byt (x.hi)] #[.int .u8 ((x.hi : Int) % 256)] 5 (by rw [hv]; rfl)
      have hA1 := (Below.refl wr.heap.size wr).alloc (Nat.le_refl _) (.cells #[.int .u8 ((x.hi : Int) % 256)] 5)
      have Hlen := Lib.hid hlen
      clear hv htk hlen
      generalize (P.be 8 x.hi).take 7 = l at *
      go_wp2_with (at_builtin; (refine wpList_appQ (by rfl) _ _ (by rfl) w.heap.size _ l [P.byt (x.hi)] (by rfl) hownA (by have := Hlen.out; simp only [List.length_singleton]; omega) _ _ _ (by rfl) (by rfl) hr (by have := hA1.size; omega) ?_); intro b' c' w2 hown2 hb2 hkt2)
      go_roundw
      case rel => exact ⟨8, b', c', by omega, by first | rfl | go_num, by rw [Hlen.out] <;> rfl, by rw [Htk.out]; have h := hown2; rw [Hlen.out] at h; exact h, hkt2 _ _ _ _ (by decide) (h1.up hA1), (hb.trans (hA1.mono hb.size)).trans hb2⟩
      case measure => simp [intOf]
    · rw [show ((7 : Int) - ((8 : Nat) : Int)) = -1 from rfl]
      rw [show (P.be 8 x.hi).take 8 = P.be 8 x.hi from List.take_of_length_le (by rw [P.be_length]; omega)] at hown
      go_wp2_with fail
      go_loopw [3, 5] (fun s k wr2 => ∃ (j : Nat) (a : Option Addr) (c : Nat), j ≤ 8 ∧ k = .int .i64 (7 - (j : Int)) ∧ s = .slice a (8 + j) c ∧ Own wr2 w.heap.size (.slice a (8 + j) c) (P.be 8 x.hi ++ (P.be 8 x.lo).take j) ∧ Bx wr2 w.heap.size 42 #[.int .u8 (x.fam : Nat), V64 x.hi, V64 x.lo] ∧ Below w.heap.size w wr2) (fun _ k _ => ((intOf k) + 1).toNat)
      case atStart => exact ⟨0, a, c, by omega, rfl, rfl, by simpa using hown, h1, hb⟩
      case round =>
        clear h1 hb hown c0 c1 c2 hlt
        obtain ⟨j, a, c, hj, rfl, rfl, hown, h1, hb⟩ := hrel
        obtain ⟨c0, c1, c2, _, _, _⟩ := h1.three
        have hlt := h1.lt
        rcases (show j = 0 ∨ j = 1 ∨ j = 2 ∨ j = 3 ∨ j = 4 ∨ j = 5 ∨ j = 6 ∨ j = 7 ∨ j = 8 by omega) with rfl | rfl | rfl | rfl | rfl | rfl | rfl | rfl | rfl
        · have hv : ((x.lo : Int) / 72057594037927936) = ((P.byt (x.lo / 72057594037927936)).toNat : Int) := by rw [P.byt_toNat]; omega
          have htk : P.be 8 x.hi ++ (P.be 8 x.lo).take 1 = (P.be 8 x.hi ++ (P.be 8 x.lo).take 0) ++ [P.byt (x.lo / 72057594037927936)] := by rw [P.be8 x.lo, List.append_assoc] <;> rfl
          have Htk := Lib.hid htk
          have hlen : ((P.be 8 x.hi ++ (P.be 8 x.lo).take 0)).length = 8 := by rw [List.length_append, P.be_length]; rw [List.length_take, P.be_length] <;> rfl
          have hownA := hown.alloc (.cells #[.int .u8 ((x.lo : Int) / 72057594037927936)] 5)
          have hr := rows_new 1 byQ byQ_len wr [P.byt (x.lo / 72057594037927936)] #[.int .u8 ((x.lo : Int) / 72057594037927936)] 5 (by rw [hv]; rfl)
          have hA1 := (Below.refl wr.heap.size wr).alloc (Nat.le_refl _) (.cells #[.int .u8 ((x.lo : Int) / 72057594037927936)] 5)
          have Hlen := Lib.hid hlen
          clear hv htk hlen
          generalize (P.be 8 x.hi ++ (P.be 8 x.lo).take 0) = l at *
          go_wp2_with (at_builtin; (refine wpList_appQ (by rfl) _ _ (by rfl) w.heap.size _ l [P.byt (x.lo / 72057594037927936)] (by rfl) hownA (by have := Hlen.out; simp only [List.length_singleton]; omega) _ _ _ (by rfl) (by rfl) hr (by have := hA1.size; omega) ?_); intro b' c' w2 hown2 hb2 hkt2)
          go_roundw
          case rel => exact ⟨1, b', c', by omega, by first | rfl | go_num, by rw [Hlen.out] <;> rfl, by rw [Htk.out]; have h := hown2; rw [Hlen.out] at h; exact h, hkt2 _ _ _ _ (by decide) (h1.up hA1), (hb.trans (hA1.mono hb.size)).trans hb2⟩
          case measure => simp [intOf]
        · have hv : ((x.lo : Int) / 281474976710656 % 256) = ((P.byt (x.lo / 281474976710656)).toNat : Int) := by rw [P.byt_toNat]; omega
          have htk : P.be 8 x.hi ++ (P.be 8 x.lo).take 2 = (P.be 8 x.hi ++ (P.be 8 x.lo).take 1) ++ [P.byt (x.lo / 281474976710656)] := by rw [P.be8 x.lo, List.append_assoc] <;> rfl
          have Htk := Lib.hid htk
          have hlen : ((P.be 8 x.hi ++ (P.be 8 x.lo).take 1)).length = 9 := by rw [List.length_append, P.be_length]; rw [List.length_take, P.be_length] <;> rfl
          have hownA := hown.alloc (.cells #[.int .u8 ((x.lo : Int) / 281474976710656 % 256)] 5)
          have hr := rows_new 1 byQ byQ_len wr [P.byt (x.lo / 281474976710656)] #[.int .u8 ((x.lo : Int) / 281474976710656 % 256)] 5 (by rw [hv]; rfl)
          have hA1 := (Below.refl wr.heap.size wr).alloc (Nat.le_refl _) (.cells #[.int .u8 ((x.lo : Int) / 281474976710656 % 256)] 5)
          have Hlen := Lib.hid hlen
          clear hv htk hlen
          generalize (P.be 8 x.hi ++ (P.be 8 x.lo).take 1) = l at *
          go_wp2_with (at_builtin; (refine wpList_appQ (by rfl) _ _ (by rfl) w.heap.size _ l [P.byt (x.lo / 281474976710656)] (by rfl) hownA (by have := Hlen.out; simp only [List.length_singleton]; omega) _ _ _ (by rfl) (by rfl) hr (by have := hA1.size; omega) ?_); intro b' c' w2 hown2 hb2 hkt2)
          go_roundw
          case rel => exact ⟨2, b', c', by omega, by first | rfl | go_num, by rw [Hlen.out] <;> rfl, by rw [Htk.out]; have h := hown2; rw [Hlen.out] at h; exact h, hkt2 _ _ _ _ (by decide) (h1.up hA1), (hb.trans (hA1.mono hb.size)).trans hb2⟩
          case measure => simp [intOf]
        · have hv : ((x.lo : Int) / 1099511627776 % 256) = ((P.byt (x.lo / 1099511627776)).toNat : Int) := by rw [P.byt_toNat]; omega
          have htk : P.be 8 x.hi ++ (P.be 8 x.lo).take 3 = (P.be 8 x.hi ++ (P.be 8 x.lo).take 2) ++ [P.byt (x.lo / 1099511627776)] := by rw [P.be8 x.lo, List.append_assoc] <;> rfl
          have Htk := Lib.hid htk
          have hlen : ((P.be 8 x.hi ++ (P.be 8 x.lo).take 2)).length = 10 := by rw [List.length_append, P.be_length]; rw [List.length_take, P.be_length] <;> rfl
          have hownA := hown.alloc (.cells #[.int .u8 ((x.lo : Int) / 1099511627776 % 256)] 5)
          have hr := rows_new 1 byQ byQ_len wr [P.byt (x.lo / 1099511627776)] #[.int .u8 ((x.lo : Int) / 1099511627776 % 256)] 5 (by rw [hv]; rfl)
          have hA1 := (Below.refl wr.heap.size wr).alloc (Nat.le_refl _) (.cells #[.int .u8 ((x.lo : Int) / 1099511627776 % 256)] 5)
          have Hlen := Lib.hid hlen
          clear hv htk hlen
          generalize (P.be 8 x.hi ++ (P.be 8 x.lo).take 2) = l at *
          go_wp2_with (at_builtin; (refine wpList_appQ (by rfl) _ _ (by rfl) w.heap.size _ l [P.byt (x.lo / 1099511627776)] (by rfl) hownA (by have := Hlen.out; simp only [List.length_singleton]; omega) _ _ _ (by rfl) (by rfl) hr (by have := hA1.size; omega) ?_); intro b' c' w2 hown2 hb2 hkt2)
          go_roundw
          case rel => exact ⟨3, b', c', by omega, by first | rfl | go_num, by rw [Hlen.out] <;> rfl, by rw [Htk.out]; have h := hown2; rw [Hlen.out] at h; exact h, hkt2 _ _ _ _ (by decide) (h1.up hA1), (hb.trans (hA1.mono hb.size)).trans hb2⟩
          case measure => simp [intOf]
        · have hv : ((x.lo : Int) / 4294967296 % 256) = ((P.byt (x.lo / 4294967296)).toNat : Int) := by rw [P.byt_toNat]; omega
          have htk : P.be 8 x.hi ++ (P.be 8 x.lo).take 4 = (P.be 8 x.hi ++ (P.be 8 x.lo).take 3) ++ [P.byt (x.lo / 4294967296)] := by rw [P.be8 x.lo, List.append_assoc] <;> rfl
          have Htk := Lib.hid htk
          have hlen : ((P.be 8 x.hi ++ (P.be 8 x.lo).take 3)).length = 11 := by rw [List.length_append, P.be_length]; rw [List.length_take, P.be_length] <;> rfl
          have hownA := hown.alloc (.cells #[.int .u8 ((x.lo : Int) / 4294967296 % 256)] 5)
          have hr := rows_new 1 byQ byQ_len wr [P.byt (x.lo / 4294967296)] #[.int .u8 ((x.lo : Int) / 4294967296 % 256)] 5 (by rw [hv]; rfl)
          have hA1 := (Below.refl wr.heap.size wr).alloc (Nat.le_refl _) (.cells #[.int .u8 ((x.lo : Int) / 4294967296 % 256)] 5)
          have Hlen := Lib.hid hlen
          clear hv htk hlen
          generalize (P.be 8 x.hi ++ (P.be 8 x.lo).take 3) = l at *
          go_wp2_with (at_builtin; (refine wpList_appQ (by rfl) _ _ (by rfl) w.heap.size _ l [P.byt (x.lo / 4294967296)] (by rfl) hownA (by have := Hlen.out; simp only [List.length_singleton]; omega) _ _ _ (by rfl) (by rfl) hr (by have := hA1.size; omega) ?_); intro b' c' w2 hown2 hb2 hkt2)
          go_roundw
          case rel => exact ⟨4, b', c', by omega, by first | rfl | go_num, by rw [Hlen.out] <;> rfl, by rw [Htk.out]; have h := hown2; rw [Hlen.out] at h; exact h, hkt2 _ _ _ _ (by decide) (h1.up hA1), (hb.trans (hA1.mono hb.size)).trans hb2⟩
          case measure => simp [intOf]
        · have hv : ((x.lo : Int) / 16777216 % 256) = ((P.byt (x.lo / 16777216)).toNat : Int) := by rw [P.byt_toNat]; omega
          have htk : P.be 8 x.hi ++ (P.be 8 x.lo).take 5 = (P.be 8 x.hi ++ (P.be 8 x.lo).take 4) ++ [P.byt (x.lo / 16777216)] := by rw [P.be8 x.lo, List.append_assoc] <;> rfl
          have Htk := Lib.hid htk
          have hlen : ((P.be 8 x.hi ++ (P.be 8 x.lo).take 4)).length = 12 := by rw [List.length_append, P.be_length]; rw [List.length_take, P.be_length] <;> rfl
          have hownA := hown.alloc (.cells #[.int .u8 ((x.lo : Int) / 16777216 % 256)] 5)
          have hr := rows_new 1 byQ byQ_len wr [P.byt (x.lo / 16777216)] #[.int .u8 ((x.lo : Int) / 16777216 % 256)] 5 (by rw [hv]; rfl)
          have hA1 := (Below.refl wr.heap.size wr).alloc (Nat.le_refl _) (.cells #[.int .u8 ((x.lo : Int) / 16777216 % 256)] 5)
          have Hlen := Lib.hid hlen
          clear hv htk hlen
          generalize (P.be 8 x.hi ++ (P.be 8 x.lo).take 4) = l at *
          go_wp2_with (at_builtin; (refine wpList_appQ (by rfl) _ _ (by rfl) w.heap.size _ l [P.byt (x.lo / 16777216)] (by rfl) hownA (by have := Hlen.out; simp only [List.length_singleton]; omega) _ _ _ (by rfl) (by rfl) hr (by have := hA1.size; omega) ?_); intro b' c' w2 hown2 hb2 hkt2)
          go_roundw
          case rel => exact ⟨5, b', c', by omega, by first | rfl | go_num, by rw [Hlen.out] <;> rfl, by rw [Htk.out]; have h := hown2; rw [Hlen.out] at h; exact h, hkt2 _ _ _ _ (by decide) (h1.up hA1), (hb.trans (hA1.mono hb.size)).trans hb2⟩
          case measure => simp [intOf]
        · have hv : ((x.lo : Int) / 65536 % 256) = ((P.byt (x.lo / 65536)).toNat : Int) := by rw [P.byt_toNat]; omega
          have htk : P.be 8 x.hi ++ (P.be 8 x.lo).take 6 = (P.be 8 x.hi ++ (P.be 8 x.lo).take 5) ++ [P.byt (x.lo / 65536)] := by rw [P.be8 x.lo, List.append_assoc] <;> rfl
          have Htk := Lib.hid htk
          have hlen : ((P.be 8 x.hi ++ (P.be 8 x.lo).take 5)).length = 13 := by rw [List.length_append, P.be_length]; rw [List.length_take, P.be_length] <;> rfl
          have hownA := hown.alloc (.cells #[.int .u8 ((x.lo : Int) / 65536 % 256)] 5)
          have hr := rows_new 1 byQ byQ_len wr [P.byt (x.lo / 65536)] #[.int .u8 ((x.lo : Int) / 65536 % 256)] 5 (by rw [hv]; rfl)
          have hA1 := (Below.refl wr.heap.size wr).alloc (Nat.le_refl _) (.cells #[.int .u8 ((x.lo : Int) / 65536 % 256)] 5)
          have Hlen := Lib.hid hlen
          clear hv htk hlen
          generalize (P.be 8 x.hi ++ (P.be 8 x.lo).take 5) = l at *
          go_wp2_with (at_builtin; (refine wpList_appQ (by rfl) _ _ (by rfl) w.heap.size _ l [P.byt (x.lo / 65536)] (by rfl) hownA (by have := Hlen.out; simp only [List.length_singleton]; omega) _ _ _ (by rfl) (by rfl) hr (by have := hA1.size; omega) ?_); intro b' c' w2 hown2 hb2 hkt2)
          go_roundw
          case rel => exact ⟨6, b', c', by omega, by first | rfl | go_num, by rw [Hlen.out] <;> rfl, by rw [Htk.out]; have h := hown2; rw [Hlen.out] at h; exact h, hkt2 _ _ _ _ (by decide) (h1.up hA1), (hb.trans (hA1.mono hb.size)).trans hb2⟩
          case measure => simp [intOf]
        · have hv : ((x.lo : Int) / 256 % 256) = ((P.byt (x.lo / 256)).toNat : Int) := by rw [P.byt_toNat]; omega
          have htk : P.be 8 x.hi ++ (P.be 8 x.lo).take 7 = (P.be 8 x.hi ++ (P.be 8 x.lo).take 6) ++ [P.byt (x.lo / 256)] := by rw [P.be8 x.lo, List.append_assoc] <;> rfl
          have Htk := Lib.hid htk
          have hlen : ((P.be 8 x.hi ++ (P.be 8 x.lo).take 6)).length = 14 := by rw [List.length_append, P.be_length]; rw [List.length_take, P.be_length] <;> rfl
          have hownA := hown.alloc (.cells #[.int .u8 ((x.lo : Int) / 256 % 256)] 5)
          have hr := rows_new 1 byQ byQ_len wr [P.byt (x.lo / 256)] #[.int .u8 ((x.lo : Int) / 256 % 256)] 5 (by rw [hv]; rfl)
          have hA1 := (Below.refl wr.heap.size wr).alloc (Nat.le_refl _) (.cells #[.int .u8 ((x.lo : Int) / 256 % 256)] 5)
          have Hlen := Lib.hid hlen
          clear hv htk hlen
          generalize (P.be 8 x.hi ++ (P.be 8 x.lo).take 6) = l at *
          go_wp2_with (at_builtin; (refine wpList_appQ (by rfl) _ _ (by rfl) w.heap.size _ l [P.byt (x.lo / 256)] (by rfl) hownA (by have := Hlen.out; simp only [List.length_singleton]; omega) _ _ _ (by rfl) (by rfl) hr (by have := hA1.size; omega) ?_); intro b' c' w2 hown2 hb2 hkt2)
          go_roundw
          case rel => exact ⟨7, b', c', by omega, by first | rfl | go_num, by rw [Hlen.out] <;> rfl, by rw [Htk.out]; have h := hown2; rw [Hlen.out] at h; exact h, hkt2 _ _ _ _ (by decide) (h1.up hA1), (hb.trans (hA1.mono hb.size)).trans hb2⟩
          case measure => simp [intOf]
        · have hv : ((x.lo : Int) % 256) = ((P.byt (x.lo)).toNat : Int) := by rw [P.byt_toNat]; omega
          have htk : P.be 8 x.hi ++ (P.be 8 x.lo).take 8 = (P.be 8 x.hi ++ (P.be 8 x.lo).take 7) ++ [P.byt (x.lo)] := by rw [P.be8 x.lo, List.append_assoc] <;> rfl
          have Htk := Lib.hid htk
          have hlen : ((P.be 8 x.hi ++ (P.be 8 x.lo).take 7)).length = 15 := by rw [List.length_append, P.be_length]; rw [List.length_take, P.be_length] <;> rfl
          have hownA := hown.alloc (.cells #[.int .u8 ((x.lo : Int) % 256)] 5)
          have hr := rows_new 1 byQ byQ_len wr [P.byt (x.lo)] #[.int .u8 ((x.lo : Int) % 256)] 5 (by rw [hv]; rfl)
          have hA1 := (Below.refl wr.heap.size wr).alloc (Nat.le_refl _) (.cells #[.int .u8 ((x.lo : Int) % 256)] 5)
          have Hlen := Lib.hid hlen
          clear hv htk hlen
          generalize (P.be 8 x.hi ++ (P.be 8 x.lo).take 7) = l at *
          go_wp2_with (at_builtin; (refine wpList_appQ (by rfl) _ _ (by rfl) w.heap.size _ l [P.byt (x.lo)] (by rfl) hownA (by have := Hlen.out; simp only [List.length_singleton]; omega) _ _ _ (by rfl) (by rfl) hr (by have := hA1.size; omega) ?_); intro b' c' w2 hown2 hb2 hkt2)
          go_roundw
          case rel => exact ⟨8, b', c', by omega, by first | rfl | go_num, by rw [Hlen.out] <;> rfl, by rw [Htk.out]; have h := hown2; rw [Hlen.out] at h; exact h, hkt2 _ _ _ _ (by decide) (h1.up hA1), (hb.trans (hA1.mono hb.size)).trans hb2⟩
          case measure => simp [intOf]
        · go_wp2_with fail
          go_ret
          refine ⟨_, rfl, ?_, hb⟩
          rw [Hres.out, ← List.take_of_length_le (show (P.be 8 x.lo).length ≤ 8 by rw [P.be_length]; omega)]
          exact hown
set_option maxRecDepth 100000 in
set_option maxHeartbeats 8000000 in
theorem ref19Bytes_four (x : P.Ad) (h4 : x.fam = 4) (hok : P.adOk x = true) (w : World) : Calls Tryd.prog 78 #[adV x] w fun e w' => ∃ v, e = .returned v ∧ Own w' w.heap.size v (P.adB x) ∧ Below w.heap.size w w' := by
  have h1 := Bx.fresh w 42 #[.int .u8 (x.fam : Nat), V64 x.hi, V64 x.lo]
  have hA := (Below.refl w.heap.size w).alloc (Nat.le_refl _) (.cells #[.int .u8 (x.fam : Nat), V64 x.hi, V64 x.lo] 42)
  obtain ⟨c0, c1, c2, _, _, _⟩ := h1.three
  have hR := ref19Right_any x
  have hlo : x.lo < 4294967296 := by rcases P.adOk_cases hok with h | h <;> omega
  have Hres := Lib.hid (P.adB_four hok h4)
  simp only [hok] at hR
  have HR := Lib.hid hR
  have t6 : ((x.fam : Int) == 6) = false := beq_eq_false_iff_ne.2 (by omega)
  clear hR hok h4
  go_enter Tryd.func78, Tryd.ntmps78
  go_wp2_with (go_at_call 39; (with_reducible refine (HR.out _).mono ?_); rintro e w1 ⟨rfl, hb1⟩; have h2 := h1.up hb1; have hA1 := Chain.up hA hb1)
  go_loopw [3, 4] (fun s k wr => k = .int .i64 7 ∧ s = .slice none 0 0 ∧ Bx wr w.heap.size 42 #[.int .u8 (x.fam : Nat), V64 x.hi, V64 x.lo] ∧ Below w.heap.size w wr) (fun _ _ _ => 0)
  case atStart => exact ⟨rfl, rfl, h2, hA1⟩
  case round =>
    clear h1 h2 hA hA1 c0 c1 c2
    obtain ⟨rfl, rfl, h1, hb⟩ := hrel
    obtain ⟨c0, c1, c2, _, _, _⟩ := h1.three
    go_wp2_with fail
    go_loopw [3, 5] (fun s k wr2 => ∃ (j : Nat) (a : Option Addr) (c : Nat), j ≤ 8 ∧ k = .int .i64 (7 - (j : Int)) ∧ s = .slice a (j - 4) c ∧ Own wr2 w.heap.size (.slice a (j - 4) c) ((P.be 4 x.lo).take (j - 4)) ∧ Bx wr2 w.heap.size 42 #[.int .u8 (x.fam : Nat), V64 x.hi, V64 x.lo] ∧ Below w.heap.size w wr2) (fun _ k _ => ((intOf k) + 1).toNat)
    case atStart => exact ⟨0, none, 0, by omega, rfl, rfl, own_nil _ _, h1, hb⟩
    case round =>
      clear h1 hb c0 c1 c2
      obtain ⟨j, a, c, hj, rfl, rfl, hown, h1, hb⟩ := hrel
      obtain ⟨c0, c1, c2, _, _, _⟩ := h1.three
      have hlt := h1.lt
      rcases (show j = 0 ∨ j = 1 ∨ j = 2 ∨ j = 3 ∨ j = 4 ∨ j = 5 ∨ j = 6 ∨ j = 7 ∨ j = 8 by omega) with rfl | rfl | rfl | rfl | rfl | rfl | rfl | rfl | rfl
      · go_wp2_with fail
        go_roundw
        case rel => exact ⟨1, a, c, by omega, by first | rfl | go_num, rfl, hown, h1, hb⟩
        case measure => simp [intOf]
      · go_wp2_with fail
        go_roundw
        case rel => exact ⟨2, a, c, by omega, by first | rfl | go_num, rfl, hown, h1, hb⟩
        case measure => simp [intOf]
      · go_wp2_with fail
        go_roundw
        case rel => exact ⟨3, a, c, by omega, by first | rfl | go_num, rfl, hown, h1, hb⟩
        case measure => simp [intOf]
      · go_wp2_with fail
        go_roundw
        case rel => exact ⟨4, a, c, by omega, by first | rfl | go_num, rfl, hown, h1, hb⟩
        case measure => simp [intOf]
      · have hv : ((x.lo : Int) / 16777216) = ((P.byt (x.lo / 16777216)).toNat : Int) := by rw [P.byt_toNat]; omega
        have htk : (P.be 4 x.lo).take 1 = (P.be 4 x.lo).take 0 ++ [P.byt (x.lo / 16777216)] := by rw [P.be4 x.lo] <;> rfl
        have Htk := Lib.hid htk
        have hlen : ((P.be 4 x.lo).take 0).length = 0 := by rw [List.length_take, P.be_length] <;> rfl
        have hownA := hown.alloc (.cells #[.int .u8 ((x.lo : Int) / 16777216)] 5)
        have hr := rows_new 1 byQ byQ_len wr [P.byt (x.lo / 16777216)] #[.int .u8 ((x.lo : Int) / 16777216)] 5 (by rw [hv]; rfl)
        have hA1 := (Below.refl wr.heap.size wr).alloc (Nat.le_refl _) (.cells #[.int .u8 ((x.lo : Int) / 16777216)] 5)
        have Hlen := Lib.hid hlen
        clear hv htk hlen
        generalize (P.be 4 x.lo).take 0 = l at *
        go_wp2_with (at_builtin; (refine wpList_appQ (by rfl) _ _ (by rfl) w.heap.size _ l [P.byt (x.lo / 16777216)] (by rfl) hownA (by have := Hlen.out; simp only [List.length_singleton]; omega) _ _ _ (by rfl) (by rfl) hr (by have := hA1.size; omega) ?_); intro b' c' w2 hown2 hb2 hkt2)
        go_roundw
        case rel => exact ⟨5, b', c', by omega, by first | rfl | go_num, by rw [Hlen.out] <;> rfl, by rw [Htk.out]; have h := hown2; rw [Hlen.out] at h; exact h, hkt2 _ _ _ _ (by decide) (h1.up hA1), (hb.trans (hA1.mono hb.size)).trans hb2⟩
        case measure => simp [intOf]
      · have hv : ((x.lo : Int) / 65536 % 256) = ((P.byt (x.lo / 65536)).toNat : Int) := by rw [P.byt_toNat]; omega
        have htk : (P.be 4 x.lo).take 2 = (P.be 4 x.lo).take 1 ++ [P.byt (x.lo / 65536)] := by rw [P.be4 x.lo] <;> rfl
        have Htk := Lib.hid htk
        have hlen : ((P.be 4 x.lo).take 1).length = 1 := by rw [List.length_take, P.be_length] <;> rfl
        have hownA := hown.alloc (.cells #[.int .u8 ((x.lo : Int) / 65536 % 256)] 5)
        have hr := rows_new 1 byQ byQ_len wr [P.byt (x.lo / 65536)] #[.int .u8 ((x.lo : Int) / 65536 % 256)] 5 (by rw [hv]; rfl)
        have hA1 := (Below.refl wr.heap.size wr).alloc (Nat.le_refl _) (.cells #[.int .u8 ((x.lo : Int) / 65536 % 256)] 5)
        have Hlen := Lib.hid hlen
        clear hv htk hlen
        generalize (P.be 4 x.lo).take 1 = l at *
        go_wp2_with (at_builtin; (refine wpList_appQ (by rfl) _ _ (by rfl) w.heap.size _ l [P.byt (x.lo / 65536)] (by rfl) hownA (by have := Hlen.out; simp only [List.length_singleton]; omega) _ _ _ (by rfl) (by rfl) hr (by have := hA1.size; omega) ?_); intro b' c' w2 hown2 hb2 hkt2)
        go_roundw
        case rel => exact ⟨6, b', c', by omega, by first | rfl | go_num, by rw [Hlen.out] <;> rfl, by rw [Htk.out]; have h := hown2; rw [Hlen.out] at h; exact h, hkt2 _ _ _ _ (by decide) (h1.up hA1), (hb.trans (hA1.mono hb.size)).trans hb2⟩
        case measure => simp [intOf]
      · have hv : ((x.lo : Int) / 256 % 256) = ((P.byt (x.lo / 256)).toNat : Int) := by rw [P.byt_toNat]; omega
        have htk : (P.be 4 x.lo).take 3 = (P.be 4 x.lo).take 2 ++ [P.byt (x.lo / 256)] := by rw [P.be4 x.lo] <;> rfl
        have Htk := Lib.hid htk
        have hlen : ((P.be 4 x.lo).take 2).length = 2 := by rw [List.length_take, P.be_length] <;> rfl
        have hownA := hown.alloc (.cells #[.int .u8 ((x.lo : Int) / 256 % 256)] 5)
        have hr := rows_new 1 byQ byQ_len wr [P.byt (x.lo / 256)] #[.int .u8 ((x.lo : Int) / 256 % 256)] 5 (by rw [hv]; rfl)
        have hA1 := (Below.refl wr.heap.size wr).alloc (Nat.le_refl _) (.cells #[.int .u8 ((x.lo : Int) / 256 % 256)] 5)
        have Hlen := Lib.hid hlen
        clear hv htk hlen
        generalize (P.be 4 x.lo).take 2 = l at *
        go_wp2_with (at_builtin; (refine wpList_appQ (by rfl) _ _ (by rfl) w.heap.size _ l [P.byt (x.lo / 256)] (by rfl) hownA (by have := Hlen.out; simp only [List.length_singleton]; omega) _ _ _ (by rfl) (by rfl) hr (by have := hA1.size; omega) ?_); intro b' c' w2 hown2 hb2 hkt2)
        go_roundw
        case rel => exact ⟨7, b', c', by omega, by first | rfl | go_num, by rw [Hlen.out] <;> rfl, by rw [Htk.out]; have h := hown2; rw [Hlen.out] at h; exact h, hkt2 _ _ _ _ (by decide) (h1.up hA1), (hb.trans (hA1.mono hb.size)).trans hb2⟩
        case measure => simp [intOf]
      · have hv : ((x.lo : Int) % 256) = ((P.byt (x.lo)).toNat : Int) := by rw [P.byt_toNat]; omega
        have htk : (P.be 4 x.lo).take 4 = (P.be 4 x.lo).take 3 ++ [P.byt (x.lo)] := by rw [P.be4 x.lo] <;> rfl
        have Htk := Lib.hid htk
        have hlen : ((P.be 4 x.lo).take 3).length = 3 := by rw [List.length_take, P.be_length] <;> rfl
        have hownA := hown.alloc (.cells #[.int .u8 ((x.lo : Int) % 256)] 5)
        have hr := rows_new 1 byQ byQ_len wr [P.byt (x.lo)] #[.int .u8 ((x.lo : Int) % 256)] 5 (by rw [hv]; rfl)
        have hA1 := (Below.refl wr.heap.size wr).alloc (Nat.le_refl _) (.cells #[.int .u8 ((x.lo : Int) % 256)] 5)
        have Hlen := Lib.hid hlen
        clear hv htk hlen
        generalize (P.be 4 x.lo).take 3 = l at *
        go_wp2_with (at_builtin; (refine wpList_appQ (by rfl) _ _ (by rfl) w.heap.size _ l [P.byt (x.lo)] (by rfl) hownA (by have := Hlen.out; simp only [List.length_singleton]; omega) _ _ _ (by rfl) (by rfl) hr (by have := hA1.size; omega) ?_); intro b' c' w2 hown2 hb2 hkt2)
        go_roundw
        case rel => exact ⟨8, b', c', by omega, by first | rfl | go_num, by rw [Hlen.out] <;> rfl, by rw [Htk.out]; have h := hown2; rw [Hlen.out] at h; exact h, hkt2 _ _ _ _ (by decide) (h1.up hA1), (hb.trans (hA1.mono hb.size)).trans hb2⟩
        case measure => simp [intOf]
      · go_wp2_with fail
        go_ret
        refine ⟨_, rfl, ?_, hb⟩
        rw [Hres.out, ← List.take_of_length_le (show (P.be 4 x.lo).length ≤ 4 by rw [P.be_length]; omega)]
        exact hown
set_option maxRecDepth 100000 in
theorem ref19Bytes_none (x : P.Ad) (hok : P.adOk x = false) (w : World) : Calls Tryd.prog 78 #[adV x] w fun e w' => ∃ v, e = .returned v ∧ Own w' w.heap.size v (P.adB x) ∧ Below w.heap.size w w' := by
  have h1 := Bx.fresh w 42 #[.int .u8 (x.fam : Nat), V64 x.hi, V64 x.lo]
  have hA := (Below.refl w.heap.size w).alloc (Nat.le_refl _) (.cells #[.int .u8 (x.fam : Nat), V64 x.hi, V64 x.lo] 42)
  obtain ⟨c0, c1, c2, _, _, _⟩ := h1.three
  have hR := ref19Right_any x
  have Hres := Lib.hid (show P.adB x = [] by unfold P.adB; rw [hok]; rfl)
  simp only [hok] at hR
  have HR := Lib.hid hR
  clear hR hok
  go_enter Tryd.func78, Tryd.ntmps78
  go_wp2_with (go_at_call 39; (with_reducible refine (HR.out _).mono ?_); rintro e w1 ⟨rfl, hb1⟩; have hA1 := Chain.up hA hb1)
  go_ret
  exact ⟨_, rfl, by rw [Hres.out]; exact own_nil _ _, hA1⟩
theorem ref19Bytes_any (x : P.Ad) (ht : P.tyA x) (w : World) : Calls Tryd.prog 78 #[adV x] w fun e w' => ∃ v, e = .returned v ∧ Own w' w.heap.size v (P.adB x) ∧ Below w.heap.size w w' := by
  cases hok : P.adOk x with
  | false => exact ref19Bytes_none x hok w
  | true =>
    by_cases h6 : x.fam = 6
    · exact ref19Bytes_six x h6 ht w
    · exact ref19Bytes_four x (by rcases P.adOk_cases hok with h | h <;> omega) hok w
end Go.Proofs.YtcobfoiajdbahaaDoor
namespace Go.Proofs.YtcobfoiajdbahaaDoor
open Go.RowKit
set_option linter.unusedVariables false
set_option linter.unusedSimpArgs false
theorem wp_conv_own {o : Oper} {a : Act} {w : World} {K : Act → World → Prop} {Q : Exit → Act → World → Prop} (x : Operand) (ho : o.op = .convert 85 9 x) {B : Nat} {v : Value} {l : List UInt8} (hx : a.eval x = v) (hown : Own w B v l)
    (h : K (a.put o.dst (S l)) w) : Oper.wp Tryd.prog o a w K Q := by
  have hrun := hown.string
  unfold Oper.wp execOp
  simp only [ho, hx, Sem.run_bind, hrun, Result.andThen_ok, Sem.run_pure]
  exact h
theorem str_catD (s t : List UInt8) : (ByteArray.mk s.toArray ++ ByteArray.mk t.toArray) = ByteArray.mk (s ++ t).toArray := by simp [ByteArray.ext_iff, ByteArray.data_append]
set_option maxRecDepth 100000 in
theorem refOne_any (n : Int) (w : World) : Calls Tryd.prog 48 #[.int .i64 n] w fun e w' => e = .returned (S [P.byI n]) ∧ Below w.heap.size w w' := by
  have hown : Own (w.alloc (.cells #[.int .u8 (n % 256)] 5)) w.heap.size (.slice (some ⟨w.heap.size, 0, none⟩) 1 1) [P.byI n] := own_rowsQ.2 (OwnR.lit byQ_len [P.byI n] _ (by rw [u8_byI]; rfl) (by simp) (Nat.le_refl _) _ _ _ rfl rfl rfl)
  have hA := (Below.refl w.heap.size w).alloc (Nat.le_refl _) (.cells #[.int .u8 (n % 256)] 5)
  go_enter Tryd.func48, Tryd.ntmps48
  go_wp2_with (refine wpList_conv_own (by rfl) hown ?_)
  go_ret
  exact ⟨rfl, hA⟩
set_option maxRecDepth 100000 in
set_option maxHeartbeats 8000000 in
theorem refAddress_any (x : P.Ad) (ht : P.tyA x) (w : World) : Calls Tryd.prog 45 #[adV x] w fun e w' => e = .returned (S (P.adX x)) ∧ Below w.heap.size w w' := by
  have h1 := Bx.fresh w 42 #[.int .u8 (x.fam : Nat), V64 x.hi, V64 x.lo]
  have hA := (Below.refl w.heap.size w).alloc (Nat.le_refl _) (.cells #[.int .u8 (x.fam : Nat), V64 x.hi, V64 x.lo] 42)
  have HO := Lib.hid (fun wx => show Calls Tryd.prog 48 #[.int .i64 (x.fam : Nat)] wx fun e w' => e = .returned (S [P.byt x.fam]) ∧ Below wx.heap.size wx w' from by have h := refOne_any (x.fam : Int) wx; rw [P.byI_nat x.fam ht.1] at h; exact h)
  have HB := Lib.hid (fun wx => ref19Bytes_any x ht wx)
  have Hres := Lib.hid (show P.adX x = [P.byt x.fam] ++ P.adB x from rfl)
  have hlen : (P.adB x).length ≤ 16 := by have := P.adX_le x; unfold P.adX at this; rw [List.length_cons] at this; omega
  have hadd : ¬ 9223372036854775807 < [P.byt x.fam].length + (P.adB x).length := by simp only [List.length_singleton]; omega
  have hfw : IntKind.i64.wrap (x.fam : Int) = (x.fam : Int) := wrap_mid (by omega) (by have := ht.1; omega)
  have hcat := str_catD [P.byt x.fam] (P.adB x)
  rw [← Hres.out] at hcat
  generalize P.adB x = T at *
  generalize [P.byt x.fam] = one at *
  generalize P.adX x = R at *
  go_enter Tryd.func45, Tryd.ntmps45
  go_upto_region 1 with fail
  generalize hW : w.alloc (.cells #[.int .u8 (x.fam : Nat), V64 x.hi, V64 x.lo] 42) = w2 at *
  clear hW
  refine wp_region_held_drew (S := fun wx => Bx wx w.heap.size 42 #[.int .u8 (x.fam : Nat), V64 x.hi, V64 x.lo] ∧ Below w.heap.size w wx) (by kernel_rfl) ⟨h1.drew, hA.drew⟩ (fun hHeld => ?_)
  refine wpAnyH_take (i := 0) (v := ?_) rfl (by kernel_rfl) (by kernel_rfl) (by kernel_rfl) (fun _ _ _ h => h) (Or.inl ⟨by rfl, ?_⟩) hHeld ?_
  rotate_left
  · intro wq hSw; go_simp; (try with_reducible rfl)
  simp only [Act.put, nrm]
  refine wpAnyH_take (i := 1) (v := ?_) rfl (by kernel_rfl) (by kernel_rfl) (by kernel_rfl) (fun _ _ _ h => h) (Or.inl ⟨by rfl, ?_⟩) hHeld ?_
  rotate_left
  · intro wq hSw; obtain ⟨q0, q1, q2, _, _, _⟩ := hSw.1.three; go_simp; (try with_reducible rfl)
  simp only [Act.put, nrm]
  refine wpAnyH_take (i := 2) (v := ?_) rfl (by kernel_rfl) (by kernel_rfl) (by kernel_rfl) (fun _ _ _ h => h) (Or.inl ⟨by rfl, ?_⟩) hHeld ?_
  rotate_left
  · intro wq hSw; go_simp; (try with_reducible rfl)
  simp only [Act.put, nrm]
  refine wpAnyH_take (i := 4) (v := ?_) rfl (by kernel_rfl) (by kernel_rfl) (by kernel_rfl) (fun _ _ _ h => h) (Or.inl ⟨by rfl, ?_⟩) hHeld ?_
  rotate_left
  · intro wq hSw; obtain ⟨q0, q1, q2, _, _, _⟩ := hSw.1.three; go_simp; (try with_reducible rfl)
  simp only [Act.put, nrm]
  refine wpAnyH_one (i := 3) (by kernel_rfl) rfl (fun K hK => ?_)
  simp only [nrm]
  go_simp
  (with_reducible refine (HO.out _).mono ?_)
  rintro e v1 ⟨rfl, hb1⟩
  have hSv1 : Bx v1 w.heap.size 42 #[.int .u8 (x.fam : Nat), V64 x.hi, V64 x.lo] ∧ Below w.heap.size w v1 := ⟨hHeld.1.up hb1, Chain.up hHeld.2 hb1⟩
  refine hK.out _ _ hSv1 ?_
  clear hK K
  refine wpAnyH_one (i := 5) (by kernel_rfl) rfl (fun K hK => ?_)
  simp only [nrm]
  go_simp
  (with_reducible refine (HB.out _).mono ?_)
  rintro e v2 ⟨sv, rfl, hown, hb2⟩
  have hSv2 : Bx v2 w.heap.size 42 #[.int .u8 (x.fam : Nat), V64 x.hi, V64 x.lo] ∧ Below w.heap.size w v2 := ⟨hSv1.1.up hb2, Chain.up hSv1.2 hb2⟩
  refine hK.out _ _ hSv2 ?_
  clear hK K
  refine wpAnyH_one (i := 6) (by kernel_rfl) rfl (fun K hK => ?_)
  simp only [nrm]
  rw [if_pos (by rfl)]
  refine wp_conv_own _ (by rfl) (by rfl) hown ?_
  refine hK.out _ _ hSv2 ?_
  simp only [Act.put, nrm]
  clear hK K
  refine wpAnyH_take (i := 7) (v := ?_) rfl (by kernel_rfl) (by kernel_rfl) (by kernel_rfl) (fun _ _ _ h => h) (Or.inl ⟨by rfl, ?_⟩) hSv2 ?_
  rotate_left
  · intro wq hSw; go_simp; (try with_reducible rfl)
  simp only [Act.put, nrm]
  refine wpAnyH_take (i := 8) (v := ?_) rfl (by kernel_rfl) (by kernel_rfl) (by kernel_rfl) (fun _ _ _ h => h) (Or.inl ⟨by rfl, ?_⟩) hSv2 ?_
  rotate_left
  · intro wq hSw; go_simp; (try with_reducible rfl)
  simp only [Act.put, nrm]
  refine wpAnyH_done (by kernel_rfl) ?_ _
  go_wp2_with fail
  go_ret
  exact ⟨by first | rfl | (rw [← hcat]; rfl) | (simp only [hcat]; rfl), hSv2.2⟩
set_option maxRecDepth 100000 in
set_option maxHeartbeats 8000000 in
theorem refPrefix_any (x : P.Px) (ht : P.tyX x) (w : World) : Calls Tryd.prog 44 #[pxV x] w fun e w' => e = .returned (S (P.pxX x)) ∧ Below w.heap.size w w' := by
  have h1 := Bx.fresh w 44 #[.int .u8 (x.a.fam : Nat), V64 x.a.hi, V64 x.a.lo, .int .i64 x.bits]
  have hA := (Below.refl w.heap.size w).alloc (Nat.le_refl _) (.cells #[.int .u8 (x.a.fam : Nat), V64 x.a.hi, V64 x.a.lo, .int .i64 x.bits] 44)
  have HO := Lib.hid (fun wx => refOne_any x.bits wx)
  have HB := Lib.hid (fun wx => refAddress_any x.a ht.1 wx)
  have Hres := Lib.hid (show P.pxX x = P.adX x.a ++ [P.byI x.bits] from rfl)
  have hlen := P.adX_le x.a
  have hadd : ¬ 9223372036854775807 < (P.adX x.a).length + [P.byI x.bits].length := by simp only [List.length_singleton]; omega
  have hcat := str_catD (P.adX x.a) [P.byI x.bits]
  rw [← Hres.out] at hcat
  generalize P.adX x.a = T at *
  generalize [P.byI x.bits] = one at *
  generalize P.pxX x = R at *
  go_enter Tryd.func44, Tryd.ntmps44
  go_upto_region 1 with fail
  generalize hW : w.alloc (.cells #[.int .u8 (x.a.fam : Nat), V64 x.a.hi, V64 x.a.lo, .int .i64 x.bits] 44) = w2 at *
  clear hW
  refine wp_region_held_drew (S := fun wx => Bx wx w.heap.size 44 #[.int .u8 (x.a.fam : Nat), V64 x.a.hi, V64 x.a.lo, .int .i64 x.bits] ∧ Below w.heap.size w wx) (by kernel_rfl) ⟨h1.drew, hA.drew⟩ (fun hHeld => ?_)
  refine wpAnyH_take (i := 0) (v := ?_) rfl (by kernel_rfl) (by kernel_rfl) (by kernel_rfl) (fun _ _ _ h => h) (Or.inl ⟨by rfl, ?_⟩) hHeld ?_
  rotate_left
  · intro wq hSw; go_simp; (try with_reducible rfl)
  simp only [Act.put, nrm]
  refine wpAnyH_take (i := 1) (v := ?_) rfl (by kernel_rfl) (by kernel_rfl) (by kernel_rfl) (fun _ _ _ h => h) (Or.inl ⟨by rfl, ?_⟩) hHeld ?_
  rotate_left
  · intro wq hSw; obtain ⟨q0, q1, q2, q3, _, _, _, _⟩ := hSw.1.fourP; go_simp; (try with_reducible rfl)
  simp only [Act.put, nrm]
  refine wpAnyH_take (i := 3) (v := ?_) rfl (by kernel_rfl) (by kernel_rfl) (by kernel_rfl) (fun _ _ _ h => h) (Or.inl ⟨by rfl, ?_⟩) hHeld ?_
  rotate_left
  · intro wq hSw; go_simp; (try with_reducible rfl)
  simp only [Act.put, nrm]
  refine wpAnyH_take (i := 4) (v := ?_) rfl (by kernel_rfl) (by kernel_rfl) (by kernel_rfl) (fun _ _ _ h => h) (Or.inl ⟨by rfl, ?_⟩) hHeld ?_
  rotate_left
  · intro wq hSw; obtain ⟨q0, q1, q2, q3, _, _, _, _⟩ := hSw.1.fourP; go_simp; (try with_reducible rfl)
  simp only [Act.put, nrm]
  refine wpAnyH_one (i := 2) (by kernel_rfl) rfl (fun K hK => ?_)
  simp only [nrm]
  go_simp
  (with_reducible refine (HB.out _).mono ?_)
  rintro e v1 ⟨rfl, hb1⟩
  have hSv1 : Bx v1 w.heap.size 44 #[.int .u8 (x.a.fam : Nat), V64 x.a.hi, V64 x.a.lo, .int .i64 x.bits] ∧ Below w.heap.size w v1 := ⟨hHeld.1.up hb1, Chain.up hHeld.2 hb1⟩
  refine hK.out _ _ hSv1 ?_
  clear hK K
  refine wpAnyH_one (i := 5) (by kernel_rfl) rfl (fun K hK => ?_)
  simp only [nrm]
  go_simp
  (with_reducible refine (HO.out _).mono ?_)
  rintro e v2 ⟨rfl, hb2⟩
  have hSv2 : Bx v2 w.heap.size 44 #[.int .u8 (x.a.fam : Nat), V64 x.a.hi, V64 x.a.lo, .int .i64 x.bits] ∧ Below w.heap.size w v2 := ⟨hSv1.1.up hb2, Chain.up hSv1.2 hb2⟩
  refine hK.out _ _ hSv2 ?_
  clear hK K
  refine wpAnyH_take (i := 6) (v := ?_) rfl (by kernel_rfl) (by kernel_rfl) (by kernel_rfl) (fun _ _ _ h => h) (Or.inl ⟨by rfl, ?_⟩) hSv2 ?_
  rotate_left
  · intro wq hSw; go_simp; (try with_reducible rfl)
  simp only [Act.put, nrm]
  refine wpAnyH_take (i := 7) (v := ?_) rfl (by kernel_rfl) (by kernel_rfl) (by kernel_rfl) (fun _ _ _ h => h) (Or.inl ⟨by rfl, ?_⟩) hSv2 ?_
  rotate_left
  · intro wq hSw; go_simp; (try with_reducible rfl)
  simp only [Act.put, nrm]
  refine wpAnyH_done (by kernel_rfl) ?_ _
  go_wp2_with fail
  go_ret
  exact ⟨by first | rfl | (rw [← hcat]; rfl) | (simp only [hcat]; rfl), hSv2.2⟩
end Go.Proofs.YtcobfoiajdbahaaDoor
namespace Go.Proofs.YtcobfoiajdbahaaDoor
open Go.RowKit
set_option linter.unusedVariables false
attribute [local go_sem] str_app
set_option maxRecDepth 100000 in
set_option maxHeartbeats 4000000 in
theorem refTexts_any (a : Option Addr) (c : Nat) (ss : List (List UInt8)) (w : World) (hlen : ss.length ≤ 200) (hss : P.total ss ≤ 20000) (hp : StrsAt w a ss) :
    Calls Tryd.prog 79 #[.slice a ss.length c] w fun e w' => e = .returned (S (P.texts ss)) ∧ Below w.heap.size w w' := by
  have Hp := Lib.hid hp
  clear hp
  go_enter Tryd.func79, Tryd.ntmps79
  go_wp2
  go_loopw [3, 4] (fun s i wr => ∃ k : Nat, k ≤ ss.length ∧ i = .int .i64 k ∧ s = S (P.texts (ss.take k)) ∧ Below w.heap.size w wr) (fun _ i _ => ss.length - (intOf i).toNat)
  case atStart => exact ⟨0, by omega, rfl, by simp [P.texts], Below.refl _ _⟩
  case round =>
    obtain ⟨k, hk, rfl, rfl, hb⟩ := hrel
    by_cases hlt : k < ss.length
    · obtain ⟨b, o, rfl, hbb, hc⟩ := Hp.out k hlt
      have hc' := (hb.cell (p := ⟨b, o + k, none⟩) hbb).trans hc
      clear hc
      have Hnx := Lib.hid (show P.texts (ss.take (k + 1)) = P.texts (ss.take k) ++ (P.row ss[k].length ++ ss[k]) by rw [List.take_succ_eq_append_getElem hlt, P.texts_snoc])
      have hl0 : (P.texts (ss.take k)).length ≤ 22000 := by have := P.texts_len (ss.take k); have := P.total_take ss k; rw [List.length_take] at *; omega
      have hl1 : ss[k].length ≤ 20000 := Nat.le_trans (P.mem_total ss _ (List.getElem_mem _)) hss
      generalize P.texts (ss.take k) = q at *
      generalize ss[k] = s at *
      have hrl := P.row_len9 s.length
      have Hrow := Lib.hid (fun w => row_any s.length (by omega) w)
      have hbl : b < wr.heap.size := Nat.lt_of_lt_of_le hbb hb.size
      have Hcell := Lib.hid (fun (w' : World) (h : Below wr.heap.size wr w') => (h.cell (p := ⟨b, o + k, none⟩) hbl).trans hc')
      have Hwr := Lib.hid (show IntKind.u64.wrap (s.length : Int) = (s.length : Int) by rw [IntKind.wrap_u64]; omega)
      generalize P.row s.length = r at *
      go_wp2
      go_region_with (go_at_call 47; (try rw [Hwr.out]); (with_reducible refine (Hrow.out _).mono ?_); rintro e w1 ⟨rfl, hb1⟩; have hcw := Hcell.out _ (((Below.refl wr.heap.size wr).drew).trans hb1))
      all_goals go_wp2
      all_goals go_roundw
      all_goals first
        | exact ⟨k + 1, by omega, by go_num, by rw [Hnx.out], hb.trans ((((Below.refl wr.heap.size wr).drew).trans hb1).mono hb.size)⟩
        | (simp [intOf]; omega)
    · obtain rfl : k = ss.length := by omega
      rw [List.take_length]
      go_wp2
      go_ret
      exact ⟨rfl, hb⟩
end Go.Proofs.YtcobfoiajdbahaaDoor
namespace Go.Proofs.YtcobfoiajdbahaaDoor
open Go.RowKit
set_option linter.unusedVariables false
set_option linter.unusedSimpArgs false
theorem refText_one (k : List UInt8) (hk : k.length ≤ 20000) (w : World) (g : Nat) (hg : g = w.heap.size) :
    Calls Tryd.prog 79 #[.slice (some ⟨g, 0, none⟩) 1 1] (w.alloc (.cells #[S k] 9)) fun e w' => e = .returned (S (P.txB k)) ∧ Below w.heap.size w w' := by
  subst hg
  have h := refTexts_any (some ⟨w.heap.size, 0, none⟩) 1 [k] (w.alloc (.cells #[S k] 9)) (by simp) (by simp [P.total]; omega) (strs_new w _ _ _ rfl)
  rw [show P.texts [k] = P.txB k by simp [P.texts, P.txB]] at h
  exact h.mono fun e w' ⟨he, hb⟩ => ⟨he, ((Below.refl _ _).alloc (Nat.le_refl _) _).trans (hb.mono (by simp))⟩
set_option maxRecDepth 100000 in
theorem refText26_any (s : List UInt8) (hs : s.length ≤ 20000) (w : World) : Calls Tryd.prog 46 #[S s] w fun e w' => e = .returned (S (P.txB s)) ∧ Below w.heap.size w w' := by
  go_enter Tryd.func46, Tryd.ntmps46
  go_wp2_with (go_at_call 79; (with_reducible refine (refText_one s hs w _ rfl).mono ?_); rintro e w1 ⟨rfl, hb1⟩)
  go_ret
  exact ⟨rfl, hb1⟩
end Go.Proofs.YtcobfoiajdbahaaDoor
namespace Go.Proofs.YtcobfoiajdbahaaDoor
open Go.RowKit
set_option linter.unusedVariables false
set_option linter.unusedSimpArgs false
set_option maxRecDepth 100000 in
set_option maxHeartbeats 8000000 in
theorem refHead_any (x : P.Ca) (h0 : x.op < 256) (hc : x.client < 256) (hn : x.number < 18446744073709551616) (w : World) : Calls Tryd.prog 43 #[caV x] w fun e w' => e = .returned (S (P.headB x.op x.client x.number)) ∧ Below w.heap.size w w' := by
  have h1 := Bx.fresh w 46 #[.int .u8 (x.op : Nat), .int .u8 (x.client : Nat), V64 x.number, .int .u8 (x.p.a.fam : Nat), V64 x.p.a.hi, V64 x.p.a.lo, .int .i64 x.p.bits, .int .u8 (x.a.fam : Nat), V64 x.a.hi, V64 x.a.lo, S x.owner, S x.to, V64 x.d, V64 x.fr, .int .i64 x.n]
  have hA := (Below.refl w.heap.size w).alloc (Nat.le_refl _) (.cells #[.int .u8 (x.op : Nat), .int .u8 (x.client : Nat), V64 x.number, .int .u8 (x.p.a.fam : Nat), V64 x.p.a.hi, V64 x.p.a.lo, .int .i64 x.p.bits, .int .u8 (x.a.fam : Nat), V64 x.a.hi, V64 x.a.lo, S x.owner, S x.to, V64 x.d, V64 x.fr, .int .i64 x.n] 46)
  have HG := Lib.hid (fun wx => show Calls Tryd.prog 77 #[V64 x.number, .int .i64 8] wx fun e w' => e = .returned (.tuple #[S (P.be 8 x.number), .int .i64 0]) ∧ Below wx.heap.size wx w' from by
    have h := refBig_any x.number 8 wx hn (by omega) (by omega)
    rw [(big8 x.number hn).1, (big8 x.number hn).2] at h
    exact h)
  have H1 := Lib.hid (fun wx => show Calls Tryd.prog 48 #[.int .i64 (x.op : Nat)] wx fun e w' => e = .returned (S [P.byt x.op]) ∧ Below wx.heap.size wx w' from by have h := refOne_any (x.op : Int) wx; rw [P.byI_nat x.op h0] at h; exact h)
  have H2 := Lib.hid (fun wx => show Calls Tryd.prog 48 #[.int .i64 (x.client : Nat)] wx fun e w' => e = .returned (S [P.byt x.client]) ∧ Below wx.heap.size wx w' from by have h := refOne_any (x.client : Int) wx; rw [P.byI_nat x.client hc] at h; exact h)
  have w1 : IntKind.i64.wrap (x.op : Int) = (x.op : Int) := wrap_mid (by omega) (by omega)
  have w2 : IntKind.i64.wrap (x.client : Int) = (x.client : Int) := wrap_mid (by omega) (by omega)
  have hres : P.headB x.op x.client x.number = ([P.byt x.op] ++ [P.byt x.client]) ++ P.be 8 x.number := rfl
  have hb8 : (P.be 8 x.number).length = 8 := P.be_length 8 _
  have a1 : ¬ 9223372036854775807 < [P.byt x.op].length + [P.byt x.client].length := by simp
  have a2 : ¬ 9223372036854775807 < ([P.byt x.op] ++ [P.byt x.client]).length + (P.be 8 x.number).length := by simp [hb8]
  have k1 := str_catD [P.byt x.op] [P.byt x.client]
  have k2 := str_catD ([P.byt x.op] ++ [P.byt x.client]) (P.be 8 x.number)
  rw [← hres] at k2
  clear hres hb8
  generalize P.headB x.op x.client x.number = R at *
  generalize P.be 8 x.number = bb at *
  generalize [P.byt x.op] ++ [P.byt x.client] = ab at *
  generalize [P.byt x.op] = aa at *
  generalize [P.byt x.client] = cc at *
  obtain ⟨⟨c0, c1, c2, -⟩, -⟩ := h1.cells15
  go_enter Tryd.func43, Tryd.ntmps43
  go_upto_region 2 with (go_at_call 77; (with_reducible refine (HG.out _).mono ?_); rintro e w2 ⟨rfl, hb2⟩; have h2 := h1.up hb2; have hA2 := Chain.up hA hb2)
  refine wp_region_held_drew (S := fun wx => Bx wx w.heap.size 46 #[.int .u8 (x.op : Nat), .int .u8 (x.client : Nat), V64 x.number, .int .u8 (x.p.a.fam : Nat), V64 x.p.a.hi, V64 x.p.a.lo, .int .i64 x.p.bits, .int .u8 (x.a.fam : Nat), V64 x.a.hi, V64 x.a.lo, S x.owner, S x.to, V64 x.d, V64 x.fr, .int .i64 x.n] ∧ Below w.heap.size w wx) (by kernel_rfl) ⟨h2.drew, hA2.drew⟩ (fun hHeld => ?_)
  refine wpAnyH_take (i := 0) (v := ?_) rfl (by kernel_rfl) (by kernel_rfl) (by kernel_rfl) (fun _ _ _ h => h) (Or.inl ⟨by rfl, ?_⟩) hHeld ?_
  rotate_left
  · intro wq hSw; go_simp; (try with_reducible rfl)
  simp only [Act.put, nrm]
  refine wpAnyH_take (i := 1) (v := ?_) rfl (by kernel_rfl) (by kernel_rfl) (by kernel_rfl) (fun _ _ _ h => h) (Or.inl ⟨by rfl, ?_⟩) hHeld ?_
  rotate_left
  · intro wq hSw; obtain ⟨⟨q0, q1, q2, -⟩, -⟩ := hSw.1.cells15; go_simp; (try with_reducible rfl)
  simp only [Act.put, nrm]
  refine wpAnyH_take (i := 2) (v := ?_) rfl (by kernel_rfl) (by kernel_rfl) (by kernel_rfl) (fun _ _ _ h => h) (Or.inl ⟨by rfl, ?_⟩) hHeld ?_
  rotate_left
  · intro wq hSw; go_simp; (try with_reducible rfl)
  simp only [Act.put, nrm]
  refine wpAnyH_take (i := 4) (v := ?_) rfl (by kernel_rfl) (by kernel_rfl) (by kernel_rfl) (fun _ _ _ h => h) (Or.inl ⟨by rfl, ?_⟩) hHeld ?_
  rotate_left
  · intro wq hSw; go_simp; (try with_reducible rfl)
  simp only [Act.put, nrm]
  refine wpAnyH_take (i := 5) (v := ?_) rfl (by kernel_rfl) (by kernel_rfl) (by kernel_rfl) (fun _ _ _ h => h) (Or.inl ⟨by rfl, ?_⟩) hHeld ?_
  rotate_left
  · intro wq hSw; obtain ⟨⟨q0, q1, q2, -⟩, -⟩ := hSw.1.cells15; go_simp; (try with_reducible rfl)
  simp only [Act.put, nrm]
  refine wpAnyH_take (i := 6) (v := ?_) rfl (by kernel_rfl) (by kernel_rfl) (by kernel_rfl) (fun _ _ _ h => h) (Or.inl ⟨by rfl, ?_⟩) hHeld ?_
  rotate_left
  · intro wq hSw; go_simp; (try with_reducible rfl)
  simp only [Act.put, nrm]
  refine wpAnyH_take (i := 9) (v := ?_) rfl (by kernel_rfl) (by kernel_rfl) (by kernel_rfl) (fun _ _ _ h => h) (Or.inl ⟨by rfl, ?_⟩) hHeld ?_
  rotate_left
  · intro wq hSw; go_simp; (try with_reducible rfl)
  simp only [Act.put, nrm]
  refine wpAnyH_one (i := 3) (by kernel_rfl) rfl (fun K hK => ?_)
  simp only [nrm]
  go_simp
  (with_reducible refine (H1.out _).mono ?_)
  rintro e v1 ⟨rfl, hb1⟩
  have hSv1 : Bx v1 w.heap.size 46 #[.int .u8 (x.op : Nat), .int .u8 (x.client : Nat), V64 x.number, .int .u8 (x.p.a.fam : Nat), V64 x.p.a.hi, V64 x.p.a.lo, .int .i64 x.p.bits, .int .u8 (x.a.fam : Nat), V64 x.a.hi, V64 x.a.lo, S x.owner, S x.to, V64 x.d, V64 x.fr, .int .i64 x.n] ∧ Below w.heap.size w v1 := ⟨hHeld.1.up hb1, Chain.up hHeld.2 hb1⟩
  refine hK.out _ _ hSv1 ?_
  clear hK K
  refine wpAnyH_one (i := 7) (by kernel_rfl) rfl (fun K hK => ?_)
  simp only [nrm]
  go_simp
  (with_reducible refine (H2.out _).mono ?_)
  rintro e v2 ⟨rfl, hb3⟩
  have hSv2 : Bx v2 w.heap.size 46 #[.int .u8 (x.op : Nat), .int .u8 (x.client : Nat), V64 x.number, .int .u8 (x.p.a.fam : Nat), V64 x.p.a.hi, V64 x.p.a.lo, .int .i64 x.p.bits, .int .u8 (x.a.fam : Nat), V64 x.a.hi, V64 x.a.lo, S x.owner, S x.to, V64 x.d, V64 x.fr, .int .i64 x.n] ∧ Below w.heap.size w v2 := ⟨hSv1.1.up hb3, Chain.up hSv1.2 hb3⟩
  refine hK.out _ _ hSv2 ?_
  clear hK K
  refine wpAnyH_take (i := 8) (v := ?_) rfl (by kernel_rfl) (by kernel_rfl) (by kernel_rfl) (fun _ _ _ h => h) (Or.inl ⟨by rfl, ?_⟩) hSv2 ?_
  rotate_left
  · intro wq hSw; go_simp; (try with_reducible rfl)
  simp only [Act.put, nrm]
  refine wpAnyH_take (i := 10) (v := ?_) rfl (by kernel_rfl) (by kernel_rfl) (by kernel_rfl) (fun _ _ _ h => h) (Or.inl ⟨by rfl, ?_⟩) hSv2 ?_
  rotate_left
  · intro wq hSw; go_simp; (try with_reducible rfl)
  simp only [Act.put, nrm]
  refine wpAnyH_take (i := 11) (v := ?_) rfl (by kernel_rfl) (by kernel_rfl) (by kernel_rfl) (fun _ _ _ h => h) (Or.inl ⟨by rfl, ?_⟩) hSv2 ?_
  rotate_left
  · intro wq hSw; go_simp; (try with_reducible rfl)
  simp only [Act.put, nrm]
  refine wpAnyH_done (by kernel_rfl) ?_ _
  go_wp2_with fail
  go_ret
  exact ⟨by first | rfl | (simp only [k1, k2]; rfl) | (rw [← k2, ← k1]; rfl), hSv2.2⟩
end Go.Proofs.YtcobfoiajdbahaaDoor
