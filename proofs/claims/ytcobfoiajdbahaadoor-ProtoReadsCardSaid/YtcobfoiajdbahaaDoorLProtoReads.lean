/- ProtoReads: the call of any bytes, or that there is none, is the document's. The walk of the law. -/
import Derived.Test.YtcobfoiajdbahaaDoorWQAwake
import Derived.Test.YtcobfoiajdbahaaDoorWQRead26E
namespace Go.Proofs.YtcobfoiajdbahaaDoor
open Go.RowKit
set_option linter.unusedVariables false
set_option linter.unusedSimpArgs false
theorem P.eqI_same (l : List Int) (s : List (List UInt8)) : P.eqI l l s s = true := by unfold P.eqI; simp
attribute [local go_sem high] eq_RefCall guardRefCall P.eqI_same
attribute [local go_sem] str_takeS
set_option maxRecDepth 100000 in
set_option maxHeartbeats 8000000 in
theorem reads_short (t : List UInt8) (w : World) (hb : t.length ≤ 9223372036854775807) (hl : t.length ≤ 2000) (hu : UsesOk w) :
    Calls Tryd.prog 4 #[S t] w fun e w' => e = .returned (.bool true) ∧ Below w.heap.size w w' := by
  have hs : t.length ≤ 2000 := by exact hl
  have HR := Lib.hid (fun wx (hu : UsesOk wx) => read_any t (by omega) wx hu)
  have HD := Lib.hid (fun wx => refRead26_any t (by omega) wx)
  rw [(P.rf_read t).1, (P.rf_read t).2] at HD
  have hli : ¬ (2000 : Int) < ((t.length : Nat) : Int) := by omega
  generalize P.readOk t = ok at *
  generalize P.readC t = x at *
  have HV := Lib.hid (fun wx => given26_any x wx)
  go_enter Tryd.func4, Tryd.ntmps4
  go_upto_region 5 with (first
    | (go_at_call 17; (with_reducible refine (HR.out _ hu).mono ?_); rintro e w1 ⟨rfl, hb1⟩; have h20 := Bx.fresh w1 28 #[.int .u8 0, .int .u8 0, .int .u64 0, .int .u8 0, .int .u64 0, .int .u64 0, .int .i64 0, .int .u8 0, .int .u64 0, .int .u64 0, .string ⟨#[]⟩, .string ⟨#[]⟩, .int .u64 0, .int .u64 0, .int .i64 0]; have hB2 := (Below.refl w1.heap.size w1).alloc (Nat.le_refl _) (.cells #[.int .u8 0, .int .u8 0, .int .u64 0, .int .u8 0, .int .u64 0, .int .u64 0, .int .i64 0, .int .u8 0, .int .u64 0, .int .u64 0, .string ⟨#[]⟩, .string ⟨#[]⟩, .int .u64 0, .int .u64 0, .int .i64 0] 28))
    | (refine wpList_stB (by rfl) _ _ _ (by rfl) h20 _ _ (by rfl) (by rfl) 15 15 (by rfl) (by rfl) (by decide) infoCall (by rfl) (by rfl) ?_; intro w2 hz' hs2; have h2 : Bx w2 w1.heap.size 28 #[.int .u8 x.op, .int .u8 x.client, V64 x.number, .int .u8 x.p.a.fam, V64 x.p.a.hi, V64 x.p.a.lo, .int .i64 x.p.bits, .int .u8 x.a.fam, V64 x.a.hi, V64 x.a.lo, S x.owner, S x.to, V64 x.d, V64 x.fr, .int .i64 x.n] := hz'; clear hz'; have hA2 := Chain.up hb1 (hB2.trans (hs2.below (Nat.le_refl _) hB2.size)); have hlt2 := h2.lt; clear h20 hB2 hs2 hb1)
    | (go_at_call 18; (with_reducible refine (HD.out _).mono ?_); rintro e w3 ⟨rfl, hb3⟩; have h3 := h2.up hb3; have hA3 := Chain.up hA2 hb3; have hlt3 := h3.lt; have h40 := Bx.fresh w3 46 #[.int .u8 0, .int .u8 0, .int .u64 0, .int .u8 0, .int .u64 0, .int .u64 0, .int .i64 0, .int .u8 0, .int .u64 0, .int .u64 0, .string ⟨#[]⟩, .string ⟨#[]⟩, .int .u64 0, .int .u64 0, .int .i64 0]; have hB4 := (Below.refl w3.heap.size w3).alloc (Nat.le_refl _) (.cells #[.int .u8 0, .int .u8 0, .int .u64 0, .int .u8 0, .int .u64 0, .int .u64 0, .int .i64 0, .int .u8 0, .int .u64 0, .int .u64 0, .string ⟨#[]⟩, .string ⟨#[]⟩, .int .u64 0, .int .u64 0, .int .i64 0] 46); have h3' := h3.alloc (.cells #[.int .u8 0, .int .u8 0, .int .u64 0, .int .u8 0, .int .u64 0, .int .u64 0, .int .i64 0, .int .u8 0, .int .u64 0, .int .u64 0, .string ⟨#[]⟩, .string ⟨#[]⟩, .int .u64 0, .int .u64 0, .int .i64 0] 46))
    | (refine wpList_stB (by rfl) _ _ _ (by rfl) h40 _ _ (by rfl) (by rfl) 15 15 (by rfl) (by rfl) (by decide) infoRC (by rfl) (by rfl) ?_; intro w4 hz' hs4; have h4 : Bx w4 w3.heap.size 46 #[.int .u8 x.op, .int .u8 x.client, V64 x.number, .int .u8 x.p.a.fam, V64 x.p.a.hi, V64 x.p.a.lo, .int .i64 x.p.bits, .int .u8 x.a.fam, V64 x.a.hi, V64 x.a.lo, S x.owner, S x.to, V64 x.d, V64 x.fr, .int .i64 x.n] := hz'; clear hz'; have h34 := h3'.but hs4 (by omega); have hA4 := Chain.up hA3 (hB4.trans (hs4.below (Nat.le_refl _) hB4.size))))
  clear h40 hB4 h3' h3 h2 hs4
  refine wp_region_held_drew (S := fun wx => Bx wx w1.heap.size 28 #[.int .u8 x.op, .int .u8 x.client, V64 x.number, .int .u8 x.p.a.fam, V64 x.p.a.hi, V64 x.p.a.lo, .int .i64 x.p.bits, .int .u8 x.a.fam, V64 x.a.hi, V64 x.a.lo, S x.owner, S x.to, V64 x.d, V64 x.fr, .int .i64 x.n] ∧ Bx wx w3.heap.size 46 #[.int .u8 x.op, .int .u8 x.client, V64 x.number, .int .u8 x.p.a.fam, V64 x.p.a.hi, V64 x.p.a.lo, .int .i64 x.p.bits, .int .u8 x.a.fam, V64 x.a.hi, V64 x.a.lo, S x.owner, S x.to, V64 x.d, V64 x.fr, .int .i64 x.n] ∧ Below w.heap.size w wx) (by kernel_rfl) ⟨h34.drew, h4.drew, hA4.drew⟩ (fun hHeld => ?_)
  refine wpAnyH_take (i := 0) (v := .agg #[.int .u8 x.op, .int .u8 x.client, V64 x.number, .int .u8 x.p.a.fam, V64 x.p.a.hi, V64 x.p.a.lo, .int .i64 x.p.bits, .int .u8 x.a.fam, V64 x.a.hi, V64 x.a.lo, S x.owner, S x.to, V64 x.d, V64 x.fr, .int .i64 x.n]) rfl (by kernel_rfl) (by kernel_rfl) (by kernel_rfl) (fun _ _ _ h => h) (yieldsB (by rfl) _ _ (by rfl) (by rfl) (fun wx h => h.1) structCall 15 infoCall (by rfl)) hHeld ?_
  refine wpAnyH_take (i := 2) (v := .agg #[.int .u8 x.op, .int .u8 x.client, V64 x.number, .int .u8 x.p.a.fam, V64 x.p.a.hi, V64 x.p.a.lo, .int .i64 x.p.bits, .int .u8 x.a.fam, V64 x.a.hi, V64 x.a.lo, S x.owner, S x.to, V64 x.d, V64 x.fr, .int .i64 x.n]) rfl (by kernel_rfl) (by kernel_rfl) (by kernel_rfl) (fun _ _ _ h => h) (yieldsB (by rfl) _ _ (by rfl) (by rfl) (fun wx h => h.2.1) structRC 15 infoRC (by rfl)) hHeld ?_
  simp only [Act.put, List.getElem_toArray, List.getElem_cons_succ, List.getElem_cons_zero, List.setIfInBounds_toArray, List.set_cons_zero, List.set_cons_succ]
  refine wpAnyH_one (i := 1) (by kernel_rfl) rfl (fun K hK => ?_)
  simp only [List.getElem_toArray, List.getElem_cons_succ, List.getElem_cons_zero]
  go_simp
  (with_reducible refine (HV.out _).mono ?_)
  rintro e w5 ⟨rfl, hb5⟩
  have hS5 := And.intro (hHeld.1.up hb5) (And.intro (hHeld.2.1.up hb5) (Chain.up hHeld.2.2 hb5))
  refine hK.out _ _ hS5 ?_
  clear hK K
  refine wpAnyH_take (i := 3) (v := ?_) rfl (by kernel_rfl) (by kernel_rfl) (by kernel_rfl) (fun _ _ _ h => h) (Or.inl ⟨by rfl, ?_⟩) hS5 ?_
  rotate_left
  · intro wq hSw; go_simp; (try with_reducible rfl)
  simp only [Act.put, List.getElem_toArray, List.getElem_cons_succ, List.getElem_cons_zero, List.setIfInBounds_toArray, List.set_cons_zero, List.set_cons_succ]
  refine wpAnyH_take (i := 4) (v := ?_) rfl (by kernel_rfl) (by kernel_rfl) (by kernel_rfl) (fun _ _ _ h => h) (Or.inl ⟨by rfl, ?_⟩) hS5 ?_
  rotate_left
  · intro wq hSw; go_simp; (try with_reducible rfl)
  simp only [Act.put, List.getElem_toArray, List.getElem_cons_succ, List.getElem_cons_zero, List.setIfInBounds_toArray, List.set_cons_zero, List.set_cons_succ]
  refine wpAnyH_take (i := 5) (v := ?_) rfl (by kernel_rfl) (by kernel_rfl) (by kernel_rfl) (fun _ _ _ h => h) (Or.inl ⟨by rfl, ?_⟩) hS5 ?_
  rotate_left
  · intro wq hSw; go_simp; (try with_reducible rfl)
  simp only [Act.put, List.getElem_toArray, List.getElem_cons_succ, List.getElem_cons_zero, List.setIfInBounds_toArray, List.set_cons_zero, List.set_cons_succ]
  refine wpAnyH_take (i := 6) (v := ?_) rfl (by kernel_rfl) (by kernel_rfl) (by kernel_rfl) (fun _ _ _ h => h) (Or.inl ⟨by rfl, ?_⟩) hS5 ?_
  rotate_left
  · intro wq hSw; go_simp; (try with_reducible rfl)
  simp only [Act.put, List.getElem_toArray, List.getElem_cons_succ, List.getElem_cons_zero, List.setIfInBounds_toArray, List.set_cons_zero, List.set_cons_succ]
  refine wpAnyH_take (i := 7) (v := ?_) rfl (by kernel_rfl) (by kernel_rfl) (by kernel_rfl) (fun _ _ _ h => h) (Or.inl ⟨by rfl, ?_⟩) hS5 ?_
  rotate_left
  · intro wq hSw; go_simp; (try with_reducible rfl)
  simp only [Act.put, List.getElem_toArray, List.getElem_cons_succ, List.getElem_cons_zero, List.setIfInBounds_toArray, List.set_cons_zero, List.set_cons_succ]
  refine wpAnyH_take (i := 8) (v := ?_) rfl (by kernel_rfl) (by kernel_rfl) (by kernel_rfl) (fun _ _ _ h => h) (Or.inl ⟨by rfl, ?_⟩) hS5 ?_
  rotate_left
  · intro wq hSw; go_simp; (try with_reducible rfl)
  simp only [Act.put, List.getElem_toArray, List.getElem_cons_succ, List.getElem_cons_zero, List.setIfInBounds_toArray, List.set_cons_zero, List.set_cons_succ]
  refine wpAnyH_take (i := 9) (v := ?_) rfl (by kernel_rfl) (by kernel_rfl) (by kernel_rfl) (fun _ _ _ h => h) (Or.inl ⟨by rfl, ?_⟩) hS5 ?_
  rotate_left
  · intro wq hSw; go_simp; (try with_reducible rfl)
  simp only [Act.put, List.getElem_toArray, List.getElem_cons_succ, List.getElem_cons_zero, List.setIfInBounds_toArray, List.set_cons_zero, List.set_cons_succ]
  refine wpAnyH_one (i := 10) (by kernel_rfl) rfl (fun K hK => ?_)
  simp only [List.getElem_toArray, List.getElem_cons_succ, List.getElem_cons_zero]
  rw [if_pos (by rfl)]
  go_simp
  (with_reducible refine (awake_any _ (hu.up hS5.2.2)).mono ?_)
  rintro e w6 ⟨rfl, hb6⟩
  have hS6 := And.intro (hS5.1.up hb6) (And.intro (hS5.2.1.up hb6) (Chain.up hS5.2.2 hb6))
  refine hK.out _ _ hS6 ?_
  clear hK K
  refine wpAnyH_take (i := 11) (v := ?_) rfl (by kernel_rfl) (by kernel_rfl) (by kernel_rfl) (fun _ _ _ h => h) (Or.inl ⟨by rfl, ?_⟩) hS6 ?_
  rotate_left
  · intro wq hSw; go_simp; (try with_reducible rfl)
  simp only [Act.put, List.getElem_toArray, List.getElem_cons_succ, List.getElem_cons_zero, List.setIfInBounds_toArray, List.set_cons_zero, List.set_cons_succ]
  refine wpAnyH_take (i := 12) (v := ?_) rfl (by kernel_rfl) (by kernel_rfl) (by kernel_rfl) (fun _ _ _ h => h) (Or.inl ⟨by rfl, ?_⟩) hS6 ?_
  rotate_left
  · intro wq hSw; go_simp; (try with_reducible rfl)
  simp only [Act.put, List.getElem_toArray, List.getElem_cons_succ, List.getElem_cons_zero, List.setIfInBounds_toArray, List.set_cons_zero, List.set_cons_succ]
  refine wpAnyH_done (by kernel_rfl) ?_ _
  go_wp2_with fail
  go_ret
  exact ⟨rfl, hS6.2.2⟩
set_option maxRecDepth 100000 in
set_option maxHeartbeats 8000000 in
theorem reads_long (t : List UInt8) (w : World) (hb : t.length ≤ 9223372036854775807) (hl : 2000 < t.length) (hu : UsesOk w) :
    Calls Tryd.prog 4 #[S t] w fun e w' => e = .returned (.bool true) ∧ Below w.heap.size w w' := by
  have hs : (t.take 2000).length ≤ 2000 := by rw [List.length_take]; omega
  have HR := Lib.hid (fun wx (hu : UsesOk wx) => read_any (t.take 2000) (by omega) wx hu)
  have HD := Lib.hid (fun wx => refRead26_any (t.take 2000) (by omega) wx)
  rw [(P.rf_read (t.take 2000)).1, (P.rf_read (t.take 2000)).2] at HD
  have hcut := str_takeS t 2000
  have hli : (2000 : Int) < ((t.length : Nat) : Int) := by omega
  have hle : 2000 ≤ t.length := by omega
  generalize t.take 2000 = s at *
  generalize P.readOk s = ok at *
  generalize P.readC s = x at *
  have HV := Lib.hid (fun wx => given26_any x wx)
  go_enter Tryd.func4, Tryd.ntmps4
  go_upto_region 5 with (first
    | (go_at_call 17; (with_reducible refine (HR.out _ hu).mono ?_); rintro e w1 ⟨rfl, hb1⟩; have h20 := Bx.fresh w1 28 #[.int .u8 0, .int .u8 0, .int .u64 0, .int .u8 0, .int .u64 0, .int .u64 0, .int .i64 0, .int .u8 0, .int .u64 0, .int .u64 0, .string ⟨#[]⟩, .string ⟨#[]⟩, .int .u64 0, .int .u64 0, .int .i64 0]; have hB2 := (Below.refl w1.heap.size w1).alloc (Nat.le_refl _) (.cells #[.int .u8 0, .int .u8 0, .int .u64 0, .int .u8 0, .int .u64 0, .int .u64 0, .int .i64 0, .int .u8 0, .int .u64 0, .int .u64 0, .string ⟨#[]⟩, .string ⟨#[]⟩, .int .u64 0, .int .u64 0, .int .i64 0] 28))
    | (refine wpList_stB (by rfl) _ _ _ (by rfl) h20 _ _ (by rfl) (by rfl) 15 15 (by rfl) (by rfl) (by decide) infoCall (by rfl) (by rfl) ?_; intro w2 hz' hs2; have h2 : Bx w2 w1.heap.size 28 #[.int .u8 x.op, .int .u8 x.client, V64 x.number, .int .u8 x.p.a.fam, V64 x.p.a.hi, V64 x.p.a.lo, .int .i64 x.p.bits, .int .u8 x.a.fam, V64 x.a.hi, V64 x.a.lo, S x.owner, S x.to, V64 x.d, V64 x.fr, .int .i64 x.n] := hz'; clear hz'; have hA2 := Chain.up hb1 (hB2.trans (hs2.below (Nat.le_refl _) hB2.size)); have hlt2 := h2.lt; clear h20 hB2 hs2 hb1)
    | (go_at_call 18; (with_reducible refine (HD.out _).mono ?_); rintro e w3 ⟨rfl, hb3⟩; have h3 := h2.up hb3; have hA3 := Chain.up hA2 hb3; have hlt3 := h3.lt; have h40 := Bx.fresh w3 46 #[.int .u8 0, .int .u8 0, .int .u64 0, .int .u8 0, .int .u64 0, .int .u64 0, .int .i64 0, .int .u8 0, .int .u64 0, .int .u64 0, .string ⟨#[]⟩, .string ⟨#[]⟩, .int .u64 0, .int .u64 0, .int .i64 0]; have hB4 := (Below.refl w3.heap.size w3).alloc (Nat.le_refl _) (.cells #[.int .u8 0, .int .u8 0, .int .u64 0, .int .u8 0, .int .u64 0, .int .u64 0, .int .i64 0, .int .u8 0, .int .u64 0, .int .u64 0, .string ⟨#[]⟩, .string ⟨#[]⟩, .int .u64 0, .int .u64 0, .int .i64 0] 46); have h3' := h3.alloc (.cells #[.int .u8 0, .int .u8 0, .int .u64 0, .int .u8 0, .int .u64 0, .int .u64 0, .int .i64 0, .int .u8 0, .int .u64 0, .int .u64 0, .string ⟨#[]⟩, .string ⟨#[]⟩, .int .u64 0, .int .u64 0, .int .i64 0] 46))
    | (refine wpList_stB (by rfl) _ _ _ (by rfl) h40 _ _ (by rfl) (by rfl) 15 15 (by rfl) (by rfl) (by decide) infoRC (by rfl) (by rfl) ?_; intro w4 hz' hs4; have h4 : Bx w4 w3.heap.size 46 #[.int .u8 x.op, .int .u8 x.client, V64 x.number, .int .u8 x.p.a.fam, V64 x.p.a.hi, V64 x.p.a.lo, .int .i64 x.p.bits, .int .u8 x.a.fam, V64 x.a.hi, V64 x.a.lo, S x.owner, S x.to, V64 x.d, V64 x.fr, .int .i64 x.n] := hz'; clear hz'; have h34 := h3'.but hs4 (by omega); have hA4 := Chain.up hA3 (hB4.trans (hs4.below (Nat.le_refl _) hB4.size))))
  clear h40 hB4 h3' h3 h2 hs4
  refine wp_region_held_drew (S := fun wx => Bx wx w1.heap.size 28 #[.int .u8 x.op, .int .u8 x.client, V64 x.number, .int .u8 x.p.a.fam, V64 x.p.a.hi, V64 x.p.a.lo, .int .i64 x.p.bits, .int .u8 x.a.fam, V64 x.a.hi, V64 x.a.lo, S x.owner, S x.to, V64 x.d, V64 x.fr, .int .i64 x.n] ∧ Bx wx w3.heap.size 46 #[.int .u8 x.op, .int .u8 x.client, V64 x.number, .int .u8 x.p.a.fam, V64 x.p.a.hi, V64 x.p.a.lo, .int .i64 x.p.bits, .int .u8 x.a.fam, V64 x.a.hi, V64 x.a.lo, S x.owner, S x.to, V64 x.d, V64 x.fr, .int .i64 x.n] ∧ Below w.heap.size w wx) (by kernel_rfl) ⟨h34.drew, h4.drew, hA4.drew⟩ (fun hHeld => ?_)
  refine wpAnyH_take (i := 0) (v := .agg #[.int .u8 x.op, .int .u8 x.client, V64 x.number, .int .u8 x.p.a.fam, V64 x.p.a.hi, V64 x.p.a.lo, .int .i64 x.p.bits, .int .u8 x.a.fam, V64 x.a.hi, V64 x.a.lo, S x.owner, S x.to, V64 x.d, V64 x.fr, .int .i64 x.n]) rfl (by kernel_rfl) (by kernel_rfl) (by kernel_rfl) (fun _ _ _ h => h) (yieldsB (by rfl) _ _ (by rfl) (by rfl) (fun wx h => h.1) structCall 15 infoCall (by rfl)) hHeld ?_
  refine wpAnyH_take (i := 2) (v := .agg #[.int .u8 x.op, .int .u8 x.client, V64 x.number, .int .u8 x.p.a.fam, V64 x.p.a.hi, V64 x.p.a.lo, .int .i64 x.p.bits, .int .u8 x.a.fam, V64 x.a.hi, V64 x.a.lo, S x.owner, S x.to, V64 x.d, V64 x.fr, .int .i64 x.n]) rfl (by kernel_rfl) (by kernel_rfl) (by kernel_rfl) (fun _ _ _ h => h) (yieldsB (by rfl) _ _ (by rfl) (by rfl) (fun wx h => h.2.1) structRC 15 infoRC (by rfl)) hHeld ?_
  simp only [Act.put, List.getElem_toArray, List.getElem_cons_succ, List.getElem_cons_zero, List.setIfInBounds_toArray, List.set_cons_zero, List.set_cons_succ]
  refine wpAnyH_one (i := 1) (by kernel_rfl) rfl (fun K hK => ?_)
  simp only [List.getElem_toArray, List.getElem_cons_succ, List.getElem_cons_zero]
  go_simp
  (with_reducible refine (HV.out _).mono ?_)
  rintro e w5 ⟨rfl, hb5⟩
  have hS5 := And.intro (hHeld.1.up hb5) (And.intro (hHeld.2.1.up hb5) (Chain.up hHeld.2.2 hb5))
  refine hK.out _ _ hS5 ?_
  clear hK K
  refine wpAnyH_take (i := 3) (v := ?_) rfl (by kernel_rfl) (by kernel_rfl) (by kernel_rfl) (fun _ _ _ h => h) (Or.inl ⟨by rfl, ?_⟩) hS5 ?_
  rotate_left
  · intro wq hSw; go_simp; (try with_reducible rfl)
  simp only [Act.put, List.getElem_toArray, List.getElem_cons_succ, List.getElem_cons_zero, List.setIfInBounds_toArray, List.set_cons_zero, List.set_cons_succ]
  refine wpAnyH_take (i := 4) (v := ?_) rfl (by kernel_rfl) (by kernel_rfl) (by kernel_rfl) (fun _ _ _ h => h) (Or.inl ⟨by rfl, ?_⟩) hS5 ?_
  rotate_left
  · intro wq hSw; go_simp; (try with_reducible rfl)
  simp only [Act.put, List.getElem_toArray, List.getElem_cons_succ, List.getElem_cons_zero, List.setIfInBounds_toArray, List.set_cons_zero, List.set_cons_succ]
  refine wpAnyH_take (i := 5) (v := ?_) rfl (by kernel_rfl) (by kernel_rfl) (by kernel_rfl) (fun _ _ _ h => h) (Or.inl ⟨by rfl, ?_⟩) hS5 ?_
  rotate_left
  · intro wq hSw; go_simp; (try with_reducible rfl)
  simp only [Act.put, List.getElem_toArray, List.getElem_cons_succ, List.getElem_cons_zero, List.setIfInBounds_toArray, List.set_cons_zero, List.set_cons_succ]
  refine wpAnyH_take (i := 6) (v := ?_) rfl (by kernel_rfl) (by kernel_rfl) (by kernel_rfl) (fun _ _ _ h => h) (Or.inl ⟨by rfl, ?_⟩) hS5 ?_
  rotate_left
  · intro wq hSw; go_simp; (try with_reducible rfl)
  simp only [Act.put, List.getElem_toArray, List.getElem_cons_succ, List.getElem_cons_zero, List.setIfInBounds_toArray, List.set_cons_zero, List.set_cons_succ]
  refine wpAnyH_take (i := 7) (v := ?_) rfl (by kernel_rfl) (by kernel_rfl) (by kernel_rfl) (fun _ _ _ h => h) (Or.inl ⟨by rfl, ?_⟩) hS5 ?_
  rotate_left
  · intro wq hSw; go_simp; (try with_reducible rfl)
  simp only [Act.put, List.getElem_toArray, List.getElem_cons_succ, List.getElem_cons_zero, List.setIfInBounds_toArray, List.set_cons_zero, List.set_cons_succ]
  refine wpAnyH_take (i := 8) (v := ?_) rfl (by kernel_rfl) (by kernel_rfl) (by kernel_rfl) (fun _ _ _ h => h) (Or.inl ⟨by rfl, ?_⟩) hS5 ?_
  rotate_left
  · intro wq hSw; go_simp; (try with_reducible rfl)
  simp only [Act.put, List.getElem_toArray, List.getElem_cons_succ, List.getElem_cons_zero, List.setIfInBounds_toArray, List.set_cons_zero, List.set_cons_succ]
  refine wpAnyH_take (i := 9) (v := ?_) rfl (by kernel_rfl) (by kernel_rfl) (by kernel_rfl) (fun _ _ _ h => h) (Or.inl ⟨by rfl, ?_⟩) hS5 ?_
  rotate_left
  · intro wq hSw; go_simp; (try with_reducible rfl)
  simp only [Act.put, List.getElem_toArray, List.getElem_cons_succ, List.getElem_cons_zero, List.setIfInBounds_toArray, List.set_cons_zero, List.set_cons_succ]
  refine wpAnyH_one (i := 10) (by kernel_rfl) rfl (fun K hK => ?_)
  simp only [List.getElem_toArray, List.getElem_cons_succ, List.getElem_cons_zero]
  rw [if_pos (by rfl)]
  go_simp
  (with_reducible refine (awake_any _ (hu.up hS5.2.2)).mono ?_)
  rintro e w6 ⟨rfl, hb6⟩
  have hS6 := And.intro (hS5.1.up hb6) (And.intro (hS5.2.1.up hb6) (Chain.up hS5.2.2 hb6))
  refine hK.out _ _ hS6 ?_
  clear hK K
  refine wpAnyH_take (i := 11) (v := ?_) rfl (by kernel_rfl) (by kernel_rfl) (by kernel_rfl) (fun _ _ _ h => h) (Or.inl ⟨by rfl, ?_⟩) hS6 ?_
  rotate_left
  · intro wq hSw; go_simp; (try with_reducible rfl)
  simp only [Act.put, List.getElem_toArray, List.getElem_cons_succ, List.getElem_cons_zero, List.setIfInBounds_toArray, List.set_cons_zero, List.set_cons_succ]
  refine wpAnyH_take (i := 12) (v := ?_) rfl (by kernel_rfl) (by kernel_rfl) (by kernel_rfl) (fun _ _ _ h => h) (Or.inl ⟨by rfl, ?_⟩) hS6 ?_
  rotate_left
  · intro wq hSw; go_simp; (try with_reducible rfl)
  simp only [Act.put, List.getElem_toArray, List.getElem_cons_succ, List.getElem_cons_zero, List.setIfInBounds_toArray, List.set_cons_zero, List.set_cons_succ]
  refine wpAnyH_done (by kernel_rfl) ?_ _
  go_wp2_with fail
  go_ret
  exact ⟨rfl, hS6.2.2⟩
/-- The law. -/
theorem law_reads (t : List UInt8) (w : World) (hb : t.length ≤ 9223372036854775807) (hu : UsesOk w) :
    Calls Tryd.prog 4 #[S t] w fun e w' => e = .returned (.bool true) ∧ Below w.heap.size w w' := by
  by_cases hl : 2000 < t.length
  · exact reads_long t w hb hl hu
  · exact reads_short t w hb (by omega) hu
end Go.Proofs.YtcobfoiajdbahaaDoor
