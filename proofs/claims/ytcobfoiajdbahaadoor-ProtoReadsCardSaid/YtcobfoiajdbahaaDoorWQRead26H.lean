/- The walk of the document's Read, an Op each. -/
import Derived.Test.YtcobfoiajdbahaaDoorWQTk
import Derived.Test.YtcobfoiajdbahaaDoorWQRight25
import Derived.Test.YtcobfoiajdbahaaDoorWQRefWrM
import Derived.Test.YtcobfoiajdbahaaDoorPQ
namespace Go.Proofs.YtcobfoiajdbahaaDoor
open Go.RowKit
set_option linter.unusedVariables false
set_option linter.unusedSimpArgs false
attribute [local go_sem] str_dropS str_takeS
set_option maxRecDepth 100000 in
set_option maxHeartbeats 4000000 in
theorem refRead26_14 (b0 b1 : UInt8) (t : List UInt8) (hop : b0.toNat = 14) (hl : 10 ≤ (b0 :: b1 :: t).length) (hs : (b0 :: b1 :: t).length ≤ 1000000000) (w : World) : Calls Tryd.prog 18 #[S (b0 :: b1 :: t)] w fun e w' => e = .returned (.tuple #[caV (P.rfC (b0 :: b1 :: t)), .bool (P.rfOk (b0 :: b1 :: t))]) ∧ Below w.heap.size w w' := by
  have h1 := Bx.fresh w 46 #[.int .u8 0, .int .u8 0, .int .u64 0, .int .u8 0, .int .u64 0, .int .u64 0, .int .i64 0, .int .u8 0, .int .u64 0, .int .u64 0, .string ⟨#[]⟩, .string ⟨#[]⟩, .int .u64 0, .int .u64 0, .int .i64 0]
  have hA := (Below.refl w.heap.size w).alloc (Nat.le_refl _) (.cells #[.int .u8 0, .int .u8 0, .int .u64 0, .int .u8 0, .int .u64 0, .int .u64 0, .int .i64 0, .int .u8 0, .int .u64 0, .int .u64 0, .string ⟨#[]⟩, .string ⟨#[]⟩, .int .u64 0, .int .u64 0, .int .i64 0] 46)
  have hp0 : 0 < (ByteArray.mk (b0 :: b1 :: t).toArray).size := by show 0 < (b0 :: b1 :: t).toArray.size; simp
  have hp1 : 1 < (ByteArray.mk (b0 :: b1 :: t).toArray).size := by show 1 < (b0 :: b1 :: t).toArray.size; simp
  have hat0 : (ByteArray.mk (b0 :: b1 :: t).toArray)[0]'hp0 = b0 := rfl
  have hat1 : (ByteArray.mk (b0 :: b1 :: t).toArray)[1]'hp1 = b1 := rfl
  have hb0l := b0.toNat_lt
  have hop0 : ((b0.toNat : Nat) : Int) = 14 := by omega
  have hq : P.rfQ (b0 :: b1 :: t) = _ := P.rf_op14 (b0 :: b1 :: t) hop
  rw [show P.at_ (b0 :: b1 :: t) 1 = b1.toNat from rfl] at hq
  have hcl := b1.toNat_lt
  have hl0 : 0 < (b0 :: b1 :: t).length := by simp
  have hl1 : 1 < (b0 :: b1 :: t).length := by simp
  have hl2 : 2 ≤ (b0 :: b1 :: t).length := by simp
  have hl1i : (1 : Int) < (((b0 :: b1 :: t).length : Nat) : Int) := by omega
  have Hok : P.rfOk (b0 :: b1 :: t) = (decide ((P.rfQ (b0 :: b1 :: t)).2 = []) && (P.rightC (P.rfQ (b0 :: b1 :: t)).1 && decide (P.bytesC (P.rfQ (b0 :: b1 :: t)).1 = b0 :: b1 :: t))) := by
    conv => lhs; unfold P.rfOk
    rw [decide_eq_true hl, Bool.true_and]
  have Hc : P.rfC (b0 :: b1 :: t) = if P.rfOk (b0 :: b1 :: t) then (P.rfQ (b0 :: b1 :: t)).1 else P.noC := rfl
  generalize b0 :: b1 :: t = s at *
  have HB := Lib.hid (fun wx => refReadBig_any (s.drop 2) 8 wx (by rw [List.length_drop]; omega) (by omega) (by omega))
  have hnu := P.bigNum_lt (s.drop 2)
  have hd2 := str_dropS s 2
  have hd10 := str_dropS s 10
  have hr0 : (s.drop 10).length ≤ 1000000000 := by rw [List.length_drop]; omega
  generalize P.bigNum (s.drop 2) 8 = nu at *
  generalize P.bigOk (s.drop 2) 8 = bo at *
  generalize s.drop 2 = s2 at *
  generalize s.drop 10 = r0 at *
  have HT0 := Lib.hid (fun wx => tkX_any r0 hr0 wx)
  have hr1 : (P.tkX r0).2.length ≤ 1000000000 := Nat.le_trans (P.tkX_le r0) hr0
  have hy0 := P.tkX_ty r0
  generalize P.tkX r0 = q0 at *
  obtain ⟨X, r1⟩ := q0
  simp only at HT0 hr1 hy0 hq
  have HT1 := Lib.hid (fun wx => tkC_any r1 hr1 wx)
  have hr2 : (P.tkC r1).2.length ≤ 1000000000 := Nat.le_trans (P.tkC_le r1) hr1
  have hy1 := P.tkC_lt r1
  generalize P.tkC r1 = q1 at *
  obtain ⟨nn, r2⟩ := q1
  simp only at HT1 hr2 hy1 hq
  have hty : P.tyC (⟨14, b1.toNat, nu, X, P.noA, [], [], 0, 0, (nn : Int)⟩ : P.Ca) := ⟨(by decide : 14 < 256), by omega, hnu, hy0, P.ty_noA, (show (0 : Nat) < 18446744073709551616 by decide), (show (0 : Nat) < 18446744073709551616 by decide), by simp only; omega, by simp only; omega⟩
  have HR := Lib.hid (fun wx => show Calls Tryd.prog 14 #[.agg #[.int .u8 14, .int .u8 (b1.toNat : Nat), V64 nu, .int .u8 (X.a.fam : Nat), V64 X.a.hi, V64 X.a.lo, .int .i64 X.bits, .int .u8 0, .int .u64 0, .int .u64 0, .string ⟨#[]⟩, .string ⟨#[]⟩, .int .u64 0, .int .u64 0, .int .i64 (nn : Nat)]] wx fun e w' => e = .returned (.bool (P.rightC (⟨14, b1.toNat, nu, X, P.noA, [], [], 0, 0, (nn : Int)⟩ : P.Ca))) ∧ Below wx.heap.size wx w' from by
    have h := refRight14 (⟨14, b1.toNat, nu, X, P.noA, [], [], 0, 0, (nn : Int)⟩ : P.Ca) hty (by simp) (by simp) rfl wx
    skip
    exact h)
  have HW := Lib.hid (fun wx => show Calls Tryd.prog 16 #[.agg #[.int .u8 14, .int .u8 (b1.toNat : Nat), V64 nu, .int .u8 (X.a.fam : Nat), V64 X.a.hi, V64 X.a.lo, .int .i64 X.bits, .int .u8 0, .int .u64 0, .int .u64 0, .string ⟨#[]⟩, .string ⟨#[]⟩, .int .u64 0, .int .u64 0, .int .i64 (nn : Nat)]] wx fun e w' => e = .returned (S (P.bytesC (⟨14, b1.toNat, nu, X, P.noA, [], [], 0, 0, (nn : Int)⟩ : P.Ca))) ∧ Below wx.heap.size wx w' from refWrite_any (⟨14, b1.toNat, nu, X, P.noA, [], [], 0, 0, (nn : Int)⟩ : P.Ca) hty (by simp) (by simp) ⟨by simp only; omega, by simp only; omega⟩ wx)
  rw [hq] at Hok Hc
  simp only at Hok Hc
  have HOk := Lib.hid Hok
  have HC := Lib.hid Hc
  clear hq Hok Hc hty
  generalize P.rfOk s = ok at *
  generalize P.rfC s = res at *
  have HY : ∃ y : P.Ca, y = (⟨14, b1.toNat, nu, X, P.noA, [], [], 0, 0, (nn : Int)⟩ : P.Ca) := ⟨_, rfl⟩
  generalize P.rightC (⟨14, b1.toNat, nu, X, P.noA, [], [], 0, 0, (nn : Int)⟩ : P.Ca) = RR at *
  generalize P.bytesC (⟨14, b1.toNat, nu, X, P.noA, [], [], 0, 0, (nn : Int)⟩ : P.Ca) = BB at *
  have hok10 : ¬ s.length < 10 := by omega
  go_enter Tryd.func18, Tryd.ntmps18
  go_upto_region 3 with fail
  generalize hW : w.alloc (.cells #[.int .u8 0, .int .u8 0, .int .u64 0, .int .u8 0, .int .u64 0, .int .u64 0, .int .i64 0, .int .u8 0, .int .u64 0, .int .u64 0, .string ⟨#[]⟩, .string ⟨#[]⟩, .int .u64 0, .int .u64 0, .int .i64 0] 46) = w1 at *
  clear hW
  refine wp_region_held_drew (S := fun wx => Below w1.heap.size w1 wx) (by kernel_rfl) (Below.refl _ _).drew (fun hHeld => ?_)
  have hlt1 := h1.lt
  generalize hWd : w1.drew = v1 at *
  clear hWd
  refine wpAnyH_take (i := 0) (v := ?_) rfl (by kernel_rfl) (by kernel_rfl) (by kernel_rfl) (fun _ _ _ h => h) (Or.inl ⟨by rfl, ?_⟩) hHeld ?_
  rotate_left
  · intro wq hSw; go_simp; (try with_reducible rfl)
  simp only [Act.put, List.getElem_toArray, List.getElem_cons_succ, List.getElem_cons_zero, List.setIfInBounds_toArray, List.set_cons_zero, List.set_cons_succ]
  refine wpAnyH_take (i := 1) (v := ?_) rfl (by kernel_rfl) (by kernel_rfl) (by kernel_rfl) (fun _ _ _ h => h) (Or.inl ⟨by rfl, ?_⟩) hHeld ?_
  rotate_left
  · intro wq hSw; go_simp; (try with_reducible rfl)
  simp only [Act.put, List.getElem_toArray, List.getElem_cons_succ, List.getElem_cons_zero, List.setIfInBounds_toArray, List.set_cons_zero, List.set_cons_succ]
  refine wpAnyH_take (i := 2) (v := ?_) rfl (by kernel_rfl) (by kernel_rfl) (by kernel_rfl) (fun _ _ _ h => h) (Or.inl ⟨by rfl, ?_⟩) hHeld ?_
  rotate_left
  · intro wq hSw; go_simp; (try with_reducible rfl)
  simp only [Act.put, List.getElem_toArray, List.getElem_cons_succ, List.getElem_cons_zero, List.setIfInBounds_toArray, List.set_cons_zero, List.set_cons_succ]
  refine wpAnyH_take (i := 3) (v := ?_) rfl (by kernel_rfl) (by kernel_rfl) (by kernel_rfl) (fun _ _ _ h => h) (Or.inl ⟨by rfl, ?_⟩) hHeld ?_
  rotate_left
  · intro wq hSw; go_simp; (try with_reducible rfl)
  simp only [Act.put, List.getElem_toArray, List.getElem_cons_succ, List.getElem_cons_zero, List.setIfInBounds_toArray, List.set_cons_zero, List.set_cons_succ]
  refine wpAnyH_take (i := 4) (v := ?_) rfl (by kernel_rfl) (by kernel_rfl) (by kernel_rfl) (fun _ _ _ h => h) (Or.inl ⟨by rfl, ?_⟩) hHeld ?_
  rotate_left
  · intro wq hSw; go_simp; (try with_reducible rfl)
  simp only [Act.put, List.getElem_toArray, List.getElem_cons_succ, List.getElem_cons_zero, List.setIfInBounds_toArray, List.set_cons_zero, List.set_cons_succ]
  refine wpAnyH_one (i := 5) (by kernel_rfl) rfl (fun K hK => ?_)
  simp only [List.getElem_toArray, List.getElem_cons_succ, List.getElem_cons_zero]
  go_simp
  have hc2 := Bx.fresh v1 46 #[.int .u8 0, .int .u8 0, .int .u64 0, .int .u8 0, .int .u64 0, .int .u64 0, .int .i64 0, .int .u8 0, .int .u64 0, .int .u64 0, .string ⟨#[]⟩, .string ⟨#[]⟩, .int .u64 0, .int .u64 0, .int .i64 0]
  have hg := hHeld.size
  have hS2 := hHeld.alloc hHeld.size (.cells #[.int .u8 0, .int .u8 0, .int .u64 0, .int .u8 0, .int .u64 0, .int .u64 0, .int .i64 0, .int .u8 0, .int .u64 0, .int .u64 0, .string ⟨#[]⟩, .string ⟨#[]⟩, .int .u64 0, .int .u64 0, .int .i64 0] 46)
  refine hK.out _ _ hS2 ?_
  generalize hWn : v1.alloc (.cells #[.int .u8 0, .int .u8 0, .int .u64 0, .int .u8 0, .int .u64 0, .int .u64 0, .int .i64 0, .int .u8 0, .int .u64 0, .int .u64 0, .string ⟨#[]⟩, .string ⟨#[]⟩, .int .u64 0, .int .u64 0, .int .i64 0] 46) = v2 at *
  clear hWn
  generalize v1.heap.size = gc at *
  clear hK K
  refine wpAnyH_one (i := 6) (by kernel_rfl) rfl (fun K hK => ?_)
  simp only [List.getElem_toArray, List.getElem_cons_succ, List.getElem_cons_zero]
  rw [if_pos (by rfl)]
  refine wp_stB _ _ _ (by rfl) hc2 _ _ (by rfl) (by rfl) 15 15 (by rfl) (by rfl) (by decide) infoRC (by rfl) (by rfl) ?_
  intro v3 hz' hb3
  have hc3 : Bx v3 gc 46 #[.int .u8 14, .int .u8 (b1.toNat : Nat), .int .u64 0, .int .u8 0, .int .u64 0, .int .u64 0, .int .i64 0, .int .u8 0, .int .u64 0, .int .u64 0, .string ⟨#[]⟩, .string ⟨#[]⟩, .int .u64 0, .int .u64 0, .int .i64 0] := hz'
  have hS3 : Below w1.heap.size w1 v3 := hS2.trans (hb3.below hg hS2.size)
  refine hK.out _ _ hS3 ?_
  simp only [Act.put, List.getElem_toArray, List.getElem_cons_succ, List.getElem_cons_zero, List.setIfInBounds_toArray, List.set_cons_zero, List.set_cons_succ]
  clear hK K
  refine wpAnyH_done (by kernel_rfl) ?_ _
  have hz3 := h1.up hS3
  have hA3 := Chain.up hA hS3
  have hne : w.heap.size ≠ gc := by omega
  have hgw : w.heap.size ≤ gc := by omega
  clear hHeld hS2 hb3 hS3 hc2 h1 hA
  obtain ⟨⟨c3q0, c3q1, c3q2, c3q3, c3q4, c3q5, c3q6, c3q7, c3q8, c3q9, c3q10, c3q11, c3q12, c3q13, c3q14⟩, -⟩ := hc3.cells15
  go_upto_region 6 with (first
    | (go_at_call 56; (with_reducible refine (HB.out _).mono ?_); rintro e v4 ⟨rfl, hb4⟩; have hc4 := hc3.up hb4; have hz4 := hz3.up hb4; have hA4 := Chain.up hA3 hb4; clear hc3 hz3 hA3 hb4 c3q0 c3q1 c3q2 c3q3 c3q4 c3q5 c3q6 c3q7 c3q8 c3q9 c3q10 c3q11 c3q12 c3q13 c3q14)
    | (refine wpList_stV (by rfl) _ _ _ (by rfl) hc4 2 _ (by rfl) (by rfl) (by rfl) (by rfl) 15 (by rfl) (by decide) infoU64 (by rfl) ?_; intro v5 hz' hb5; have hc5 : Bx v5 gc 46 #[.int .u8 14, .int .u8 (b1.toNat : Nat), V64 nu, .int .u8 0, .int .u64 0, .int .u64 0, .int .i64 0, .int .u8 0, .int .u64 0, .int .u64 0, .string ⟨#[]⟩, .string ⟨#[]⟩, .int .u64 0, .int .u64 0, .int .i64 0] := hz'; clear hz'; have hz5 := hz4.but hb5 hne; have hA5 := hA4.trans (hb5.below hgw hA4.size); have c5q0 := hc5.cell 0; simp only [List.getElem?_toArray, List.getElem?_cons_zero] at c5q0; clear hc4 hz4 hA4 hb5))
  clear hd2 hd10 hat0 hat1 hp0 hp1 hl0 hl1 hl2 hl1i HB hok10 hop0 hop
  go_upto_region 7 with fail
  go_upto_region 8 with (first
    | (go_at_call 57; (with_reducible refine (HT0.out _).mono ?_); rintro e v6 ⟨rfl, hb6⟩; have hc6 := hc5.up hb6; have hz6 := hz5.up hb6; have hA6 := Chain.up hA5 hb6; clear hc5 hz5 hA5 hb6 c5q0)
    | (refine wpList_stB (by rfl) _ _ _ (by rfl) hc6 3 _ (by rfl) (by rfl) 4 15 (by rfl) (by rfl) (by decide) infoRX (by rfl) (by rfl) ?_; intro v7 hz' hb7; have hc7 : Bx v7 gc 46 #[.int .u8 14, .int .u8 (b1.toNat : Nat), V64 nu, .int .u8 (X.a.fam : Nat), V64 X.a.hi, V64 X.a.lo, .int .i64 X.bits, .int .u8 0, .int .u64 0, .int .u64 0, .string ⟨#[]⟩, .string ⟨#[]⟩, .int .u64 0, .int .u64 0, .int .i64 0] := hz'; clear hz'; have hz7 := hz6.but hb7 hne; have hA7 := hA6.trans (hb7.below hgw hA6.size); have c7q0 := hc7.cell 0; simp only [List.getElem?_toArray, List.getElem?_cons_zero] at c7q0; clear hc6 hz6 hA6 hb7))
  go_upto_region 19 with fail
  go_upto_region 20 with (first
    | (go_at_call 61; (with_reducible refine (HT1.out _).mono ?_); rintro e v8 ⟨rfl, hb8⟩; have hc8 := hc7.up hb8; have hz8 := hz7.up hb8; have hA8 := Chain.up hA7 hb8; clear hc7 hz7 hA7 hb8 c7q0)
    | (refine wpList_stV (by rfl) _ _ _ (by rfl) hc8 14 _ (by rfl) (by rfl) (by rfl) (by rfl) 15 (by rfl) (by decide) infoInt (by rfl) ?_; intro v9 hz' hb9; have hc9 : Bx v9 gc 46 #[.int .u8 14, .int .u8 (b1.toNat : Nat), V64 nu, .int .u8 (X.a.fam : Nat), V64 X.a.hi, V64 X.a.lo, .int .i64 X.bits, .int .u8 0, .int .u64 0, .int .u64 0, .string ⟨#[]⟩, .string ⟨#[]⟩, .int .u64 0, .int .u64 0, .int .i64 (nn : Nat)] := hz'; clear hz'; have hz9 := hz8.but hb9 hne; have hA9 := hA8.trans (hb9.below hgw hA8.size); have c9q0 := hc9.cell 0; simp only [List.getElem?_toArray, List.getElem?_cons_zero] at c9q0; clear hc8 hz8 hA8 hb9))
  obtain ⟨⟨cNq0, cNq1, cNq2, cNq3, cNq4, cNq5, cNq6, cNq7, cNq8, cNq9, cNq10, cNq11, cNq12, cNq13, cNq14⟩, -⟩ := hc9.cells15
  cases r2 with
  | cons cx tx' =>
    have hlr : 0 < (cx :: tx').length := by simp
    have Hf := Lib.hid (show res = P.noC ∧ ok = false from by rw [HC.out, HOk.out]; simp)
    go_upto_region 21 with fail
    go_wp2_with (refine wpList_stB (by rfl) _ _ _ (by rfl) hz9 _ _ (by rfl) (by rfl) 15 15 (by rfl) (by rfl) (by decide) infoRC (by rfl) (by rfl) ?_; intro w99 hz' hb99; have z99 : Bx w99 w.heap.size 46 #[.int .u8 0, .int .u8 0, .int .u64 0, .int .u8 0, .int .u64 0, .int .u64 0, .int .i64 0, .int .u8 0, .int .u64 0, .int .u64 0, .string ⟨#[]⟩, .string ⟨#[]⟩, .int .u64 0, .int .u64 0, .int .i64 0] := hz'; clear hz')
    exact bodyPost_ret (results_box2 rfl (by rfl) (loadB z99 structRC infoRC rfl)) rfl ⟨by rw [Hf.out.1, Hf.out.2]; rfl, hA9.trans (hb99.below (Nat.le_refl _) hA9.size)⟩
  | nil =>
    cases RR with
    | false =>
      have Hf := Lib.hid (show res = P.noC ∧ ok = false from by rw [HC.out, HOk.out]; simp)
      go_upto_region 21 with (go_at_call 14; (with_reducible refine (HR.out _).mono ?_); rintro e v60 ⟨rfl, hb60⟩; have hc60 := hc9.up hb60; have hz60 := hz9.up hb60; have hA60 := Chain.up hA9 hb60; obtain ⟨⟨c60q0, c60q1, c60q2, c60q3, c60q4, c60q5, c60q6, c60q7, c60q8, c60q9, c60q10, c60q11, c60q12, c60q13, c60q14⟩, -⟩ := hc60.cells15)
      go_wp2_with (refine wpList_stB (by rfl) _ _ _ (by rfl) hz60 _ _ (by rfl) (by rfl) 15 15 (by rfl) (by rfl) (by decide) infoRC (by rfl) (by rfl) ?_; intro w99 hz' hb99; have z99 : Bx w99 w.heap.size 46 #[.int .u8 0, .int .u8 0, .int .u64 0, .int .u8 0, .int .u64 0, .int .u64 0, .int .i64 0, .int .u8 0, .int .u64 0, .int .u64 0, .string ⟨#[]⟩, .string ⟨#[]⟩, .int .u64 0, .int .u64 0, .int .i64 0] := hz'; clear hz')
      exact bodyPost_ret (results_box2 rfl (by rfl) (loadB z99 structRC infoRC rfl)) rfl ⟨by rw [Hf.out.1, Hf.out.2]; rfl, hA60.trans (hb99.below (Nat.le_refl _) hA60.size)⟩
    | true =>
      by_cases hB : BB = s
      · subst hB
        obtain ⟨y, HYe⟩ := HY
        have Hf := Lib.hid (show res = (⟨14, b1.toNat, nu, X, P.noA, [], [], 0, 0, (nn : Int)⟩ : P.Ca) ∧ ok = true from by rw [HC.out, HOk.out]; simp)
        go_upto_region 22 with (first
          | (go_at_call 14; (with_reducible refine (HR.out _).mono ?_); rintro e v60 ⟨rfl, hb60⟩; have hc60 := hc9.up hb60; have hz60 := hz9.up hb60; have hA60 := Chain.up hA9 hb60; obtain ⟨⟨c60q0, c60q1, c60q2, c60q3, c60q4, c60q5, c60q6, c60q7, c60q8, c60q9, c60q10, c60q11, c60q12, c60q13, c60q14⟩, -⟩ := hc60.cells15)
          | (go_at_call 16; (with_reducible refine (HW.out _).mono ?_); rintro e v61 ⟨rfl, hb61⟩; have hc61 := hc60.up hb61; have hz61 := hz60.up hb61; have hA61 := Chain.up hA60 hb61))
        go_wp2_with (first
          | (refine wpList_ldB (by rfl) _ _ (by rfl) hc61 (by rfl) structRC 15 infoRC (by rfl) ?_)
          | (refine wpList_stB (by rfl) _ _ _ (by rfl) hz61 _ _ (by rfl) (by rfl) 15 15 (by rfl) (by rfl) (by decide) infoRC (by rfl) (by rfl) ?_; intro w99 hz' hb99; have z99 : Bx w99 w.heap.size 46 #[.int .u8 14, .int .u8 (b1.toNat : Nat), V64 nu, .int .u8 (X.a.fam : Nat), V64 X.a.hi, V64 X.a.lo, .int .i64 X.bits, .int .u8 0, .int .u64 0, .int .u64 0, .string ⟨#[]⟩, .string ⟨#[]⟩, .int .u64 0, .int .u64 0, .int .i64 (nn : Nat)] := hz'; clear hz'))
        exact bodyPost_ret (results_box2 rfl (by rfl) (loadB z99 structRC infoRC rfl)) rfl ⟨by rw [Hf.out.1, Hf.out.2]; rfl, hA61.trans (hb99.below (Nat.le_refl _) hA61.size)⟩
      · have hBs : (BB == s) = false := beq_eq_false_iff_ne.2 hB
        have Hf := Lib.hid (show res = P.noC ∧ ok = false from by rw [HC.out, HOk.out]; simp [hB])
        go_upto_region 21 with (first
          | (go_at_call 14; (with_reducible refine (HR.out _).mono ?_); rintro e v60 ⟨rfl, hb60⟩; have hc60 := hc9.up hb60; have hz60 := hz9.up hb60; have hA60 := Chain.up hA9 hb60; obtain ⟨⟨c60q0, c60q1, c60q2, c60q3, c60q4, c60q5, c60q6, c60q7, c60q8, c60q9, c60q10, c60q11, c60q12, c60q13, c60q14⟩, -⟩ := hc60.cells15)
          | (go_at_call 16; (with_reducible refine (HW.out _).mono ?_); rintro e v61 ⟨rfl, hb61⟩; have hc61 := hc60.up hb61; have hz61 := hz60.up hb61; have hA61 := Chain.up hA60 hb61))
        go_wp2_with (refine wpList_stB (by rfl) _ _ _ (by rfl) hz61 _ _ (by rfl) (by rfl) 15 15 (by rfl) (by rfl) (by decide) infoRC (by rfl) (by rfl) ?_; intro w99 hz' hb99; have z99 : Bx w99 w.heap.size 46 #[.int .u8 0, .int .u8 0, .int .u64 0, .int .u8 0, .int .u64 0, .int .u64 0, .int .i64 0, .int .u8 0, .int .u64 0, .int .u64 0, .string ⟨#[]⟩, .string ⟨#[]⟩, .int .u64 0, .int .u64 0, .int .i64 0] := hz'; clear hz')
        exact bodyPost_ret (results_box2 rfl (by rfl) (loadB z99 structRC infoRC rfl)) rfl ⟨by rw [Hf.out.1, Hf.out.2]; rfl, hA61.trans (hb99.below (Nat.le_refl _) hA61.size)⟩
set_option maxRecDepth 100000 in
set_option maxHeartbeats 4000000 in
theorem refRead26_15 (b0 b1 : UInt8) (t : List UInt8) (hop : b0.toNat = 15) (hl : 10 ≤ (b0 :: b1 :: t).length) (hs : (b0 :: b1 :: t).length ≤ 1000000000) (w : World) : Calls Tryd.prog 18 #[S (b0 :: b1 :: t)] w fun e w' => e = .returned (.tuple #[caV (P.rfC (b0 :: b1 :: t)), .bool (P.rfOk (b0 :: b1 :: t))]) ∧ Below w.heap.size w w' := by
  have h1 := Bx.fresh w 46 #[.int .u8 0, .int .u8 0, .int .u64 0, .int .u8 0, .int .u64 0, .int .u64 0, .int .i64 0, .int .u8 0, .int .u64 0, .int .u64 0, .string ⟨#[]⟩, .string ⟨#[]⟩, .int .u64 0, .int .u64 0, .int .i64 0]
  have hA := (Below.refl w.heap.size w).alloc (Nat.le_refl _) (.cells #[.int .u8 0, .int .u8 0, .int .u64 0, .int .u8 0, .int .u64 0, .int .u64 0, .int .i64 0, .int .u8 0, .int .u64 0, .int .u64 0, .string ⟨#[]⟩, .string ⟨#[]⟩, .int .u64 0, .int .u64 0, .int .i64 0] 46)
  have hp0 : 0 < (ByteArray.mk (b0 :: b1 :: t).toArray).size := by show 0 < (b0 :: b1 :: t).toArray.size; simp
  have hp1 : 1 < (ByteArray.mk (b0 :: b1 :: t).toArray).size := by show 1 < (b0 :: b1 :: t).toArray.size; simp
  have hat0 : (ByteArray.mk (b0 :: b1 :: t).toArray)[0]'hp0 = b0 := rfl
  have hat1 : (ByteArray.mk (b0 :: b1 :: t).toArray)[1]'hp1 = b1 := rfl
  have hb0l := b0.toNat_lt
  have hop0 : ((b0.toNat : Nat) : Int) = 15 := by omega
  have hq : P.rfQ (b0 :: b1 :: t) = _ := P.rf_op15 (b0 :: b1 :: t) hop
  rw [show P.at_ (b0 :: b1 :: t) 1 = b1.toNat from rfl] at hq
  have hcl := b1.toNat_lt
  have hl0 : 0 < (b0 :: b1 :: t).length := by simp
  have hl1 : 1 < (b0 :: b1 :: t).length := by simp
  have hl2 : 2 ≤ (b0 :: b1 :: t).length := by simp
  have hl1i : (1 : Int) < (((b0 :: b1 :: t).length : Nat) : Int) := by omega
  have Hok : P.rfOk (b0 :: b1 :: t) = (decide ((P.rfQ (b0 :: b1 :: t)).2 = []) && (P.rightC (P.rfQ (b0 :: b1 :: t)).1 && decide (P.bytesC (P.rfQ (b0 :: b1 :: t)).1 = b0 :: b1 :: t))) := by
    conv => lhs; unfold P.rfOk
    rw [decide_eq_true hl, Bool.true_and]
  have Hc : P.rfC (b0 :: b1 :: t) = if P.rfOk (b0 :: b1 :: t) then (P.rfQ (b0 :: b1 :: t)).1 else P.noC := rfl
  generalize b0 :: b1 :: t = s at *
  have HB := Lib.hid (fun wx => refReadBig_any (s.drop 2) 8 wx (by rw [List.length_drop]; omega) (by omega) (by omega))
  have hnu := P.bigNum_lt (s.drop 2)
  have hd2 := str_dropS s 2
  have hd10 := str_dropS s 10
  have hr0 : (s.drop 10).length ≤ 1000000000 := by rw [List.length_drop]; omega
  generalize P.bigNum (s.drop 2) 8 = nu at *
  generalize P.bigOk (s.drop 2) 8 = bo at *
  generalize s.drop 2 = s2 at *
  generalize s.drop 10 = r0 at *
  have hty : P.tyC (⟨15, b1.toNat, nu, P.noX, P.noA, [], [], 0, 0, 0⟩ : P.Ca) := ⟨(by decide : 15 < 256), by omega, hnu, P.ty_noX, P.ty_noA, (show (0 : Nat) < 18446744073709551616 by decide), (show (0 : Nat) < 18446744073709551616 by decide), (show (-9223372036854775808 : Int) ≤ 0 by decide), (show (0 : Int) ≤ 9223372036854775807 by decide)⟩
  have HR := Lib.hid (fun wx => show Calls Tryd.prog 14 #[.agg #[.int .u8 15, .int .u8 (b1.toNat : Nat), V64 nu, .int .u8 0, .int .u64 0, .int .u64 0, .int .i64 0, .int .u8 0, .int .u64 0, .int .u64 0, .string ⟨#[]⟩, .string ⟨#[]⟩, .int .u64 0, .int .u64 0, .int .i64 0]] wx fun e w' => e = .returned (.bool (P.rightC (⟨15, b1.toNat, nu, P.noX, P.noA, [], [], 0, 0, 0⟩ : P.Ca))) ∧ Below wx.heap.size wx w' from by
    have h := refRight15 (⟨15, b1.toNat, nu, P.noX, P.noA, [], [], 0, 0, 0⟩ : P.Ca) hty (by simp) (by simp) rfl wx
    skip
    exact h)
  have HW := Lib.hid (fun wx => show Calls Tryd.prog 16 #[.agg #[.int .u8 15, .int .u8 (b1.toNat : Nat), V64 nu, .int .u8 0, .int .u64 0, .int .u64 0, .int .i64 0, .int .u8 0, .int .u64 0, .int .u64 0, .string ⟨#[]⟩, .string ⟨#[]⟩, .int .u64 0, .int .u64 0, .int .i64 0]] wx fun e w' => e = .returned (S (P.bytesC (⟨15, b1.toNat, nu, P.noX, P.noA, [], [], 0, 0, 0⟩ : P.Ca))) ∧ Below wx.heap.size wx w' from refWrite_any (⟨15, b1.toNat, nu, P.noX, P.noA, [], [], 0, 0, 0⟩ : P.Ca) hty (by simp) (by simp) ⟨by simp only; omega, by simp only; omega⟩ wx)
  rw [hq] at Hok Hc
  simp only at Hok Hc
  have HOk := Lib.hid Hok
  have HC := Lib.hid Hc
  clear hq Hok Hc hty
  generalize P.rfOk s = ok at *
  generalize P.rfC s = res at *
  have HY : ∃ y : P.Ca, y = (⟨15, b1.toNat, nu, P.noX, P.noA, [], [], 0, 0, 0⟩ : P.Ca) := ⟨_, rfl⟩
  generalize P.rightC (⟨15, b1.toNat, nu, P.noX, P.noA, [], [], 0, 0, 0⟩ : P.Ca) = RR at *
  generalize P.bytesC (⟨15, b1.toNat, nu, P.noX, P.noA, [], [], 0, 0, 0⟩ : P.Ca) = BB at *
  have hok10 : ¬ s.length < 10 := by omega
  go_enter Tryd.func18, Tryd.ntmps18
  go_upto_region 3 with fail
  generalize hW : w.alloc (.cells #[.int .u8 0, .int .u8 0, .int .u64 0, .int .u8 0, .int .u64 0, .int .u64 0, .int .i64 0, .int .u8 0, .int .u64 0, .int .u64 0, .string ⟨#[]⟩, .string ⟨#[]⟩, .int .u64 0, .int .u64 0, .int .i64 0] 46) = w1 at *
  clear hW
  refine wp_region_held_drew (S := fun wx => Below w1.heap.size w1 wx) (by kernel_rfl) (Below.refl _ _).drew (fun hHeld => ?_)
  have hlt1 := h1.lt
  generalize hWd : w1.drew = v1 at *
  clear hWd
  refine wpAnyH_take (i := 0) (v := ?_) rfl (by kernel_rfl) (by kernel_rfl) (by kernel_rfl) (fun _ _ _ h => h) (Or.inl ⟨by rfl, ?_⟩) hHeld ?_
  rotate_left
  · intro wq hSw; go_simp; (try with_reducible rfl)
  simp only [Act.put, List.getElem_toArray, List.getElem_cons_succ, List.getElem_cons_zero, List.setIfInBounds_toArray, List.set_cons_zero, List.set_cons_succ]
  refine wpAnyH_take (i := 1) (v := ?_) rfl (by kernel_rfl) (by kernel_rfl) (by kernel_rfl) (fun _ _ _ h => h) (Or.inl ⟨by rfl, ?_⟩) hHeld ?_
  rotate_left
  · intro wq hSw; go_simp; (try with_reducible rfl)
  simp only [Act.put, List.getElem_toArray, List.getElem_cons_succ, List.getElem_cons_zero, List.setIfInBounds_toArray, List.set_cons_zero, List.set_cons_succ]
  refine wpAnyH_take (i := 2) (v := ?_) rfl (by kernel_rfl) (by kernel_rfl) (by kernel_rfl) (fun _ _ _ h => h) (Or.inl ⟨by rfl, ?_⟩) hHeld ?_
  rotate_left
  · intro wq hSw; go_simp; (try with_reducible rfl)
  simp only [Act.put, List.getElem_toArray, List.getElem_cons_succ, List.getElem_cons_zero, List.setIfInBounds_toArray, List.set_cons_zero, List.set_cons_succ]
  refine wpAnyH_take (i := 3) (v := ?_) rfl (by kernel_rfl) (by kernel_rfl) (by kernel_rfl) (fun _ _ _ h => h) (Or.inl ⟨by rfl, ?_⟩) hHeld ?_
  rotate_left
  · intro wq hSw; go_simp; (try with_reducible rfl)
  simp only [Act.put, List.getElem_toArray, List.getElem_cons_succ, List.getElem_cons_zero, List.setIfInBounds_toArray, List.set_cons_zero, List.set_cons_succ]
  refine wpAnyH_take (i := 4) (v := ?_) rfl (by kernel_rfl) (by kernel_rfl) (by kernel_rfl) (fun _ _ _ h => h) (Or.inl ⟨by rfl, ?_⟩) hHeld ?_
  rotate_left
  · intro wq hSw; go_simp; (try with_reducible rfl)
  simp only [Act.put, List.getElem_toArray, List.getElem_cons_succ, List.getElem_cons_zero, List.setIfInBounds_toArray, List.set_cons_zero, List.set_cons_succ]
  refine wpAnyH_one (i := 5) (by kernel_rfl) rfl (fun K hK => ?_)
  simp only [List.getElem_toArray, List.getElem_cons_succ, List.getElem_cons_zero]
  go_simp
  have hc2 := Bx.fresh v1 46 #[.int .u8 0, .int .u8 0, .int .u64 0, .int .u8 0, .int .u64 0, .int .u64 0, .int .i64 0, .int .u8 0, .int .u64 0, .int .u64 0, .string ⟨#[]⟩, .string ⟨#[]⟩, .int .u64 0, .int .u64 0, .int .i64 0]
  have hg := hHeld.size
  have hS2 := hHeld.alloc hHeld.size (.cells #[.int .u8 0, .int .u8 0, .int .u64 0, .int .u8 0, .int .u64 0, .int .u64 0, .int .i64 0, .int .u8 0, .int .u64 0, .int .u64 0, .string ⟨#[]⟩, .string ⟨#[]⟩, .int .u64 0, .int .u64 0, .int .i64 0] 46)
  refine hK.out _ _ hS2 ?_
  generalize hWn : v1.alloc (.cells #[.int .u8 0, .int .u8 0, .int .u64 0, .int .u8 0, .int .u64 0, .int .u64 0, .int .i64 0, .int .u8 0, .int .u64 0, .int .u64 0, .string ⟨#[]⟩, .string ⟨#[]⟩, .int .u64 0, .int .u64 0, .int .i64 0] 46) = v2 at *
  clear hWn
  generalize v1.heap.size = gc at *
  clear hK K
  refine wpAnyH_one (i := 6) (by kernel_rfl) rfl (fun K hK => ?_)
  simp only [List.getElem_toArray, List.getElem_cons_succ, List.getElem_cons_zero]
  rw [if_pos (by rfl)]
  refine wp_stB _ _ _ (by rfl) hc2 _ _ (by rfl) (by rfl) 15 15 (by rfl) (by rfl) (by decide) infoRC (by rfl) (by rfl) ?_
  intro v3 hz' hb3
  have hc3 : Bx v3 gc 46 #[.int .u8 15, .int .u8 (b1.toNat : Nat), .int .u64 0, .int .u8 0, .int .u64 0, .int .u64 0, .int .i64 0, .int .u8 0, .int .u64 0, .int .u64 0, .string ⟨#[]⟩, .string ⟨#[]⟩, .int .u64 0, .int .u64 0, .int .i64 0] := hz'
  have hS3 : Below w1.heap.size w1 v3 := hS2.trans (hb3.below hg hS2.size)
  refine hK.out _ _ hS3 ?_
  simp only [Act.put, List.getElem_toArray, List.getElem_cons_succ, List.getElem_cons_zero, List.setIfInBounds_toArray, List.set_cons_zero, List.set_cons_succ]
  clear hK K
  refine wpAnyH_done (by kernel_rfl) ?_ _
  have hz3 := h1.up hS3
  have hA3 := Chain.up hA hS3
  have hne : w.heap.size ≠ gc := by omega
  have hgw : w.heap.size ≤ gc := by omega
  clear hHeld hS2 hb3 hS3 hc2 h1 hA
  obtain ⟨⟨c3q0, c3q1, c3q2, c3q3, c3q4, c3q5, c3q6, c3q7, c3q8, c3q9, c3q10, c3q11, c3q12, c3q13, c3q14⟩, -⟩ := hc3.cells15
  go_upto_region 6 with (first
    | (go_at_call 56; (with_reducible refine (HB.out _).mono ?_); rintro e v4 ⟨rfl, hb4⟩; have hc4 := hc3.up hb4; have hz4 := hz3.up hb4; have hA4 := Chain.up hA3 hb4; clear hc3 hz3 hA3 hb4 c3q0 c3q1 c3q2 c3q3 c3q4 c3q5 c3q6 c3q7 c3q8 c3q9 c3q10 c3q11 c3q12 c3q13 c3q14)
    | (refine wpList_stV (by rfl) _ _ _ (by rfl) hc4 2 _ (by rfl) (by rfl) (by rfl) (by rfl) 15 (by rfl) (by decide) infoU64 (by rfl) ?_; intro v5 hz' hb5; have hc5 : Bx v5 gc 46 #[.int .u8 15, .int .u8 (b1.toNat : Nat), V64 nu, .int .u8 0, .int .u64 0, .int .u64 0, .int .i64 0, .int .u8 0, .int .u64 0, .int .u64 0, .string ⟨#[]⟩, .string ⟨#[]⟩, .int .u64 0, .int .u64 0, .int .i64 0] := hz'; clear hz'; have hz5 := hz4.but hb5 hne; have hA5 := hA4.trans (hb5.below hgw hA4.size); have c5q0 := hc5.cell 0; simp only [List.getElem?_toArray, List.getElem?_cons_zero] at c5q0; clear hc4 hz4 hA4 hb5))
  clear hd2 hd10 hat0 hat1 hp0 hp1 hl0 hl1 hl2 hl1i HB hok10 hop0 hop
  go_upto_region 20 with fail
  obtain ⟨⟨cNq0, cNq1, cNq2, cNq3, cNq4, cNq5, cNq6, cNq7, cNq8, cNq9, cNq10, cNq11, cNq12, cNq13, cNq14⟩, -⟩ := hc5.cells15
  cases r0 with
  | cons cx tx' =>
    have hlr : 0 < (cx :: tx').length := by simp
    have Hf := Lib.hid (show res = P.noC ∧ ok = false from by rw [HC.out, HOk.out]; simp)
    go_upto_region 21 with fail
    go_wp2_with (refine wpList_stB (by rfl) _ _ _ (by rfl) hz5 _ _ (by rfl) (by rfl) 15 15 (by rfl) (by rfl) (by decide) infoRC (by rfl) (by rfl) ?_; intro w99 hz' hb99; have z99 : Bx w99 w.heap.size 46 #[.int .u8 0, .int .u8 0, .int .u64 0, .int .u8 0, .int .u64 0, .int .u64 0, .int .i64 0, .int .u8 0, .int .u64 0, .int .u64 0, .string ⟨#[]⟩, .string ⟨#[]⟩, .int .u64 0, .int .u64 0, .int .i64 0] := hz'; clear hz')
    exact bodyPost_ret (results_box2 rfl (by rfl) (loadB z99 structRC infoRC rfl)) rfl ⟨by rw [Hf.out.1, Hf.out.2]; rfl, hA5.trans (hb99.below (Nat.le_refl _) hA5.size)⟩
  | nil =>
    cases RR with
    | false =>
      have Hf := Lib.hid (show res = P.noC ∧ ok = false from by rw [HC.out, HOk.out]; simp)
      go_upto_region 21 with (go_at_call 14; (with_reducible refine (HR.out _).mono ?_); rintro e v60 ⟨rfl, hb60⟩; have hc60 := hc5.up hb60; have hz60 := hz5.up hb60; have hA60 := Chain.up hA5 hb60; obtain ⟨⟨c60q0, c60q1, c60q2, c60q3, c60q4, c60q5, c60q6, c60q7, c60q8, c60q9, c60q10, c60q11, c60q12, c60q13, c60q14⟩, -⟩ := hc60.cells15)
      go_wp2_with (refine wpList_stB (by rfl) _ _ _ (by rfl) hz60 _ _ (by rfl) (by rfl) 15 15 (by rfl) (by rfl) (by decide) infoRC (by rfl) (by rfl) ?_; intro w99 hz' hb99; have z99 : Bx w99 w.heap.size 46 #[.int .u8 0, .int .u8 0, .int .u64 0, .int .u8 0, .int .u64 0, .int .u64 0, .int .i64 0, .int .u8 0, .int .u64 0, .int .u64 0, .string ⟨#[]⟩, .string ⟨#[]⟩, .int .u64 0, .int .u64 0, .int .i64 0] := hz'; clear hz')
      exact bodyPost_ret (results_box2 rfl (by rfl) (loadB z99 structRC infoRC rfl)) rfl ⟨by rw [Hf.out.1, Hf.out.2]; rfl, hA60.trans (hb99.below (Nat.le_refl _) hA60.size)⟩
    | true =>
      by_cases hB : BB = s
      · subst hB
        obtain ⟨y, HYe⟩ := HY
        have Hf := Lib.hid (show res = (⟨15, b1.toNat, nu, P.noX, P.noA, [], [], 0, 0, 0⟩ : P.Ca) ∧ ok = true from by rw [HC.out, HOk.out]; simp)
        go_upto_region 22 with (first
          | (go_at_call 14; (with_reducible refine (HR.out _).mono ?_); rintro e v60 ⟨rfl, hb60⟩; have hc60 := hc5.up hb60; have hz60 := hz5.up hb60; have hA60 := Chain.up hA5 hb60; obtain ⟨⟨c60q0, c60q1, c60q2, c60q3, c60q4, c60q5, c60q6, c60q7, c60q8, c60q9, c60q10, c60q11, c60q12, c60q13, c60q14⟩, -⟩ := hc60.cells15)
          | (go_at_call 16; (with_reducible refine (HW.out _).mono ?_); rintro e v61 ⟨rfl, hb61⟩; have hc61 := hc60.up hb61; have hz61 := hz60.up hb61; have hA61 := Chain.up hA60 hb61))
        go_wp2_with (first
          | (refine wpList_ldB (by rfl) _ _ (by rfl) hc61 (by rfl) structRC 15 infoRC (by rfl) ?_)
          | (refine wpList_stB (by rfl) _ _ _ (by rfl) hz61 _ _ (by rfl) (by rfl) 15 15 (by rfl) (by rfl) (by decide) infoRC (by rfl) (by rfl) ?_; intro w99 hz' hb99; have z99 : Bx w99 w.heap.size 46 #[.int .u8 15, .int .u8 (b1.toNat : Nat), V64 nu, .int .u8 0, .int .u64 0, .int .u64 0, .int .i64 0, .int .u8 0, .int .u64 0, .int .u64 0, .string ⟨#[]⟩, .string ⟨#[]⟩, .int .u64 0, .int .u64 0, .int .i64 0] := hz'; clear hz'))
        exact bodyPost_ret (results_box2 rfl (by rfl) (loadB z99 structRC infoRC rfl)) rfl ⟨by rw [Hf.out.1, Hf.out.2]; rfl, hA61.trans (hb99.below (Nat.le_refl _) hA61.size)⟩
      · have hBs : (BB == s) = false := beq_eq_false_iff_ne.2 hB
        have Hf := Lib.hid (show res = P.noC ∧ ok = false from by rw [HC.out, HOk.out]; simp [hB])
        go_upto_region 21 with (first
          | (go_at_call 14; (with_reducible refine (HR.out _).mono ?_); rintro e v60 ⟨rfl, hb60⟩; have hc60 := hc5.up hb60; have hz60 := hz5.up hb60; have hA60 := Chain.up hA5 hb60; obtain ⟨⟨c60q0, c60q1, c60q2, c60q3, c60q4, c60q5, c60q6, c60q7, c60q8, c60q9, c60q10, c60q11, c60q12, c60q13, c60q14⟩, -⟩ := hc60.cells15)
          | (go_at_call 16; (with_reducible refine (HW.out _).mono ?_); rintro e v61 ⟨rfl, hb61⟩; have hc61 := hc60.up hb61; have hz61 := hz60.up hb61; have hA61 := Chain.up hA60 hb61))
        go_wp2_with (refine wpList_stB (by rfl) _ _ _ (by rfl) hz61 _ _ (by rfl) (by rfl) 15 15 (by rfl) (by rfl) (by decide) infoRC (by rfl) (by rfl) ?_; intro w99 hz' hb99; have z99 : Bx w99 w.heap.size 46 #[.int .u8 0, .int .u8 0, .int .u64 0, .int .u8 0, .int .u64 0, .int .u64 0, .int .i64 0, .int .u8 0, .int .u64 0, .int .u64 0, .string ⟨#[]⟩, .string ⟨#[]⟩, .int .u64 0, .int .u64 0, .int .i64 0] := hz'; clear hz')
        exact bodyPost_ret (results_box2 rfl (by rfl) (loadB z99 structRC infoRC rfl)) rfl ⟨by rw [Hf.out.1, Hf.out.2]; rfl, hA61.trans (hb99.below (Nat.le_refl _) hA61.size)⟩
end Go.Proofs.YtcobfoiajdbahaaDoor
