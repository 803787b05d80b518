/- The walk of the document's Read, an Op each. -/
import Derived.Test.YtcobfoiajdbahaaDoorWQTk
import Derived.Test.YtcobfoiajdbahaaDoorWQRight25
import Derived.Test.YtcobfoiajdbahaaDoorWQRefWrM
import Derived.Test.YtcobfoiajdbahaaDoorPQ
import Derived.Test.YtcobfoiajdbahaaDoorWQRead26A
import Derived.Test.YtcobfoiajdbahaaDoorWQRead26B
import Derived.Test.YtcobfoiajdbahaaDoorWQRead26C
import Derived.Test.YtcobfoiajdbahaaDoorWQRead26D
import Derived.Test.YtcobfoiajdbahaaDoorWQRead26G
import Derived.Test.YtcobfoiajdbahaaDoorWQRead26H
namespace Go.Proofs.YtcobfoiajdbahaaDoor
open Go.RowKit
set_option linter.unusedVariables false
set_option linter.unusedSimpArgs false
attribute [local go_sem] str_dropS str_takeS
set_option maxRecDepth 100000 in
set_option maxHeartbeats 4000000 in
theorem refRead26_0 (b0 b1 : UInt8) (t : List UInt8) (hop : b0.toNat = 0) (hl : 10 ≤ (b0 :: b1 :: t).length) (hs : (b0 :: b1 :: t).length ≤ 1000000000) (w : World) : Calls Tryd.prog 18 #[S (b0 :: b1 :: t)] w fun e w' => e = .returned (.tuple #[caV (P.rfC (b0 :: b1 :: t)), .bool (P.rfOk (b0 :: b1 :: t))]) ∧ Below w.heap.size w w' := by
  have h1 := Bx.fresh w 46 #[.int .u8 0, .int .u8 0, .int .u64 0, .int .u8 0, .int .u64 0, .int .u64 0, .int .i64 0, .int .u8 0, .int .u64 0, .int .u64 0, .string ⟨#[]⟩, .string ⟨#[]⟩, .int .u64 0, .int .u64 0, .int .i64 0]
  have hA := (Below.refl w.heap.size w).alloc (Nat.le_refl _) (.cells #[.int .u8 0, .int .u8 0, .int .u64 0, .int .u8 0, .int .u64 0, .int .u64 0, .int .i64 0, .int .u8 0, .int .u64 0, .int .u64 0, .string ⟨#[]⟩, .string ⟨#[]⟩, .int .u64 0, .int .u64 0, .int .i64 0] 46)
  have hp0 : 0 < (ByteArray.mk (b0 :: b1 :: t).toArray).size := by show 0 < (b0 :: b1 :: t).toArray.size; simp
  have hp1 : 1 < (ByteArray.mk (b0 :: b1 :: t).toArray).size := by show 1 < (b0 :: b1 :: t).toArray.size; simp
  have hat0 : (ByteArray.mk (b0 :: b1 :: t).toArray)[0]'hp0 = b0 := rfl
  have hat1 : (ByteArray.mk (b0 :: b1 :: t).toArray)[1]'hp1 = b1 := rfl
  have hb0l := b0.toNat_lt
  have hop0 : ((b0.toNat : Nat) : Int) = 0 := by omega
  have hq : P.rfQ (b0 :: b1 :: t) = _ := P.rf_not (b0 :: b1 :: t) (.inl hop)
  rw [show P.at_ (b0 :: b1 :: t) 1 = b1.toNat from rfl, show P.at_ (b0 :: b1 :: t) 0 = b0.toNat from rfl, hop] at hq
  have hcl := b1.toNat_lt
  have hl0 : 0 < (b0 :: b1 :: t).length := by simp
  have hl1 : 1 < (b0 :: b1 :: t).length := by simp
  have hl2 : 2 ≤ (b0 :: b1 :: t).length := by simp
  have hl1i : (1 : Int) < (((b0 :: b1 :: t).length : Nat) : Int) := by omega
  have Hok : P.rfOk (b0 :: b1 :: t) = (decide ((P.rfQ (b0 :: b1 :: t)).2 = []) && (P.rightC (P.rfQ (b0 :: b1 :: t)).1 && decide (P.bytesC (P.rfQ (b0 :: b1 :: t)).1 = b0 :: b1 :: t))) := by
    conv => lhs; unfold P.rfOk
    rw [decide_eq_true hl, Bool.true_and]
  have Hc : P.rfC (b0 :: b1 :: t) = if P.rfOk (b0 :: b1 :: t) then (P.rfQ (b0 :: b1 :: t)).1 else P.noC := rfl
  generalize b0 :: b1 :: t = s at *
  have HB := Lib.hid (fun wx => refReadBig_any (s.drop 2) 8 wx (by rw [List.length_drop]; omega) (by omega) (by omega))
  have hnu := P.bigNum_lt (s.drop 2)
  have hd2 := str_dropS s 2
  have hd10 := str_dropS s 10
  have hr0 : (s.drop 10).length ≤ 1000000000 := by rw [List.length_drop]; omega
  generalize P.bigNum (s.drop 2) 8 = nu at *
  generalize P.bigOk (s.drop 2) 8 = bo at *
  generalize s.drop 2 = s2 at *
  generalize s.drop 10 = r0 at *
  have hty : P.tyC (⟨0, b1.toNat, nu, P.noX, P.noA, [], [], 0, 0, 0⟩ : P.Ca) := ⟨(by decide : 0 < 256), by omega, hnu, P.ty_noX, P.ty_noA, (show (0 : Nat) < 18446744073709551616 by decide), (show (0 : Nat) < 18446744073709551616 by decide), (show (-9223372036854775808 : Int) ≤ 0 by decide), (show (0 : Int) ≤ 9223372036854775807 by decide)⟩
  have hrn : P.rightC (⟨0, b1.toNat, nu, P.noX, P.noA, [], [], 0, 0, 0⟩ : P.Ca) = false := right_other (⟨0, b1.toNat, nu, P.noX, P.noA, [], [], 0, 0, 0⟩ : P.Ca) (by simp only; omega)
  have HR := Lib.hid (fun wx => show Calls Tryd.prog 14 #[.agg #[.int .u8 0, .int .u8 (b1.toNat : Nat), V64 nu, .int .u8 0, .int .u64 0, .int .u64 0, .int .i64 0, .int .u8 0, .int .u64 0, .int .u64 0, .string ⟨#[]⟩, .string ⟨#[]⟩, .int .u64 0, .int .u64 0, .int .i64 0]] wx fun e w' => e = .returned (.bool false) ∧ Below wx.heap.size wx w' from by
    have h := refRight25_any (⟨0, b1.toNat, nu, P.noX, P.noA, [], [], 0, 0, 0⟩ : P.Ca) hty (by simp) (by simp) wx
    rw [hrn] at h
    exact h)
  rw [hq] at Hok Hc
  simp only at Hok Hc
  rw [hrn] at Hok
  rw [Bool.false_and, Bool.and_false] at Hok
  have HOk := Lib.hid Hok
  have HC := Lib.hid Hc
  clear hq Hok Hc hty
  generalize P.rfOk s = ok at *
  generalize P.rfC s = res at *
  have hok10 : ¬ s.length < 10 := by omega
  go_enter Tryd.func18, Tryd.ntmps18
  go_upto_region 3 with fail
  generalize hW : w.alloc (.cells #[.int .u8 0, .int .u8 0, .int .u64 0, .int .u8 0, .int .u64 0, .int .u64 0, .int .i64 0, .int .u8 0, .int .u64 0, .int .u64 0, .string ⟨#[]⟩, .string ⟨#[]⟩, .int .u64 0, .int .u64 0, .int .i64 0] 46) = w1 at *
  clear hW
  refine wp_region_held_drew (S := fun wx => Below w1.heap.size w1 wx) (by kernel_rfl) (Below.refl _ _).drew (fun hHeld => ?_)
  have hlt1 := h1.lt
  generalize hWd : w1.drew = v1 at *
  clear hWd
  refine wpAnyH_take (i := 0) (v := ?_) rfl (by kernel_rfl) (by kernel_rfl) (by kernel_rfl) (fun _ _ _ h => h) (Or.inl ⟨by rfl, ?_⟩) hHeld ?_
  rotate_left
  · intro wq hSw; go_simp; (try with_reducible rfl)
  simp only [Act.put, List.getElem_toArray, List.getElem_cons_succ, List.getElem_cons_zero, List.setIfInBounds_toArray, List.set_cons_zero, List.set_cons_succ]
  refine wpAnyH_take (i := 1) (v := ?_) rfl (by kernel_rfl) (by kernel_rfl) (by kernel_rfl) (fun _ _ _ h => h) (Or.inl ⟨by rfl, ?_⟩) hHeld ?_
  rotate_left
  · intro wq hSw; go_simp; (try with_reducible rfl)
  simp only [Act.put, List.getElem_toArray, List.getElem_cons_succ, List.getElem_cons_zero, List.setIfInBounds_toArray, List.set_cons_zero, List.set_cons_succ]
  refine wpAnyH_take (i := 2) (v := ?_) rfl (by kernel_rfl) (by kernel_rfl) (by kernel_rfl) (fun _ _ _ h => h) (Or.inl ⟨by rfl, ?_⟩) hHeld ?_
  rotate_left
  · intro wq hSw; go_simp; (try with_reducible rfl)
  simp only [Act.put, List.getElem_toArray, List.getElem_cons_succ, List.getElem_cons_zero, List.setIfInBounds_toArray, List.set_cons_zero, List.set_cons_succ]
  refine wpAnyH_take (i := 3) (v := ?_) rfl (by kernel_rfl) (by kernel_rfl) (by kernel_rfl) (fun _ _ _ h => h) (Or.inl ⟨by rfl, ?_⟩) hHeld ?_
  rotate_left
  · intro wq hSw; go_simp; (try with_reducible rfl)
  simp only [Act.put, List.getElem_toArray, List.getElem_cons_succ, List.getElem_cons_zero, List.setIfInBounds_toArray, List.set_cons_zero, List.set_cons_succ]
  refine wpAnyH_take (i := 4) (v := ?_) rfl (by kernel_rfl) (by kernel_rfl) (by kernel_rfl) (fun _ _ _ h => h) (Or.inl ⟨by rfl, ?_⟩) hHeld ?_
  rotate_left
  · intro wq hSw; go_simp; (try with_reducible rfl)
  simp only [Act.put, List.getElem_toArray, List.getElem_cons_succ, List.getElem_cons_zero, List.setIfInBounds_toArray, List.set_cons_zero, List.set_cons_succ]
  refine wpAnyH_one (i := 5) (by kernel_rfl) rfl (fun K hK => ?_)
  simp only [List.getElem_toArray, List.getElem_cons_succ, List.getElem_cons_zero]
  go_simp
  have hc2 := Bx.fresh v1 46 #[.int .u8 0, .int .u8 0, .int .u64 0, .int .u8 0, .int .u64 0, .int .u64 0, .int .i64 0, .int .u8 0, .int .u64 0, .int .u64 0, .string ⟨#[]⟩, .string ⟨#[]⟩, .int .u64 0, .int .u64 0, .int .i64 0]
  have hg := hHeld.size
  have hS2 := hHeld.alloc hHeld.size (.cells #[.int .u8 0, .int .u8 0, .int .u64 0, .int .u8 0, .int .u64 0, .int .u64 0, .int .i64 0, .int .u8 0, .int .u64 0, .int .u64 0, .string ⟨#[]⟩, .string ⟨#[]⟩, .int .u64 0, .int .u64 0, .int .i64 0] 46)
  refine hK.out _ _ hS2 ?_
  generalize hWn : v1.alloc (.cells #[.int .u8 0, .int .u8 0, .int .u64 0, .int .u8 0, .int .u64 0, .int .u64 0, .int .i64 0, .int .u8 0, .int .u64 0, .int .u64 0, .string ⟨#[]⟩, .string ⟨#[]⟩, .int .u64 0, .int .u64 0, .int .i64 0] 46) = v2 at *
  clear hWn
  generalize v1.heap.size = gc at *
  clear hK K
  refine wpAnyH_one (i := 6) (by kernel_rfl) rfl (fun K hK => ?_)
  simp only [List.getElem_toArray, List.getElem_cons_succ, List.getElem_cons_zero]
  rw [if_pos (by rfl)]
  refine wp_stB _ _ _ (by rfl) hc2 _ _ (by rfl) (by rfl) 15 15 (by rfl) (by rfl) (by decide) infoRC (by rfl) (by rfl) ?_
  intro v3 hz' hb3
  have hc3 : Bx v3 gc 46 #[.int .u8 0, .int .u8 (b1.toNat : Nat), .int .u64 0, .int .u8 0, .int .u64 0, .int .u64 0, .int .i64 0, .int .u8 0, .int .u64 0, .int .u64 0, .string ⟨#[]⟩, .string ⟨#[]⟩, .int .u64 0, .int .u64 0, .int .i64 0] := hz'
  have hS3 : Below w1.heap.size w1 v3 := hS2.trans (hb3.below hg hS2.size)
  refine hK.out _ _ hS3 ?_
  simp only [Act.put, List.getElem_toArray, List.getElem_cons_succ, List.getElem_cons_zero, List.setIfInBounds_toArray, List.set_cons_zero, List.set_cons_succ]
  clear hK K
  refine wpAnyH_done (by kernel_rfl) ?_ _
  have hz3 := h1.up hS3
  have hA3 := Chain.up hA hS3
  have hne : w.heap.size ≠ gc := by omega
  have hgw : w.heap.size ≤ gc := by omega
  clear hHeld hS2 hb3 hS3 hc2 h1 hA
  obtain ⟨⟨c3q0, c3q1, c3q2, c3q3, c3q4, c3q5, c3q6, c3q7, c3q8, c3q9, c3q10, c3q11, c3q12, c3q13, c3q14⟩, -⟩ := hc3.cells15
  go_upto_region 6 with (first
    | (go_at_call 56; (with_reducible refine (HB.out _).mono ?_); rintro e v4 ⟨rfl, hb4⟩; have hc4 := hc3.up hb4; have hz4 := hz3.up hb4; have hA4 := Chain.up hA3 hb4; clear hc3 hz3 hA3 hb4 c3q0 c3q1 c3q2 c3q3 c3q4 c3q5 c3q6 c3q7 c3q8 c3q9 c3q10 c3q11 c3q12 c3q13 c3q14)
    | (refine wpList_stV (by rfl) _ _ _ (by rfl) hc4 2 _ (by rfl) (by rfl) (by rfl) (by rfl) 15 (by rfl) (by decide) infoU64 (by rfl) ?_; intro v5 hz' hb5; have hc5 : Bx v5 gc 46 #[.int .u8 0, .int .u8 (b1.toNat : Nat), V64 nu, .int .u8 0, .int .u64 0, .int .u64 0, .int .i64 0, .int .u8 0, .int .u64 0, .int .u64 0, .string ⟨#[]⟩, .string ⟨#[]⟩, .int .u64 0, .int .u64 0, .int .i64 0] := hz'; clear hz'; have hz5 := hz4.but hb5 hne; have hA5 := hA4.trans (hb5.below hgw hA4.size); have c5q0 := hc5.cell 0; simp only [List.getElem?_toArray, List.getElem?_cons_zero] at c5q0; clear hc4 hz4 hA4 hb5))
  clear hd2 hd10 hat0 hat1 hp0 hp1 hl0 hl1 hl2 hl1i HB hok10 hop0 hop
  go_upto_region 20 with fail
  obtain ⟨⟨cNq0, cNq1, cNq2, cNq3, cNq4, cNq5, cNq6, cNq7, cNq8, cNq9, cNq10, cNq11, cNq12, cNq13, cNq14⟩, -⟩ := hc5.cells15
  cases r0 with
  | cons cx tx' =>
    have hlr : 0 < (cx :: tx').length := by simp
    have Hf := Lib.hid (show res = P.noC ∧ ok = false from by rw [HC.out, HOk.out]; simp)
    go_upto_region 21 with fail
    go_wp2_with (refine wpList_stB (by rfl) _ _ _ (by rfl) hz5 _ _ (by rfl) (by rfl) 15 15 (by rfl) (by rfl) (by decide) infoRC (by rfl) (by rfl) ?_; intro w99 hz' hb99; have z99 : Bx w99 w.heap.size 46 #[.int .u8 0, .int .u8 0, .int .u64 0, .int .u8 0, .int .u64 0, .int .u64 0, .int .i64 0, .int .u8 0, .int .u64 0, .int .u64 0, .string ⟨#[]⟩, .string ⟨#[]⟩, .int .u64 0, .int .u64 0, .int .i64 0] := hz'; clear hz')
    exact bodyPost_ret (results_box2 rfl (by rfl) (loadB z99 structRC infoRC rfl)) rfl ⟨by rw [Hf.out.1, Hf.out.2]; rfl, hA5.trans (hb99.below (Nat.le_refl _) hA5.size)⟩
  | nil =>
    have Hf := Lib.hid (show res = P.noC ∧ ok = false from by rw [HC.out, HOk.out]; simp)
    go_upto_region 21 with (go_at_call 14; (with_reducible refine (HR.out _).mono ?_); rintro e v60 ⟨rfl, hb60⟩; have hc60 := hc5.up hb60; have hz60 := hz5.up hb60; have hA60 := Chain.up hA5 hb60; obtain ⟨⟨c60q0, c60q1, c60q2, c60q3, c60q4, c60q5, c60q6, c60q7, c60q8, c60q9, c60q10, c60q11, c60q12, c60q13, c60q14⟩, -⟩ := hc60.cells15)
    go_wp2_with (refine wpList_stB (by rfl) _ _ _ (by rfl) hz60 _ _ (by rfl) (by rfl) 15 15 (by rfl) (by rfl) (by decide) infoRC (by rfl) (by rfl) ?_; intro w99 hz' hb99; have z99 : Bx w99 w.heap.size 46 #[.int .u8 0, .int .u8 0, .int .u64 0, .int .u8 0, .int .u64 0, .int .u64 0, .int .i64 0, .int .u8 0, .int .u64 0, .int .u64 0, .string ⟨#[]⟩, .string ⟨#[]⟩, .int .u64 0, .int .u64 0, .int .i64 0] := hz'; clear hz')
    exact bodyPost_ret (results_box2 rfl (by rfl) (loadB z99 structRC infoRC rfl)) rfl ⟨by rw [Hf.out.1, Hf.out.2]; rfl, hA60.trans (hb99.below (Nat.le_refl _) hA60.size)⟩
set_option maxRecDepth 100000 in
set_option maxHeartbeats 4000000 in
theorem refRead26_not (b0 b1 : UInt8) (t : List UInt8) (hop : 16 ≤ b0.toNat) (hl : 10 ≤ (b0 :: b1 :: t).length) (hs : (b0 :: b1 :: t).length ≤ 1000000000) (w : World) : Calls Tryd.prog 18 #[S (b0 :: b1 :: t)] w fun e w' => e = .returned (.tuple #[caV (P.rfC (b0 :: b1 :: t)), .bool (P.rfOk (b0 :: b1 :: t))]) ∧ Below w.heap.size w w' := by
  have h1 := Bx.fresh w 46 #[.int .u8 0, .int .u8 0, .int .u64 0, .int .u8 0, .int .u64 0, .int .u64 0, .int .i64 0, .int .u8 0, .int .u64 0, .int .u64 0, .string ⟨#[]⟩, .string ⟨#[]⟩, .int .u64 0, .int .u64 0, .int .i64 0]
  have hA := (Below.refl w.heap.size w).alloc (Nat.le_refl _) (.cells #[.int .u8 0, .int .u8 0, .int .u64 0, .int .u8 0, .int .u64 0, .int .u64 0, .int .i64 0, .int .u8 0, .int .u64 0, .int .u64 0, .string ⟨#[]⟩, .string ⟨#[]⟩, .int .u64 0, .int .u64 0, .int .i64 0] 46)
  have hp0 : 0 < (ByteArray.mk (b0 :: b1 :: t).toArray).size := by show 0 < (b0 :: b1 :: t).toArray.size; simp
  have hp1 : 1 < (ByteArray.mk (b0 :: b1 :: t).toArray).size := by show 1 < (b0 :: b1 :: t).toArray.size; simp
  have hat0 : (ByteArray.mk (b0 :: b1 :: t).toArray)[0]'hp0 = b0 := rfl
  have hat1 : (ByteArray.mk (b0 :: b1 :: t).toArray)[1]'hp1 = b1 := rfl
  have hb0l := b0.toNat_lt
  have tge1 : 1 ≤ b0.toNat := by omega
  have tge5 : 5 ≤ b0.toNat := by omega
  have tge7 : 7 ≤ b0.toNat := by omega
  have tge11 : 11 ≤ b0.toNat := by omega
  have tle4 : ¬ b0.toNat ≤ 4 := by omega
  have tle7 : ¬ b0.toNat ≤ 7 := by omega
  have tle9 : ¬ b0.toNat ≤ 9 := by omega
  have tle12 : ¬ b0.toNat ≤ 12 := by omega
  have tle14 : ¬ b0.toNat ≤ 14 := by omega
  have teq5 : (((b0.toNat : Nat) : Int) == 5) = false := beq_eq_false_iff_ne.2 (by omega)
  have teq6 : (((b0.toNat : Nat) : Int) == 6) = false := beq_eq_false_iff_ne.2 (by omega)
  have teq9 : (((b0.toNat : Nat) : Int) == 9) = false := beq_eq_false_iff_ne.2 (by omega)
  have teq11 : (((b0.toNat : Nat) : Int) == 11) = false := beq_eq_false_iff_ne.2 (by omega)
  have teq12 : (((b0.toNat : Nat) : Int) == 12) = false := beq_eq_false_iff_ne.2 (by omega)
  have teq13 : (((b0.toNat : Nat) : Int) == 13) = false := beq_eq_false_iff_ne.2 (by omega)
  have teq14 : (((b0.toNat : Nat) : Int) == 14) = false := beq_eq_false_iff_ne.2 (by omega)
  have hq : P.rfQ (b0 :: b1 :: t) = _ := P.rf_not (b0 :: b1 :: t) (.inr hop)
  rw [show P.at_ (b0 :: b1 :: t) 1 = b1.toNat from rfl, show P.at_ (b0 :: b1 :: t) 0 = b0.toNat from rfl] at hq
  have hcl := b1.toNat_lt
  have hl0 : 0 < (b0 :: b1 :: t).length := by simp
  have hl1 : 1 < (b0 :: b1 :: t).length := by simp
  have hl2 : 2 ≤ (b0 :: b1 :: t).length := by simp
  have hl1i : (1 : Int) < (((b0 :: b1 :: t).length : Nat) : Int) := by omega
  have Hok : P.rfOk (b0 :: b1 :: t) = (decide ((P.rfQ (b0 :: b1 :: t)).2 = []) && (P.rightC (P.rfQ (b0 :: b1 :: t)).1 && decide (P.bytesC (P.rfQ (b0 :: b1 :: t)).1 = b0 :: b1 :: t))) := by
    conv => lhs; unfold P.rfOk
    rw [decide_eq_true hl, Bool.true_and]
  have Hc : P.rfC (b0 :: b1 :: t) = if P.rfOk (b0 :: b1 :: t) then (P.rfQ (b0 :: b1 :: t)).1 else P.noC := rfl
  generalize b0 :: b1 :: t = s at *
  have HB := Lib.hid (fun wx => refReadBig_any (s.drop 2) 8 wx (by rw [List.length_drop]; omega) (by omega) (by omega))
  have hnu := P.bigNum_lt (s.drop 2)
  have hd2 := str_dropS s 2
  have hd10 := str_dropS s 10
  have hr0 : (s.drop 10).length ≤ 1000000000 := by rw [List.length_drop]; omega
  generalize P.bigNum (s.drop 2) 8 = nu at *
  generalize P.bigOk (s.drop 2) 8 = bo at *
  generalize s.drop 2 = s2 at *
  generalize s.drop 10 = r0 at *
  have hty : P.tyC (⟨b0.toNat, b1.toNat, nu, P.noX, P.noA, [], [], 0, 0, 0⟩ : P.Ca) := ⟨(by simp only; omega), by omega, hnu, P.ty_noX, P.ty_noA, (show (0 : Nat) < 18446744073709551616 by decide), (show (0 : Nat) < 18446744073709551616 by decide), (show (-9223372036854775808 : Int) ≤ 0 by decide), (show (0 : Int) ≤ 9223372036854775807 by decide)⟩
  have hrn : P.rightC (⟨b0.toNat, b1.toNat, nu, P.noX, P.noA, [], [], 0, 0, 0⟩ : P.Ca) = false := right_other (⟨b0.toNat, b1.toNat, nu, P.noX, P.noA, [], [], 0, 0, 0⟩ : P.Ca) (by simp only; omega)
  have HR := Lib.hid (fun wx => show Calls Tryd.prog 14 #[.agg #[.int .u8 (b0.toNat : Nat), .int .u8 (b1.toNat : Nat), V64 nu, .int .u8 0, .int .u64 0, .int .u64 0, .int .i64 0, .int .u8 0, .int .u64 0, .int .u64 0, .string ⟨#[]⟩, .string ⟨#[]⟩, .int .u64 0, .int .u64 0, .int .i64 0]] wx fun e w' => e = .returned (.bool false) ∧ Below wx.heap.size wx w' from by
    have h := refRight25_any (⟨b0.toNat, b1.toNat, nu, P.noX, P.noA, [], [], 0, 0, 0⟩ : P.Ca) hty (by simp) (by simp) wx
    rw [hrn] at h
    exact h)
  rw [hq] at Hok Hc
  simp only at Hok Hc
  rw [hrn] at Hok
  rw [Bool.false_and, Bool.and_false] at Hok
  have HOk := Lib.hid Hok
  have HC := Lib.hid Hc
  clear hq Hok Hc hty
  generalize P.rfOk s = ok at *
  generalize P.rfC s = res at *
  have hok10 : ¬ s.length < 10 := by omega
  go_enter Tryd.func18, Tryd.ntmps18
  go_upto_region 3 with fail
  generalize hW : w.alloc (.cells #[.int .u8 0, .int .u8 0, .int .u64 0, .int .u8 0, .int .u64 0, .int .u64 0, .int .i64 0, .int .u8 0, .int .u64 0, .int .u64 0, .string ⟨#[]⟩, .string ⟨#[]⟩, .int .u64 0, .int .u64 0, .int .i64 0] 46) = w1 at *
  clear hW
  refine wp_region_held_drew (S := fun wx => Below w1.heap.size w1 wx) (by kernel_rfl) (Below.refl _ _).drew (fun hHeld => ?_)
  have hlt1 := h1.lt
  generalize hWd : w1.drew = v1 at *
  clear hWd
  refine wpAnyH_take (i := 0) (v := ?_) rfl (by kernel_rfl) (by kernel_rfl) (by kernel_rfl) (fun _ _ _ h => h) (Or.inl ⟨by rfl, ?_⟩) hHeld ?_
  rotate_left
  · intro wq hSw; go_simp; (try with_reducible rfl)
  simp only [Act.put, List.getElem_toArray, List.getElem_cons_succ, List.getElem_cons_zero, List.setIfInBounds_toArray, List.set_cons_zero, List.set_cons_succ]
  refine wpAnyH_take (i := 1) (v := ?_) rfl (by kernel_rfl) (by kernel_rfl) (by kernel_rfl) (fun _ _ _ h => h) (Or.inl ⟨by rfl, ?_⟩) hHeld ?_
  rotate_left
  · intro wq hSw; go_simp; (try with_reducible rfl)
  simp only [Act.put, List.getElem_toArray, List.getElem_cons_succ, List.getElem_cons_zero, List.setIfInBounds_toArray, List.set_cons_zero, List.set_cons_succ]
  refine wpAnyH_take (i := 2) (v := ?_) rfl (by kernel_rfl) (by kernel_rfl) (by kernel_rfl) (fun _ _ _ h => h) (Or.inl ⟨by rfl, ?_⟩) hHeld ?_
  rotate_left
  · intro wq hSw; go_simp; (try with_reducible rfl)
  simp only [Act.put, List.getElem_toArray, List.getElem_cons_succ, List.getElem_cons_zero, List.setIfInBounds_toArray, List.set_cons_zero, List.set_cons_succ]
  refine wpAnyH_take (i := 3) (v := ?_) rfl (by kernel_rfl) (by kernel_rfl) (by kernel_rfl) (fun _ _ _ h => h) (Or.inl ⟨by rfl, ?_⟩) hHeld ?_
  rotate_left
  · intro wq hSw; go_simp; (try with_reducible rfl)
  simp only [Act.put, List.getElem_toArray, List.getElem_cons_succ, List.getElem_cons_zero, List.setIfInBounds_toArray, List.set_cons_zero, List.set_cons_succ]
  refine wpAnyH_take (i := 4) (v := ?_) rfl (by kernel_rfl) (by kernel_rfl) (by kernel_rfl) (fun _ _ _ h => h) (Or.inl ⟨by rfl, ?_⟩) hHeld ?_
  rotate_left
  · intro wq hSw; go_simp; (try with_reducible rfl)
  simp only [Act.put, List.getElem_toArray, List.getElem_cons_succ, List.getElem_cons_zero, List.setIfInBounds_toArray, List.set_cons_zero, List.set_cons_succ]
  refine wpAnyH_one (i := 5) (by kernel_rfl) rfl (fun K hK => ?_)
  simp only [List.getElem_toArray, List.getElem_cons_succ, List.getElem_cons_zero]
  go_simp
  have hc2 := Bx.fresh v1 46 #[.int .u8 0, .int .u8 0, .int .u64 0, .int .u8 0, .int .u64 0, .int .u64 0, .int .i64 0, .int .u8 0, .int .u64 0, .int .u64 0, .string ⟨#[]⟩, .string ⟨#[]⟩, .int .u64 0, .int .u64 0, .int .i64 0]
  have hg := hHeld.size
  have hS2 := hHeld.alloc hHeld.size (.cells #[.int .u8 0, .int .u8 0, .int .u64 0, .int .u8 0, .int .u64 0, .int .u64 0, .int .i64 0, .int .u8 0, .int .u64 0, .int .u64 0, .string ⟨#[]⟩, .string ⟨#[]⟩, .int .u64 0, .int .u64 0, .int .i64 0] 46)
  refine hK.out _ _ hS2 ?_
  generalize hWn : v1.alloc (.cells #[.int .u8 0, .int .u8 0, .int .u64 0, .int .u8 0, .int .u64 0, .int .u64 0, .int .i64 0, .int .u8 0, .int .u64 0, .int .u64 0, .string ⟨#[]⟩, .string ⟨#[]⟩, .int .u64 0, .int .u64 0, .int .i64 0] 46) = v2 at *
  clear hWn
  generalize v1.heap.size = gc at *
  clear hK K
  refine wpAnyH_one (i := 6) (by kernel_rfl) rfl (fun K hK => ?_)
  simp only [List.getElem_toArray, List.getElem_cons_succ, List.getElem_cons_zero]
  rw [if_pos (by rfl)]
  refine wp_stB _ _ _ (by rfl) hc2 _ _ (by rfl) (by rfl) 15 15 (by rfl) (by rfl) (by decide) infoRC (by rfl) (by rfl) ?_
  intro v3 hz' hb3
  have hc3 : Bx v3 gc 46 #[.int .u8 (b0.toNat : Nat), .int .u8 (b1.toNat : Nat), .int .u64 0, .int .u8 0, .int .u64 0, .int .u64 0, .int .i64 0, .int .u8 0, .int .u64 0, .int .u64 0, .string ⟨#[]⟩, .string ⟨#[]⟩, .int .u64 0, .int .u64 0, .int .i64 0] := hz'
  have hS3 : Below w1.heap.size w1 v3 := hS2.trans (hb3.below hg hS2.size)
  refine hK.out _ _ hS3 ?_
  simp only [Act.put, List.getElem_toArray, List.getElem_cons_succ, List.getElem_cons_zero, List.setIfInBounds_toArray, List.set_cons_zero, List.set_cons_succ]
  clear hK K
  refine wpAnyH_done (by kernel_rfl) ?_ _
  have hz3 := h1.up hS3
  have hA3 := Chain.up hA hS3
  have hne : w.heap.size ≠ gc := by omega
  have hgw : w.heap.size ≤ gc := by omega
  clear hHeld hS2 hb3 hS3 hc2 h1 hA
  obtain ⟨⟨c3q0, c3q1, c3q2, c3q3, c3q4, c3q5, c3q6, c3q7, c3q8, c3q9, c3q10, c3q11, c3q12, c3q13, c3q14⟩, -⟩ := hc3.cells15
  go_upto_region 6 with (first
    | (go_at_call 56; (with_reducible refine (HB.out _).mono ?_); rintro e v4 ⟨rfl, hb4⟩; have hc4 := hc3.up hb4; have hz4 := hz3.up hb4; have hA4 := Chain.up hA3 hb4; clear hc3 hz3 hA3 hb4 c3q0 c3q1 c3q2 c3q3 c3q4 c3q5 c3q6 c3q7 c3q8 c3q9 c3q10 c3q11 c3q12 c3q13 c3q14)
    | (refine wpList_stV (by rfl) _ _ _ (by rfl) hc4 2 _ (by rfl) (by rfl) (by rfl) (by rfl) 15 (by rfl) (by decide) infoU64 (by rfl) ?_; intro v5 hz' hb5; have hc5 : Bx v5 gc 46 #[.int .u8 (b0.toNat : Nat), .int .u8 (b1.toNat : Nat), V64 nu, .int .u8 0, .int .u64 0, .int .u64 0, .int .i64 0, .int .u8 0, .int .u64 0, .int .u64 0, .string ⟨#[]⟩, .string ⟨#[]⟩, .int .u64 0, .int .u64 0, .int .i64 0] := hz'; clear hz'; have hz5 := hz4.but hb5 hne; have hA5 := hA4.trans (hb5.below hgw hA4.size); have c5q0 := hc5.cell 0; simp only [List.getElem?_toArray, List.getElem?_cons_zero] at c5q0; clear hc4 hz4 hA4 hb5))
  clear hd2 hd10 hat0 hat1 hp0 hp1 hl0 hl1 hl2 hl1i HB hok10 hop
  go_upto_region 20 with fail
  obtain ⟨⟨cNq0, cNq1, cNq2, cNq3, cNq4, cNq5, cNq6, cNq7, cNq8, cNq9, cNq10, cNq11, cNq12, cNq13, cNq14⟩, -⟩ := hc5.cells15
  cases r0 with
  | cons cx tx' =>
    have hlr : 0 < (cx :: tx').length := by simp
    have Hf := Lib.hid (show res = P.noC ∧ ok = false from by rw [HC.out, HOk.out]; simp)
    go_upto_region 21 with fail
    go_wp2_with (refine wpList_stB (by rfl) _ _ _ (by rfl) hz5 _ _ (by rfl) (by rfl) 15 15 (by rfl) (by rfl) (by decide) infoRC (by rfl) (by rfl) ?_; intro w99 hz' hb99; have z99 : Bx w99 w.heap.size 46 #[.int .u8 0, .int .u8 0, .int .u64 0, .int .u8 0, .int .u64 0, .int .u64 0, .int .i64 0, .int .u8 0, .int .u64 0, .int .u64 0, .string ⟨#[]⟩, .string ⟨#[]⟩, .int .u64 0, .int .u64 0, .int .i64 0] := hz'; clear hz')
    exact bodyPost_ret (results_box2 rfl (by rfl) (loadB z99 structRC infoRC rfl)) rfl ⟨by rw [Hf.out.1, Hf.out.2]; rfl, hA5.trans (hb99.below (Nat.le_refl _) hA5.size)⟩
  | nil =>
    have Hf := Lib.hid (show res = P.noC ∧ ok = false from by rw [HC.out, HOk.out]; simp)
    go_upto_region 21 with (go_at_call 14; (with_reducible refine (HR.out _).mono ?_); rintro e v60 ⟨rfl, hb60⟩; have hc60 := hc5.up hb60; have hz60 := hz5.up hb60; have hA60 := Chain.up hA5 hb60; obtain ⟨⟨c60q0, c60q1, c60q2, c60q3, c60q4, c60q5, c60q6, c60q7, c60q8, c60q9, c60q10, c60q11, c60q12, c60q13, c60q14⟩, -⟩ := hc60.cells15)
    go_wp2_with (refine wpList_stB (by rfl) _ _ _ (by rfl) hz60 _ _ (by rfl) (by rfl) 15 15 (by rfl) (by rfl) (by decide) infoRC (by rfl) (by rfl) ?_; intro w99 hz' hb99; have z99 : Bx w99 w.heap.size 46 #[.int .u8 0, .int .u8 0, .int .u64 0, .int .u8 0, .int .u64 0, .int .u64 0, .int .i64 0, .int .u8 0, .int .u64 0, .int .u64 0, .string ⟨#[]⟩, .string ⟨#[]⟩, .int .u64 0, .int .u64 0, .int .i64 0] := hz'; clear hz')
    exact bodyPost_ret (results_box2 rfl (by rfl) (loadB z99 structRC infoRC rfl)) rfl ⟨by rw [Hf.out.1, Hf.out.2]; rfl, hA60.trans (hb99.below (Nat.le_refl _) hA60.size)⟩
set_option maxRecDepth 100000 in
theorem refRead26_short (s : List UInt8) (hl : ¬ 10 ≤ s.length) (w : World) : Calls Tryd.prog 18 #[S s] w fun e w' => e = .returned (.tuple #[caV (P.rfC s), .bool (P.rfOk s)]) ∧ Below w.heap.size w w' := by
  have h1 := Bx.fresh w 46 #[.int .u8 0, .int .u8 0, .int .u64 0, .int .u8 0, .int .u64 0, .int .u64 0, .int .i64 0, .int .u8 0, .int .u64 0, .int .u64 0, .string ⟨#[]⟩, .string ⟨#[]⟩, .int .u64 0, .int .u64 0, .int .i64 0]
  have hA := (Below.refl w.heap.size w).alloc (Nat.le_refl _) (.cells #[.int .u8 0, .int .u8 0, .int .u64 0, .int .u8 0, .int .u64 0, .int .u64 0, .int .i64 0, .int .u8 0, .int .u64 0, .int .u64 0, .string ⟨#[]⟩, .string ⟨#[]⟩, .int .u64 0, .int .u64 0, .int .i64 0] 46)
  have hok : P.rfOk s = false := by unfold P.rfOk; rw [decide_eq_false hl, Bool.false_and]
  have Hf := Lib.hid (show P.rfC s = P.noC ∧ P.rfOk s = false from ⟨by unfold P.rfC; rw [hok]; rfl, hok⟩)
  have hl' : s.length < 10 := by omega
  clear hok hl
  generalize P.rfOk s = ok at *
  generalize P.rfC s = res at *
  go_enter Tryd.func18, Tryd.ntmps18
  go_wp2_with (refine wpList_stB (by rfl) _ _ _ (by rfl) h1 _ _ (by rfl) (by rfl) 15 15 (by rfl) (by rfl) (by decide) infoRC (by rfl) (by rfl) ?_; intro w99 hz' hb99; have z99 : Bx w99 w.heap.size 46 #[.int .u8 0, .int .u8 0, .int .u64 0, .int .u8 0, .int .u64 0, .int .u64 0, .int .i64 0, .int .u8 0, .int .u64 0, .int .u64 0, .string ⟨#[]⟩, .string ⟨#[]⟩, .int .u64 0, .int .u64 0, .int .i64 0] := hz'; clear hz')
  exact bodyPost_ret (results_box2 rfl (by rfl) (loadB z99 structRC infoRC rfl)) rfl ⟨by rw [Hf.out.1, Hf.out.2]; rfl, hA.trans (hb99.below (Nat.le_refl _) hA.size)⟩
theorem refRead26_any (s : List UInt8) (hs : s.length ≤ 1000000000) (w : World) : Calls Tryd.prog 18 #[S s] w fun e w' => e = .returned (.tuple #[caV (P.rfC s), .bool (P.rfOk s)]) ∧ Below w.heap.size w w' := by
  by_cases hl : 10 ≤ s.length
  · obtain ⟨b0, b1, t, rfl⟩ : ∃ b0 b1 t, s = b0 :: b1 :: t := by
      match s, hl with
      | b0 :: b1 :: t, _ => exact ⟨b0, b1, t, rfl⟩
    by_cases h16 : 16 ≤ b0.toNat
    · exact refRead26_not b0 b1 t h16 hl hs w
    · rcases (show (b0.toNat = 1 ∨ b0.toNat = 2 ∨ b0.toNat = 3 ∨ b0.toNat = 4) ∨ b0.toNat = 0 ∨ b0.toNat = 5 ∨ b0.toNat = 6 ∨ b0.toNat = 7 ∨ b0.toNat = 8 ∨ b0.toNat = 9 ∨ b0.toNat = 10 ∨ b0.toNat = 11 ∨ b0.toNat = 12 ∨ b0.toNat = 13 ∨ b0.toNat = 14 ∨ b0.toNat = 15 by omega) with h | h | h | h | h | h | h | h | h | h | h | h | h
      · exact refRead26_few b0 b1 t h hl hs w
      · exact refRead26_0 b0 b1 t h hl hs w
      · exact refRead26_5 b0 b1 t h hl hs w
      · exact refRead26_6 b0 b1 t h hl hs w
      · exact refRead26_7 b0 b1 t h hl hs w
      · exact refRead26_8 b0 b1 t h hl hs w
      · exact refRead26_9 b0 b1 t h hl hs w
      · exact refRead26_10 b0 b1 t h hl hs w
      · exact refRead26_11 b0 b1 t h hl hs w
      · exact refRead26_12 b0 b1 t h hl hs w
      · exact refRead26_13 b0 b1 t h hl hs w
      · exact refRead26_14 b0 b1 t h hl hs w
      · exact refRead26_15 b0 b1 t h hl hs w
  · exact refRead26_short s hl w
end Go.Proofs.YtcobfoiajdbahaaDoor
