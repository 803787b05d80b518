/- The walk of the document's Hear, whole. -/
import Derived.Test.YtcobfoiajdbahaaDoorWQHear26
namespace Go.Proofs.YtcobfoiajdbahaaDoor
open Go.RowKit
set_option linter.unusedVariables false
set_option linter.unusedSimpArgs false
attribute [local go_sem] str_dropS str_takeS
set_option maxRecDepth 100000 in
set_option maxHeartbeats 4000000 in
theorem refHear_short (s : List UInt8) (hl : s.length < 11) (w : World) : Calls Tryd.prog 26 #[S s] w (HearD s w) := by
  obtain ⟨h2, h3, h6, hA⟩ := three_bxD w #[.int .u8 0, .int .u8 0, .int .u64 0, .int .u8 0, .int .u64 0, .int .u64 0, .int .i64 0, .int .u8 0, .int .u64 0, .int .u64 0, .string ⟨#[]⟩, .string ⟨#[]⟩, .int .u64 0, .int .u64 0, .int .i64 0] #[.int .u8 0, .int .u64 0, .int .u64 0, .int .u8 0, .int .u64 0, .int .u64 0, .string ⟨#[]⟩, .int .u64 0, .int .u8 0, .int .u64 0, .int .u64 0, .int .i64 0, .bool false, .bool false, .bool false, .int .u64 0, .slice none 0 0, .slice none 0 0, .slice none 0 0] #[.int .u8 0, .int .u64 0, .int .u64 0, .int .u8 0, .int .u64 0, .int .u64 0, .string ⟨#[]⟩, .int .u64 0, .int .u8 0, .int .u64 0, .int .u64 0, .int .i64 0, .bool false, .bool false, .bool false, .int .u64 0, .slice none 0 0, .slice none 0 0, .slice none 0 0] 46 62 62
  have hok : P.rhOk s = false := by unfold P.rhOk; rw [decide_eq_false (by omega), Bool.false_and]
  have Hno := Lib.hid (show P.rhC s = P.noC ∧ P.rhA s = P.noAn ∧ P.rhN s = 0 ∧ P.rhOk s = false from ⟨(P.rh_not hok).1, (P.rh_not hok).2.1, (P.rh_not hok).2.2, hok⟩)
  clear hok
  unfold HearD
  generalize P.rhOk s = ok at *
  generalize P.rhC s = rC at *
  generalize P.rhA s = rA at *
  generalize P.rhN s = rN at *
  go_enter Tryd.func26, Tryd.ntmps26
  go_upto_region 3 with fail
  generalize hW : ((w.alloc (.cells #[.int .u8 0, .int .u8 0, .int .u64 0, .int .u8 0, .int .u64 0, .int .u64 0, .int .i64 0, .int .u8 0, .int .u64 0, .int .u64 0, .string ⟨#[]⟩, .string ⟨#[]⟩, .int .u64 0, .int .u64 0, .int .i64 0] 46)).alloc (.cells #[.int .u8 0, .int .u64 0, .int .u64 0, .int .u8 0, .int .u64 0, .int .u64 0, .string ⟨#[]⟩, .int .u64 0, .int .u8 0, .int .u64 0, .int .u64 0, .int .i64 0, .bool false, .bool false, .bool false, .int .u64 0, .slice none 0 0, .slice none 0 0, .slice none 0 0] 62)).alloc (.cells #[.int .u8 0, .int .u64 0, .int .u64 0, .int .u8 0, .int .u64 0, .int .u64 0, .string ⟨#[]⟩, .int .u64 0, .int .u8 0, .int .u64 0, .int .u64 0, .int .i64 0, .bool false, .bool false, .bool false, .int .u64 0, .slice none 0 0, .slice none 0 0, .slice none 0 0] 62) = w3 at *
  clear hW
  refine wp_region_held_drew (S := fun wx => Bx wx (w.heap.size + 1 + 1) 62 #[.int .u8 0, .int .u64 0, .int .u64 0, .int .u8 0, .int .u64 0, .int .u64 0, .string ⟨#[]⟩, .int .u64 0, .int .u8 0, .int .u64 0, .int .u64 0, .int .i64 0, .bool false, .bool false, .bool false, .int .u64 0, .slice none 0 0, .slice none 0 0, .slice none 0 0] ∧ Below w.heap.size w wx) (by kernel_rfl) ⟨h6.drew, hA.drew⟩ (fun hHeld => ?_)
  refine wpAnyH_take (i := 0) (v := ?_) rfl (by kernel_rfl) (by kernel_rfl) (by kernel_rfl) (fun _ _ _ h => h) (Or.inl ⟨by rfl, ?_⟩) hHeld ?_
  rotate_left
  · intro wq hSw; go_simp; (try with_reducible rfl)
  simp only [Act.put, nrm]
  refine wpAnyH_take (i := 1) (v := .agg #[.int .u8 0, .int .u64 0, .int .u64 0, .int .u8 0, .int .u64 0, .int .u64 0, .string ⟨#[]⟩, .int .u64 0, .int .u8 0, .int .u64 0, .int .u64 0, .int .i64 0, .bool false, .bool false, .bool false, .int .u64 0, .slice none 0 0, .slice none 0 0, .slice none 0 0]) rfl (by kernel_rfl) (by kernel_rfl) (by kernel_rfl) (fun _ _ _ h => h) (yieldsB (by rfl) _ _ (by rfl) (by rfl) (fun wx h => h.1) structRAn 19 infoRAn (by rfl)) hHeld ?_
  simp only [Act.put, nrm]
  refine wpAnyH_one (i := 2) (by kernel_rfl) rfl (fun K hK => ?_)
  simp only [nrm]
  rw [if_pos (by rfl)]
  refine wp_stB _ _ _ (by rfl) h2.drew _ _ (by rfl) (by rfl) 15 15 (by rfl) (by rfl) (by decide) infoRC (by rfl) (by rfl) ?_
  intro w71 hz' hb71
  have y2 : Bx w71 w.heap.size 46 #[.int .u8 0, .int .u8 0, .int .u64 0, .int .u8 0, .int .u64 0, .int .u64 0, .int .i64 0, .int .u8 0, .int .u64 0, .int .u64 0, .string ⟨#[]⟩, .string ⟨#[]⟩, .int .u64 0, .int .u64 0, .int .i64 0] := hz'
  have y3 := (h3.drew).but hb71 (by omega)
  have hS1 := And.intro (hHeld.1.but hb71 (by omega)) (hHeld.2.trans (hb71.below (Nat.le_refl _) hHeld.2.size))
  refine hK.out _ _ hS1 ?_
  simp only [Act.put, nrm]
  clear hK K
  refine wpAnyH_one (i := 3) (by kernel_rfl) rfl (fun K hK => ?_)
  simp only [nrm]
  rw [if_pos (by rfl)]
  refine wp_stB _ _ _ (by rfl) y3 _ _ (by rfl) (by rfl) 19 19 (by rfl) (by rfl) (by decide) infoRAn (by rfl) (by rfl) ?_
  intro w72 hz' hb72
  have x3 : Bx w72 (w.heap.size + 1) 62 #[.int .u8 0, .int .u64 0, .int .u64 0, .int .u8 0, .int .u64 0, .int .u64 0, .string ⟨#[]⟩, .int .u64 0, .int .u8 0, .int .u64 0, .int .u64 0, .int .i64 0, .bool false, .bool false, .bool false, .int .u64 0, .slice none 0 0, .slice none 0 0, .slice none 0 0] := hz'
  have x2 := y2.but hb72 (by omega)
  have hS2 := And.intro (hS1.1.but hb72 (by omega)) (hS1.2.trans (hb72.below (Nat.le_succ _) hS1.2.size))
  refine hK.out _ _ hS2 ?_
  simp only [Act.put, nrm]
  clear hK K
  refine wpAnyH_take (i := 4) (v := ?_) rfl (by kernel_rfl) (by kernel_rfl) (by kernel_rfl) (fun _ _ _ h => h) (Or.inl ⟨by rfl, ?_⟩) hS2 ?_
  rotate_left
  · intro wq hSw; go_simp; (try with_reducible rfl)
  simp only [Act.put, nrm]
  refine wpAnyH_take (i := 5) (v := ?_) rfl (by kernel_rfl) (by kernel_rfl) (by kernel_rfl) (fun _ _ _ h => h) (Or.inl ⟨by rfl, ?_⟩) hS2 ?_
  rotate_left
  · intro wq hSw; go_simp; (try with_reducible rfl)
  simp only [Act.put, nrm]
  refine wpAnyH_done (by kernel_rfl) ?_ _
  go_wp2_with fail
  exact bodyPost_ret (results_box4 rfl (by rfl) (by rfl) (loadB x2 structRC infoRC rfl) (loadB x3 structRAn infoRAn rfl)) rfl ⟨none, 0, none, 0, none, 0, by rw [Hno.out.1, Hno.out.2.1, Hno.out.2.2.1, Hno.out.2.2.2]; rfl, by rw [Hno.out.2.1]; exact OwnD.none _ _ _ rfl rfl rfl, hS2.2⟩
set_option maxRecDepth 1000000 in
set_option maxHeartbeats 8000000 in
theorem refHear_long (b0 b1 b2 : UInt8) (t : List UInt8) (hl : 11 ≤ (b0 :: b1 :: b2 :: t).length) (hs : (b0 :: b1 :: b2 :: t).length ≤ 1000000) (w : World) : Calls Tryd.prog 26 #[S (b0 :: b1 :: b2 :: t)] w (HearD (b0 :: b1 :: b2 :: t) w) := by
  obtain ⟨h2, h3, h6, hA⟩ := three_bxD w #[.int .u8 0, .int .u8 0, .int .u64 0, .int .u8 0, .int .u64 0, .int .u64 0, .int .i64 0, .int .u8 0, .int .u64 0, .int .u64 0, .string ⟨#[]⟩, .string ⟨#[]⟩, .int .u64 0, .int .u64 0, .int .i64 0] #[.int .u8 0, .int .u64 0, .int .u64 0, .int .u8 0, .int .u64 0, .int .u64 0, .string ⟨#[]⟩, .int .u64 0, .int .u8 0, .int .u64 0, .int .u64 0, .int .i64 0, .bool false, .bool false, .bool false, .int .u64 0, .slice none 0 0, .slice none 0 0, .slice none 0 0] #[.int .u8 0, .int .u64 0, .int .u64 0, .int .u8 0, .int .u64 0, .int .u64 0, .string ⟨#[]⟩, .int .u64 0, .int .u8 0, .int .u64 0, .int .u64 0, .int .i64 0, .bool false, .bool false, .bool false, .int .u64 0, .slice none 0 0, .slice none 0 0, .slice none 0 0] 46 62 62
  have hp0 : 0 < (ByteArray.mk (b0 :: b1 :: b2 :: t).toArray).size := by show 0 < (b0 :: b1 :: b2 :: t).toArray.size; simp
  have hp1 : 1 < (ByteArray.mk (b0 :: b1 :: b2 :: t).toArray).size := by show 1 < (b0 :: b1 :: b2 :: t).toArray.size; simp
  have hp2 : 2 < (ByteArray.mk (b0 :: b1 :: b2 :: t).toArray).size := by show 2 < (b0 :: b1 :: b2 :: t).toArray.size; simp
  have hat0 : (ByteArray.mk (b0 :: b1 :: b2 :: t).toArray)[0]'hp0 = b0 := rfl
  have hat1 : (ByteArray.mk (b0 :: b1 :: b2 :: t).toArray)[1]'hp1 = b1 := rfl
  have hat2 : (ByteArray.mk (b0 :: b1 :: b2 :: t).toArray)[2]'hp2 = b2 := rfl
  have hb0 := b0.toNat_lt
  have hb1 := b1.toNat_lt
  have hb2 := b2.toNat_lt
  have hcw : IntKind.i64.wrap ((b0.toNat : Nat) : Int) = ((b0.toNat : Nat) : Int) := wrap_mid (by omega) (by omega)
  have hl0 : 0 < (b0 :: b1 :: b2 :: t).length := by simp
  have hl1 : 1 < (b0 :: b1 :: b2 :: t).length := by simp
  have hl2 : 2 < (b0 :: b1 :: b2 :: t).length := by simp
  have hl1i : (1 : Int) < (((b0 :: b1 :: b2 :: t).length : Nat) : Int) := by omega
  have hl2i : (2 : Int) < (((b0 :: b1 :: b2 :: t).length : Nat) : Int) := by omega
  have hl3 : 3 ≤ (b0 :: b1 :: b2 :: t).length := by omega
  have hE : P.rhE (b0 :: b1 :: b2 :: t) = b0.toNat := rfl
  have hH : P.rhH (b0 :: b1 :: b2 :: t) = (b1.toNat, b2.toNat, P.bigNum ((b0 :: b1 :: b2 :: t).drop 3) 8) := rfl
  have hok : P.rhOk (b0 :: b1 :: b2 :: t) = (decide ((P.rhT (b0 :: b1 :: b2 :: t)).2 = []) && ((decide (b0.toNat ≠ 0) || P.knownB b1.toNat) && ((decide (b0.toNat ≠ 0) || P.mayA b1.toNat (P.rhT (b0 :: b1 :: b2 :: t)).1) && decide (P.tellB b1.toNat b2.toNat (P.bigNum ((b0 :: b1 :: b2 :: t).drop 3) 8) (P.rhT (b0 :: b1 :: b2 :: t)).1 ((b0.toNat : Nat) : Int) = (b0 :: b1 :: b2 :: t))))) := by
    conv => lhs; unfold P.rhOk
    rw [decide_eq_true hl, Bool.true_and, hE, hH]
  have hC : P.rhC (b0 :: b1 :: b2 :: t) = if P.rhOk (b0 :: b1 :: b2 :: t) then P.headC (b1.toNat, b2.toNat, P.bigNum ((b0 :: b1 :: b2 :: t).drop 3) 8) else P.noC := by unfold P.rhC; rw [hH]
  have hAn : P.rhA (b0 :: b1 :: b2 :: t) = if P.rhOk (b0 :: b1 :: b2 :: t) then (P.rhT (b0 :: b1 :: b2 :: t)).1 else P.noAn := rfl
  have hN : P.rhN (b0 :: b1 :: b2 :: t) = if P.rhOk (b0 :: b1 :: b2 :: t) then b0.toNat else 0 := rfl
  have hd3 := str_dropS (b0 :: b1 :: b2 :: t) 3
  have hd11 := str_dropS (b0 :: b1 :: b2 :: t) 11
  have HB := Lib.hid (fun wx => refReadBig_any ((b0 :: b1 :: b2 :: t).drop 3) 8 wx (by rw [List.length_drop]; omega) (by omega) (by omega))
  have hnu := P.bigNum_lt ((b0 :: b1 :: b2 :: t).drop 3)
  have hok11 : ¬ (b0 :: b1 :: b2 :: t).length < 11 := by omega
  have HTy := Lib.hid (P.rhT_ty (b0 :: b1 :: b2 :: t))
  have HTs := P.rhT_small (b0 :: b1 :: b2 :: t)
  rw [hE, hH] at HTs
  have HTs := Lib.hid HTs
  have HTo := Lib.hid (P.rhT_own (b0 :: b1 :: b2 :: t))
  have HTz := Lib.hid (show b0.toNat = 0 → P.rhT (b0 :: b1 :: b2 :: t) = P.tkTold b1.toNat ((b0 :: b1 :: b2 :: t).drop 11) from fun he => by unfold P.rhT; rw [hE, hH, if_pos he])
  have HTe := Lib.hid (show ¬ b0.toNat = 0 → P.rhT (b0 :: b1 :: b2 :: t) = (P.noAn, (b0 :: b1 :: b2 :: t).drop 11) from fun he => by unfold P.rhT; rw [hE, if_neg he])
  have HHd := Lib.hid (fun wx => heard_any b1.toNat ((b0 :: b1 :: b2 :: t).drop 11) (by rw [List.length_drop]; omega) wx)
  unfold HearD
  clear hE hH
  generalize b0 :: b1 :: b2 :: t = s at *
  generalize P.bigNum (s.drop 3) 8 = nu at *
  generalize P.bigOk (s.drop 3) 8 = bo at *
  generalize s.drop 3 = s3 at *
  generalize s.drop 11 = r0 at *
  have Hok := Lib.hid hok
  have HC := Lib.hid hC
  have HAn := Lib.hid hAn
  have HN := Lib.hid hN
  clear hok hC hAn hN
  generalize P.rhOk s = ok at *
  generalize P.rhC s = rC at *
  generalize P.rhA s = rA at *
  generalize P.rhN s = rN at *
  go_enter Tryd.func26, Tryd.ntmps26
  go_upto_region 5 with fail
  generalize hW : ((w.alloc (.cells #[.int .u8 0, .int .u8 0, .int .u64 0, .int .u8 0, .int .u64 0, .int .u64 0, .int .i64 0, .int .u8 0, .int .u64 0, .int .u64 0, .string ⟨#[]⟩, .string ⟨#[]⟩, .int .u64 0, .int .u64 0, .int .i64 0] 46)).alloc (.cells #[.int .u8 0, .int .u64 0, .int .u64 0, .int .u8 0, .int .u64 0, .int .u64 0, .string ⟨#[]⟩, .int .u64 0, .int .u8 0, .int .u64 0, .int .u64 0, .int .i64 0, .bool false, .bool false, .bool false, .int .u64 0, .slice none 0 0, .slice none 0 0, .slice none 0 0] 62)).alloc (.cells #[.int .u8 0, .int .u64 0, .int .u64 0, .int .u8 0, .int .u64 0, .int .u64 0, .string ⟨#[]⟩, .int .u64 0, .int .u8 0, .int .u64 0, .int .u64 0, .int .i64 0, .bool false, .bool false, .bool false, .int .u64 0, .slice none 0 0, .slice none 0 0, .slice none 0 0] 62) = w3 at *
  clear hW
  have hlt6 := h6.lt
  refine wp_region_held_drew (S := fun wx => Below w3.heap.size w3 wx) (by kernel_rfl) (Below.refl _ _).drew (fun hHeld => ?_)
  generalize hWd : w3.drew = v1 at *
  clear hWd
  refine wpAnyH_take (i := 0) (v := ?_) rfl (by kernel_rfl) (by kernel_rfl) (by kernel_rfl) (fun _ _ _ h => h) (Or.inl ⟨by rfl, ?_⟩) hHeld ?_
  rotate_left
  · intro wq hSw; go_simp; (try with_reducible rfl)
  simp only [Act.put, nrm]
  refine wpAnyH_take (i := 1) (v := ?_) rfl (by kernel_rfl) (by kernel_rfl) (by kernel_rfl) (fun _ _ _ h => h) (Or.inl ⟨by rfl, ?_⟩) hHeld ?_
  rotate_left
  · intro wq hSw; go_simp; (try with_reducible rfl)
  simp only [Act.put, nrm]
  refine wpAnyH_take (i := 2) (v := ?_) rfl (by kernel_rfl) (by kernel_rfl) (by kernel_rfl) (fun _ _ _ h => h) (Or.inl ⟨by rfl, ?_⟩) hHeld ?_
  rotate_left
  · intro wq hSw; go_simp; (try with_reducible rfl)
  simp only [Act.put, nrm]
  refine wpAnyH_take (i := 3) (v := ?_) rfl (by kernel_rfl) (by kernel_rfl) (by kernel_rfl) (fun _ _ _ h => h) (Or.inl ⟨by rfl, ?_⟩) hHeld ?_
  rotate_left
  · intro wq hSw; go_simp; (try with_reducible rfl)
  simp only [Act.put, nrm]
  refine wpAnyH_take (i := 4) (v := ?_) rfl (by kernel_rfl) (by kernel_rfl) (by kernel_rfl) (fun _ _ _ h => h) (Or.inl ⟨by rfl, ?_⟩) hHeld ?_
  rotate_left
  · intro wq hSw; go_simp; (try with_reducible rfl)
  simp only [Act.put, nrm]
  refine wpAnyH_one (i := 5) (by kernel_rfl) rfl (fun K hK => ?_)
  simp only [nrm]
  go_simp
  have hc2 := Bx.fresh v1 46 #[.int .u8 0, .int .u8 0, .int .u64 0, .int .u8 0, .int .u64 0, .int .u64 0, .int .i64 0, .int .u8 0, .int .u64 0, .int .u64 0, .string ⟨#[]⟩, .string ⟨#[]⟩, .int .u64 0, .int .u64 0, .int .i64 0]
  have hg := hHeld.size
  have hS2 := hHeld.alloc hHeld.size (.cells #[.int .u8 0, .int .u8 0, .int .u64 0, .int .u8 0, .int .u64 0, .int .u64 0, .int .i64 0, .int .u8 0, .int .u64 0, .int .u64 0, .string ⟨#[]⟩, .string ⟨#[]⟩, .int .u64 0, .int .u64 0, .int .i64 0] 46)
  refine hK.out _ _ hS2 ?_
  generalize hWn : v1.alloc (.cells #[.int .u8 0, .int .u8 0, .int .u64 0, .int .u8 0, .int .u64 0, .int .u64 0, .int .i64 0, .int .u8 0, .int .u64 0, .int .u64 0, .string ⟨#[]⟩, .string ⟨#[]⟩, .int .u64 0, .int .u64 0, .int .i64 0] 46) = v2 at *
  clear hWn
  generalize v1.heap.size = gc at *
  clear hK K
  refine wpAnyH_one (i := 6) (by kernel_rfl) rfl (fun K hK => ?_)
  simp only [nrm]
  rw [if_pos (by rfl)]
  refine wp_stB _ _ _ (by rfl) hc2 _ _ (by rfl) (by rfl) 15 15 (by rfl) (by rfl) (by decide) infoRC (by rfl) (by rfl) ?_
  intro v3 hz' hb3
  have hc3 : Bx v3 gc 46 #[.int .u8 (b1.toNat : Nat), .int .u8 (b2.toNat : Nat), .int .u64 0, .int .u8 0, .int .u64 0, .int .u64 0, .int .i64 0, .int .u8 0, .int .u64 0, .int .u64 0, .string ⟨#[]⟩, .string ⟨#[]⟩, .int .u64 0, .int .u64 0, .int .i64 0] := hz'
  have hR3 : Below w3.heap.size w3 v3 := hS2.trans (hb3.below hg hS2.size)
  refine hK.out _ _ hR3 ?_
  simp only [Act.put, nrm]
  clear hK K
  refine wpAnyH_done (by kernel_rfl) ?_ _
  clear hHeld hS2 hb3 hc2
  go_upto_region 7 with (first
    | (go_at_call 56; (with_reducible refine (HB.out _).mono ?_); rintro e v4 ⟨rfl, hb4⟩; have hc4 := hc3.up hb4; have hR4 := Chain.up hR3 hb4; clear hc3 hR3 hb4)
    | (refine wpList_stV (by rfl) _ _ _ (by rfl) hc4 2 _ (by rfl) (by rfl) (by rfl) (by rfl) 15 (by rfl) (by decide) infoU64 (by rfl) ?_; intro v5 hz' hb5; have hc5 : Bx v5 gc 46 #[.int .u8 (b1.toNat : Nat), .int .u8 (b2.toNat : Nat), V64 nu, .int .u8 0, .int .u64 0, .int .u64 0, .int .i64 0, .int .u8 0, .int .u64 0, .int .u64 0, .string ⟨#[]⟩, .string ⟨#[]⟩, .int .u64 0, .int .u64 0, .int .i64 0] := hz'; clear hz'; have hR5 := hR4.trans (hb5.below hg hR4.size); have x6 := h6.up hR5; have ha0 := Bx.fresh v5 62 #[.int .u8 0, .int .u64 0, .int .u64 0, .int .u8 0, .int .u64 0, .int .u64 0, .string ⟨#[]⟩, .int .u64 0, .int .u8 0, .int .u64 0, .int .u64 0, .int .i64 0, .bool false, .bool false, .bool false, .int .u64 0, .slice none 0 0, .slice none 0 0, .slice none 0 0]; have hc5' := hc5.alloc (.cells #[.int .u8 0, .int .u64 0, .int .u64 0, .int .u8 0, .int .u64 0, .int .u64 0, .string ⟨#[]⟩, .int .u64 0, .int .u8 0, .int .u64 0, .int .u64 0, .int .i64 0, .bool false, .bool false, .bool false, .int .u64 0, .slice none 0 0, .slice none 0 0, .slice none 0 0] 62); have hR5' := hR5.alloc hR5.size (.cells #[.int .u8 0, .int .u64 0, .int .u64 0, .int .u8 0, .int .u64 0, .int .u64 0, .string ⟨#[]⟩, .int .u64 0, .int .u8 0, .int .u64 0, .int .u64 0, .int .i64 0, .bool false, .bool false, .bool false, .int .u64 0, .slice none 0 0, .slice none 0 0, .slice none 0 0] 62); have hga := hR5.size; have hgca := hc5.lt; clear hc4 hR4 hb5))
  clear hat0 hat1 hat2 hp0 hp1 hp2 hl0 hl1 hl2 hl1i hl2i hl3 HB hd3
  go_upto_region 8 with (first
    | (refine wpList_ldB (by rfl) _ _ (by rfl) x6 (by rfl) structRAn 19 infoRAn (by rfl) ?_)
    | (refine wpList_stB (by rfl) _ _ _ (by rfl) ha0 _ _ (by rfl) (by rfl) 19 19 (by rfl) (by rfl) (by decide) infoRAn (by rfl) (by rfl) ?_; intro v6 hz' hb6; have ha6 : Bx v6 v5.heap.size 62 #[.int .u8 0, .int .u64 0, .int .u64 0, .int .u8 0, .int .u64 0, .int .u64 0, .string ⟨#[]⟩, .int .u64 0, .int .u8 0, .int .u64 0, .int .u64 0, .int .i64 0, .bool false, .bool false, .bool false, .int .u64 0, .slice none 0 0, .slice none 0 0, .slice none 0 0] := hz'; clear hz'; have hc6 := hc5'.but hb6 (by omega); have hR6 := hR5'.trans (hb6.below hga hR5'.size); clear ha0 hc5' hR5' hb6 hc5 hR5 x6))
  generalize v5.heap.size = ga at *
  have y2 := h2.up hR6
  have y3 := h3.up hR6
  have y6 := h6.up hR6
  have hA6 := Chain.up hA hR6
  have hg6 := Nat.lt_of_lt_of_le hlt6 hg
  clear h2 h3 h6 hA hcw hR6 hlt6 hg hga
  by_cases hz : b0.toNat = 0
  · have te : (((b0.toNat : Nat) : Int) == 0) = true := beq_iff_eq.2 (by omega)
    have HH := HHd.out
    unfold HeardDid at HH
    simp only [← HTz.out hz] at HH
    have HH := Lib.hid HH
    have Hz := Lib.hid hz
    clear HTz HTe HHd hz
    generalize P.rhT s = TT at *
    obtain ⟨an, q⟩ := TT
    simp only at HH Hok HC HAn HN HTs HTo HTy
    have c0 : v6.cell? ⟨gc, 0, none⟩ = some (.int .u8 (b1.toNat : Nat)) := hc6.cell 0
    go_upto_region 10 with fail
    go_cut [10] (fun s10 wx => ∃ r rc v vc p pc, s10 = S q ∧ Bx wx ga 62 #[.int .u8 (an.a.fam : Nat), V64 an.a.hi, V64 an.a.lo, .int .u8 0, .int .u64 0, .int .u64 0, S an.owner, V64 an.til, .int .u8 (an.pool.a.fam : Nat), V64 an.pool.a.hi, V64 an.pool.a.lo, .int .i64 an.pool.bits, .bool an.has, .bool an.held, .bool an.live, V64 an.clock, .slice r an.rows.length rc, .slice v an.events.length vc, .slice p an.pools.length pc] ∧ OwnD wx w.heap.size an r rc v vc p pc ∧ Bx wx gc 46 #[.int .u8 (b1.toNat : Nat), .int .u8 (b2.toNat : Nat), V64 nu, .int .u8 0, .int .u64 0, .int .u64 0, .int .i64 0, .int .u8 0, .int .u64 0, .int .u64 0, .string ⟨#[]⟩, .string ⟨#[]⟩, .int .u64 0, .int .u64 0, .int .i64 0] ∧ Bx wx w.heap.size 46 #[.int .u8 0, .int .u8 0, .int .u64 0, .int .u8 0, .int .u64 0, .int .u64 0, .int .i64 0, .int .u8 0, .int .u64 0, .int .u64 0, .string ⟨#[]⟩, .string ⟨#[]⟩, .int .u64 0, .int .u64 0, .int .i64 0] ∧ Bx wx (w.heap.size + 1) 62 #[.int .u8 0, .int .u64 0, .int .u64 0, .int .u8 0, .int .u64 0, .int .u64 0, .string ⟨#[]⟩, .int .u64 0, .int .u8 0, .int .u64 0, .int .u64 0, .int .i64 0, .bool false, .bool false, .bool false, .int .u64 0, .slice none 0 0, .slice none 0 0, .slice none 0 0] ∧ Bx wx (w.heap.size + 1 + 1) 62 #[.int .u8 0, .int .u64 0, .int .u64 0, .int .u8 0, .int .u64 0, .int .u64 0, .string ⟨#[]⟩, .int .u64 0, .int .u8 0, .int .u64 0, .int .u64 0, .int .i64 0, .bool false, .bool false, .bool false, .int .u64 0, .slice none 0 0, .slice none 0 0, .slice none 0 0] ∧ Below w.heap.size w wx)
    case first =>
      go_wp2_with (first
        | (go_at_call 68; (with_reducible refine (HH.out _).mono ?_); rintro e' v7 ⟨r, rc, v, vc, p, pc, rfl, hown7, hb7⟩; have ha7 := ha6.up hb7; have hc7 := hc6.up hb7; have z2 := y2.up hb7; have z3 := y3.up hb7; have z6 := y6.up hb7; have hA7 := Chain.up hA6 hb7; have hown7' := hown7.low hA6.size)
        | (refine wpList_stB (by rfl) _ _ _ (by rfl) ha7 _ _ (by rfl) (by rfl) 19 19 (by rfl) (by rfl) (by decide) infoRAn (by rfl) (by rfl) ?_; intro v8 hz' hb8; have ha8 : Bx v8 ga 62 #[.int .u8 (an.a.fam : Nat), V64 an.a.hi, V64 an.a.lo, .int .u8 0, .int .u64 0, .int .u64 0, S an.owner, V64 an.til, .int .u8 (an.pool.a.fam : Nat), V64 an.pool.a.hi, V64 an.pool.a.lo, .int .i64 an.pool.bits, .bool an.has, .bool an.held, .bool an.live, V64 an.clock, .slice r an.rows.length rc, .slice v an.events.length vc, .slice p an.pools.length pc] := hz'; clear hz'; have hc8 := hc7.but hb8 (by omega); have u2 := z2.but hb8 (by omega); have u3 := z3.but hb8 (by omega); have u6 := z6.but hb8 (by omega); have hA8 := hA7.trans (hb8.below (by omega) hA7.size); have hown8 := hown7'.but ha7 ⟨by decide, by decide, by decide⟩ hb8))
      go_meet
      exact ⟨r, rc, v, vc, p, pc, rfl, ha8, hown8, hc8, u2, u3, u6, hA8⟩
    case rest =>
      obtain ⟨r, rc, v, vc, p, pc, rfl, ha8, hown8, hc8, u2, u3, u6, hA8⟩ := hcut
      rename_i Kr hKr
      refine hKr _ _ ?_
      exact hear_rest s q b0.toNat b1.toNat b2.toNat nu an rA rC rN ok r rc v vc p pc w _ _ _ _ gc ga _ _ _ _ _ _ _ _ _ _ _ _ _ _ _ _ _ _ _ _ _ _ _ _ _ _ _ _ _ _ _ _ _ _ _ _ _ _ _ _ _ _ _ _ _ _ _ _ _ _ _ _ _ _ _ _ _ _ _ _ _ _ _ _ _ _ _ _ _ _ _ _ _ hb0 hb1 hb2 hnu HTy.out (Nat.le_trans HTo.out.1 (by decide)) (fun y hy => Nat.le_trans (HTo.out.2.1 y hy) (by decide)) (fun y hy => Nat.le_trans (HTo.out.2.2.1 y hy) (by decide)) ⟨Nat.le_trans HTo.out.2.2.2.1 (by decide), Nat.le_trans HTo.out.2.2.2.2.1 (by decide), Nat.le_trans HTo.out.2.2.2.2.2 (by decide)⟩ (fun h => ⟨Nat.le_trans (HTs.out h).1 (by decide), Nat.le_trans (HTs.out h).2.1 (by decide), Nat.le_trans (HTs.out h).2.2 (by decide)⟩) Hok.out HC.out HAn.out HN.out u2 u3 u6 hc8 ha8 (by omega) hown8 hA8
  · have te : (((b0.toNat : Nat) : Int) == 0) = false := beq_eq_false_iff_ne.2 (by omega)
    have hT := HTe.out hz
    rw [hT] at HTy HTs HTo Hok HAn
    clear HTz HTe HHd hz hT
    go_upto_region 9 with fail
    go_cut [35] (fun s35 wx => s35 = .bool false ∧ v6 = wx)
    case first =>
      go_wp2_with fail
      go_meet
      exact ⟨rfl, rfl⟩
    case rest =>
      obtain ⟨rfl, rfl⟩ := hcut
      rename_i K1 hK1 Kr hKr
      refine hKr _ _ ?_
      refine wp_cond_false (by rfl) (wp_skip ?_)
      show K1 _ _
      refine hK1 _ _ ?_
      exact hear_rest s r0 b0.toNat b1.toNat b2.toNat nu P.noAn rA rC rN ok none 0 none 0 none 0 w _ _ _ _ gc ga _ _ _ _ _ _ _ _ _ _ _ _ _ _ _ _ _ _ _ _ _ _ _ _ _ _ _ _ _ _ _ _ _ _ _ _ _ _ _ _ _ _ _ _ _ _ _ _ _ _ _ _ _ _ _ _ _ _ _ _ _ _ _ _ _ _ _ _ _ _ _ _ _ hb0 hb1 hb2 hnu HTy.out (Nat.le_trans HTo.out.1 (by decide)) (fun y hy => Nat.le_trans (HTo.out.2.1 y hy) (by decide)) (fun y hy => Nat.le_trans (HTo.out.2.2.1 y hy) (by decide)) ⟨Nat.le_trans HTo.out.2.2.2.1 (by decide), Nat.le_trans HTo.out.2.2.2.2.1 (by decide), Nat.le_trans HTo.out.2.2.2.2.2 (by decide)⟩ (fun h => ⟨Nat.le_trans (HTs.out h).1 (by decide), Nat.le_trans (HTs.out h).2.1 (by decide), Nat.le_trans (HTs.out h).2.2 (by decide)⟩) Hok.out HC.out HAn.out HN.out y2 y3 y6 hc6 ha6 (by omega) (OwnD.none _ _ _ rfl rfl rfl) hA6
theorem refHear_any (s : List UInt8) (hs : s.length ≤ 1000000) (w : World) : Calls Tryd.prog 26 #[S s] w (HearD s w) := by
  by_cases hl : s.length < 11
  · exact refHear_short s hl w
  · match s, hl, hs with
    | [], hl, _ => exact absurd (by simp) hl
    | [_], hl, _ => exact absurd (by simp) hl
    | [_, _], hl, _ => exact absurd (by simp) hl
    | b0 :: b1 :: b2 :: t, hl, hs => exact refHear_long b0 b1 b2 t (by omega) hs w
end Go.Proofs.YtcobfoiajdbahaaDoor
