/- The walks of the document's takes: of a byte, a text, a number, an address, a prefix. -/
import Derived.Test.YtcobfoiajdbahaaDoorWQRefF
import Derived.Test.YtcobfoiajdbahaaDoorWQRd
import Derived.Test.YtcobfoiajdbahaaDoorWBaseQ
import Derived.Deep.QuietTactic
import Derived.BigQuiet
namespace Go.Proofs.YtcobfoiajdbahaaDoor
open Go.RowKit
set_option linter.unusedVariables false
set_option linter.unusedSimpArgs false
attribute [local go_sem] str_dropS str_takeS
theorem byte_at (c : UInt8) (t : List UInt8) (h : 0 < (ByteArray.mk (c :: t).toArray).size) : (ByteArray.mk (c :: t).toArray)[0]'h = c := rfl
theorem P.tSize_le (s : List UInt8) (k : Int) : P.tSize s k ≤ s.length := by
  unfold P.tSize
  split
  · rename_i h
    unfold P.tOk at h
    simp only [Bool.and_eq_true, decide_eq_true_eq] at h
    omega
  · omega
theorem P.rSize_le (s : List UInt8) : P.rSize s ≤ s.length := by
  cases h : P.rOk s with
  | true => exact (P.row_read s h).2.1
  | false => unfold P.rSize; rw [h]; exact Nat.zero_le _
set_option maxRecDepth 100000 in
set_option maxHeartbeats 4000000 in
theorem tkC_any (s : List UInt8) (hs : s.length ≤ 1000000000) (w : World) : Calls Tryd.prog 61 #[S s] w fun e w' => e = .returned (.tuple #[.int .i64 ((P.tkC s).1 : Nat), S (P.tkC s).2]) ∧ Below w.heap.size w w' := by
  cases s with
  | nil =>
    go_enter Tryd.func61, Tryd.ntmps61
    go_wp2_with fail
    go_ret2
    exact ⟨rfl, Below.refl _ _⟩
  | cons c t =>
    have Hr := Lib.hid (show P.tkC (c :: t) = (c.toNat, t) from by unfold P.tkC; rw [if_neg (by simp)]; rfl)
    have t0 : (((((c :: t).length) : Nat) : Int) == 0) = false := beq_eq_false_iff_ne.2 (by simp; omega)
    have hl1 : 1 ≤ (c :: t).length := by simp
    have hd := str_dropS (c :: t) 1
    rw [show (c :: t).drop 1 = t from rfl] at hd
    have hp : 0 < (ByteArray.mk (c :: t).toArray).size := by show 0 < (c :: t).toArray.size; simp
    have hat := byte_at c t hp
    have hcl := c.toNat_lt
    generalize P.tkC (c :: t) = res at *
    generalize c :: t = s at *
    go_enter Tryd.func61, Tryd.ntmps61
    go_wp2_with fail
    go_quiet (fail)
    go_wp2_with fail
    go_ret2
    exact ⟨by rw [Hr.out]; rfl, below_drewN (Below.refl _ _) _⟩
set_option maxRecDepth 100000 in
set_option maxHeartbeats 4000000 in
theorem tkT_any (s : List UInt8) (hs : s.length ≤ 1000000000) (w : World) : Calls Tryd.prog 59 #[S s] w fun e w' => e = .returned (.tuple #[S (P.tkT s).1, S (P.tkT s).2]) ∧ Below w.heap.size w w' := by
  have HV := Lib.hid (fun wx => refReadText_any s 32 wx (by omega) (by omega) (by omega))
  have hle : P.tSize s 32 ≤ s.length := P.tSize_le s 32
  have Hr := Lib.hid (show P.tkT s = (P.tText s 32, s.drop (P.tSize s 32)) from rfl)
  have hd := str_dropS s (P.tSize s 32)
  generalize P.tkT s = res at *
  generalize P.tText s 32 = x0 at *
  generalize P.tSize s 32 = x1 at *
  generalize P.tOk s 32 = x2 at *
  generalize s.drop x1 = rest at *
  go_enter Tryd.func59, Tryd.ntmps59
  go_wp2_with (go_at_call 87; (with_reducible refine (HV.out _).mono ?_); rintro e w1 ⟨rfl, hb1⟩)
  go_quiet (fail)
  go_wp2_with fail
  go_ret2
  exact ⟨by rw [Hr.out]; rfl, below_drewN hb1 _⟩
set_option maxRecDepth 100000 in
set_option maxHeartbeats 4000000 in
theorem tkN_any (s : List UInt8) (hs : s.length ≤ 1000000000) (w : World) : Calls Tryd.prog 60 #[S s] w fun e w' => e = .returned (.tuple #[V64 (P.tkN s).1, S (P.tkN s).2]) ∧ Below w.heap.size w w' := by
  have HV := Lib.hid (fun wx => refReadVar_any s wx (by omega))
  have hle : P.rSize s ≤ s.length := P.rSize_le s
  have Hr := Lib.hid (show P.tkN s = (P.rNum s, s.drop (P.rSize s)) from rfl)
  have hd := str_dropS s (P.rSize s)
  generalize P.tkN s = res at *
  generalize P.rNum s = x0 at *
  generalize P.rSize s = x1 at *
  generalize P.rOk s = x2 at *
  generalize s.drop x1 = rest at *
  go_enter Tryd.func60, Tryd.ntmps60
  go_wp2_with (go_at_call 88; (with_reducible refine (HV.out _).mono ?_); rintro e w1 ⟨rfl, hb1⟩)
  go_quiet (fail)
  go_wp2_with fail
  go_ret2
  exact ⟨by rw [Hr.out]; rfl, below_drewN hb1 _⟩
theorem str_sub (s : List UInt8) (a b : Nat) : (ByteArray.mk s.toArray).extract a b = ⟨((s.drop a).take (b - a)).toArray⟩ := by
  apply ByteArray.ext
  simp [ByteArray.data_extract, List.extract_eq_take_drop]
theorem rows_bytes {w : World} {b : Nat} {l : List UInt8} (h : BytesAt w b l) (hb : b < w.heap.size) : RowsAt 1 byQ w (some ⟨b, 0, none⟩) l := fun i hi => ⟨b, 0, rfl, hb, fun j hj => by
  obtain rfl : j = 0 := by omega
  rw [show 0 + i * 1 + 0 = i by omega, h i hi]
  rfl⟩
set_option maxRecDepth 100000 in
set_option maxHeartbeats 4000000 in
theorem tkA_nil (w : World) : Calls Tryd.prog 58 #[S []] w fun e w' => e = .returned (.tuple #[adV P.noA, S []]) ∧ Below w.heap.size w w' := by
  have h1 := Bx.fresh w 42 #[.int .u8 0, .int .u64 0, .int .u64 0]
  have hA := (Below.refl w.heap.size w).alloc (Nat.le_refl _) (.cells #[.int .u8 0, .int .u64 0, .int .u64 0] 42)
  go_enter Tryd.func58, Tryd.ntmps58
  go_wp2_with (refine wpList_stB (by rfl) _ _ _ (by rfl) h1 _ _ (by rfl) (by rfl) 3 3 (by rfl) (by rfl) (by decide) infoRA (by rfl) (by rfl) ?_; intro w9 hz' hb9; have h9 : Bx w9 w.heap.size 42 #[.int .u8 0, .int .u64 0, .int .u64 0] := hz'; clear hz')
  exact bodyPost_ret (results_box2 rfl (by rfl) (loadB h9 structRA infoRA rfl)) rfl ⟨rfl, hA.trans (hb9.below (Nat.le_refl _) hA.size)⟩
set_option maxRecDepth 100000 in
set_option maxHeartbeats 4000000 in
theorem tkA_six_short (c : UInt8) (t : List UInt8) (h6 : c.toNat = 6) (hl : (c :: t).length < 17) (w : World) : Calls Tryd.prog 58 #[S (c :: t)] w fun e w' => e = .returned (.tuple #[adV (P.tkA (c :: t)).1, S (P.tkA (c :: t)).2]) ∧ Below w.heap.size w w' := by
  have Hr := Lib.hid (show P.tkA (c :: t) = (P.noA, c :: t) from by
    have e0 : P.at_ (c :: t) 0 = c.toNat := rfl
    have es : (if 0 < (c :: t).length ∧ c.toNat = 6 then 17 else 5) = 17 := if_pos ⟨by simp, h6⟩
    unfold P.tkA
    simp only [e0, es]
    rw [if_pos hl])
  have h1 := Bx.fresh w 42 #[.int .u8 0, .int .u64 0, .int .u64 0]
  have hA := (Below.refl w.heap.size w).alloc (Nat.le_refl _) (.cells #[.int .u8 0, .int .u64 0, .int .u64 0] 42)
  have t0 : 0 < (c :: t).length := by simp
  have t6 : ((c.toNat : Int) == 6) = true := beq_iff_eq.2 (by omega)
  have hp : 0 < (ByteArray.mk (c :: t).toArray).size := by show 0 < (c :: t).toArray.size; simp
  have hat := byte_at c t hp
  clear h6
  generalize P.tkA (c :: t) = res at *
  generalize c :: t = s at *
  go_enter Tryd.func58, Tryd.ntmps58
  go_wp2_with (refine wpList_stB (by rfl) _ _ _ (by rfl) h1 _ _ (by rfl) (by rfl) 3 3 (by rfl) (by rfl) (by decide) infoRA (by rfl) (by rfl) ?_; intro w9 hz' hb9; have h9 : Bx w9 w.heap.size 42 #[.int .u8 0, .int .u64 0, .int .u64 0] := hz'; clear hz')
  exact bodyPost_ret (results_box2 rfl (by rfl) (loadB h9 structRA infoRA rfl)) rfl ⟨by rw [Hr.out]; rfl, hA.trans (hb9.below (Nat.le_refl _) hA.size)⟩
set_option maxRecDepth 100000 in
set_option maxHeartbeats 8000000 in
theorem tkA_six (c : UInt8) (t : List UInt8) (hs : (c :: t).length ≤ 1000000000) (h6 : c.toNat = 6) (hl : 17 ≤ (c :: t).length) (w : World) : Calls Tryd.prog 58 #[S (c :: t)] w fun e w' => e = .returned (.tuple #[adV (P.tkA (c :: t)).1, S (P.tkA (c :: t)).2]) ∧ Below w.heap.size w w' := by
  have HF := Lib.hid (fun g cp wx (hr : RowsAt 1 byQ wx (some ⟨g, 0, none⟩) (((c :: t).drop 1).take (17 - 1))) => refFromB_any c.toNat _ (some ⟨g, 0, none⟩) cp wx hr)
  have Hr := Lib.hid (show P.tkA (c :: t) = if (P.fromB c.toNat (((c :: t).drop 1).take (17 - 1))).2 then ((P.fromB c.toNat (((c :: t).drop 1).take (17 - 1))).1, (c :: t).drop 17) else (P.noA, c :: t) from by
    have e0 : P.at_ (c :: t) 0 = c.toNat := rfl
    have es : (if 0 < (c :: t).length ∧ c.toNat = 6 then 17 else 5) = 17 := if_pos ⟨by simp, h6⟩
    unfold P.tkA
    simp only [e0, es]
    rw [if_neg (Nat.not_lt.2 hl)])
  have h1 := Bx.fresh w 42 #[.int .u8 0, .int .u64 0, .int .u64 0]
  have hA := (Below.refl w.heap.size w).alloc (Nat.le_refl _) (.cells #[.int .u8 0, .int .u64 0, .int .u64 0] 42)
  have t0 : 0 < (c :: t).length := by simp
  have t6 : ((c.toNat : Int) == 6) = true := beq_iff_eq.2 (by omega)
  have hp : 0 < (ByteArray.mk (c :: t).toArray).size := by show 0 < (c :: t).toArray.size; simp
  have hat := byte_at c t hp
  clear h6
  have hsub := str_sub (c :: t) 1 17
  have hd := str_dropS (c :: t) 17
  generalize P.tkA (c :: t) = res at *
  generalize ((c :: t).drop 1).take (17 - 1) = D at *
  generalize (c :: t).drop 17 = rest at *
  generalize P.fromB c.toNat D = r at *
  generalize c :: t = s at *
  go_enter Tryd.func58, Tryd.ntmps58
  go_upto_region 6 with fail
  generalize hW : w.alloc (.cells #[.int .u8 0, .int .u64 0, .int .u64 0] 42) = w1 at *
  clear hW
  refine wp_region_held_drew (S := fun wx => Below w1.heap.size w1 wx) (by kernel_rfl) (Below.refl _ _).drew (fun hHeld => ?_)
  refine wpAnyH_take (i := 0) (v := ?_) rfl (by kernel_rfl) (by kernel_rfl) (by kernel_rfl) (fun _ _ _ h => h) (Or.inl ⟨by rfl, ?_⟩) hHeld ?_
  rotate_left
  · intro wq hSw; go_simp; (try with_reducible rfl)
  simp only [Act.put, nrm]
  refine wpAnyH_take (i := 1) (v := ?_) rfl (by kernel_rfl) (by kernel_rfl) (by kernel_rfl) (fun _ _ _ h => h) (Or.inl ⟨by rfl, ?_⟩) hHeld ?_
  rotate_left
  · intro wq hSw; go_simp; (try with_reducible rfl)
  simp only [Act.put, nrm]
  refine wpAnyH_take (i := 2) (v := ?_) rfl (by kernel_rfl) (by kernel_rfl) (by kernel_rfl) (fun _ _ _ h => h) (Or.inl ⟨by rfl, ?_⟩) hHeld ?_
  rotate_left
  · intro wq hSw; go_simp; (try with_reducible rfl)
  simp only [Act.put, nrm]
  refine wpAnyH_take (i := 3) (v := ?_) rfl (by kernel_rfl) (by kernel_rfl) (by kernel_rfl) (fun _ _ _ h => h) (Or.inl ⟨by rfl, ?_⟩) hHeld ?_
  rotate_left
  · intro wq hSw; go_simp; (try with_reducible rfl)
  simp only [Act.put, nrm]
  refine wpAnyH_take (i := 4) (v := ?_) rfl (by kernel_rfl) (by kernel_rfl) (by kernel_rfl) (fun _ _ _ h => h) (Or.inl ⟨by rfl, ?_⟩) hHeld ?_
  rotate_left
  · intro wq hSw; go_simp; (try with_reducible rfl)
  simp only [Act.put, nrm]
  have hlt1 := h1.lt
  generalize hWd : w1.drew = v1 at *
  clear hWd
  refine wpAnyH_two (i := 5) (j := 10) (by kernel_rfl) rfl rfl (fun K hK => ?_) (fun K hK => ?_)
  · simp only [nrm]
    obtain ⟨cp, v2, hrun, hB2, hb2, hz2⟩ := conv_bytes (P := Tryd.prog) (w := v1) 9 85 5 D (by rfl) (by rfl) (by rfl)
    go_simp
    have hrow := rows_bytes hB2 hz2
    have hS2 := Chain.up hHeld hb2
    refine hK.out _ _ hS2 ?_
    clear hK K
    refine wpAnyH_two (i := 6) (j := 10) (by kernel_rfl) rfl rfl (fun K hK => ?_) (fun K hK => ?_)
    · simp only [nrm]
      go_simp
      (with_reducible refine (HF.out _ _ _ hrow).mono ?_)
      rintro e v3 ⟨rfl, hb3⟩
      have hS3 := Chain.up hS2 hb3
      refine hK.out _ _ hS3 ?_
      clear hK K
      refine wpAnyH_take (i := 7) (v := ?_) rfl (by kernel_rfl) (by kernel_rfl) (by kernel_rfl) (fun _ _ _ h => h) (Or.inl ⟨by rfl, ?_⟩) hS3 ?_
      rotate_left
      · intro wq hSw; go_simp; (try with_reducible rfl)
      simp only [Act.put, nrm]
      refine wpAnyH_take (i := 8) (v := ?_) rfl (by kernel_rfl) (by kernel_rfl) (by kernel_rfl) (fun _ _ _ h => h) (Or.inl ⟨by rfl, ?_⟩) hS3 ?_
      rotate_left
      · intro wq hSw; go_simp; (try with_reducible rfl)
      simp only [Act.put, nrm]
      refine wpAnyH_take (i := 9) (v := ?_) rfl (by kernel_rfl) (by kernel_rfl) (by kernel_rfl) (fun _ _ _ h => h) (Or.inl ⟨by rfl, ?_⟩) hS3 ?_
      rotate_left
      · intro wq hSw; go_simp; (try with_reducible rfl)
      simp only [Act.put, nrm]
      refine wpAnyH_one (i := 10) (by kernel_rfl) rfl (fun K hK => ?_)
      simp only [nrm]
      go_simp
      have hx5 := Bx.fresh v3 42 #[.int .u8 0, .int .u64 0, .int .u64 0]
      have hg5 := hS3.size
      have hS4 := hS3.alloc hS3.size (.cells #[.int .u8 0, .int .u64 0, .int .u64 0] 42)
      have hrow := RowsAt.up hrow ((Below.refl _ _).alloc (Nat.le_refl _) (.cells #[.int .u8 0, .int .u64 0, .int .u64 0] 42))
      refine hK.out _ _ hS4 ?_
      generalize hWn : v3.alloc (.cells #[.int .u8 0, .int .u64 0, .int .u64 0] 42) = v4 at *
      clear hWn
      clear hK K
      refine wpAnyH_one (i := 11) (by kernel_rfl) rfl (fun K hK => ?_)
      simp only [nrm]
      rw [if_pos (by rfl)]
      refine wp_stB _ _ _ (by rfl) hx5 _ _ (by rfl) (by rfl) 3 3 (by rfl) (by rfl) (by decide) infoRA (by rfl) (by rfl) ?_
      intro w5 hz' hb5
      have h5 : Bx w5 _ 42 #[.int .u8 (r.1.fam : Nat), V64 r.1.hi, V64 r.1.lo] := hz'
      have hS5 : Below w1.heap.size w1 w5 := hS4.trans (hb5.below hg5 hS4.size)
      refine hK.out _ _ hS5 ?_
      simp only [Act.put, nrm]
      clear hK K
      refine wpAnyH_take (i := 12) (v := ?_) rfl (by kernel_rfl) (by kernel_rfl) (by kernel_rfl) (fun _ _ _ h => h) (Or.inl ⟨by rfl, ?_⟩) hS5 ?_
      rotate_left
      · intro wq hSw; go_simp; (try with_reducible rfl)
      simp only [Act.put, nrm]
      refine wpAnyH_done (by kernel_rfl) ?_ _
      have h2 := h1.up hS5
      have hA2 := Chain.up hA hS5
      cases hok : r.2 with
      | false =>
        have Hf := Lib.hid (show res = (P.noA, s) from by rw [Hr.out, hok]; rfl)
        clear Hr
        go_wp2_with (refine wpList_stB (by rfl) _ _ _ (by rfl) h2 _ _ (by rfl) (by rfl) 3 3 (by rfl) (by rfl) (by decide) infoRA (by rfl) (by rfl) ?_; intro w9 hz' hb9; have h9 : Bx w9 w.heap.size 42 #[.int .u8 0, .int .u64 0, .int .u64 0] := hz'; clear hz')
        exact bodyPost_ret (results_box2 rfl (by rfl) (loadB h9 structRA infoRA rfl)) rfl ⟨by rw [Hf.out]; rfl, hA2.trans (hb9.below (Nat.le_refl _) hA2.size)⟩
      | true =>
        have Hf := Lib.hid (show res = (r.1, rest) from by rw [Hr.out, hok]; rfl)
        clear Hr
        go_upto_region 9 with fail
        refine wp_region_held_drew (S := fun wx => Bx wx _ 42 #[.int .u8 (r.1.fam : Nat), V64 r.1.hi, V64 r.1.lo] ∧ Below w.heap.size w wx) (by kernel_rfl) ⟨h5.drew, hA2.drew⟩ (fun hHeld2 => ?_)
        refine wpAnyH_take (i := 0) (v := ?_) rfl (by kernel_rfl) (by kernel_rfl) (by kernel_rfl) (fun _ _ _ h => h) (Or.inl ⟨by rfl, ?_⟩) hHeld2 ?_
        rotate_left
        · intro wq hSw; obtain ⟨q0, q1, q2, -, -, -⟩ := hSw.1.three; go_simp; (try with_reducible rfl)
        simp only [Act.put, nrm]
        refine wpAnyH_take (i := 1) (v := ?_) rfl (by kernel_rfl) (by kernel_rfl) (by kernel_rfl) (fun _ _ _ h => h) (Or.inl ⟨by rfl, ?_⟩) hHeld2 ?_
        rotate_left
        · intro wq hSw; go_simp; (try with_reducible rfl)
        simp only [Act.put, nrm]
        refine wpAnyH_take (i := 2) (v := ?_) rfl (by kernel_rfl) (by kernel_rfl) (by kernel_rfl) (fun _ _ _ h => h) (Or.inl ⟨by rfl, ?_⟩) hHeld2 ?_
        rotate_left
        · intro wq hSw; go_simp; (try with_reducible rfl)
        simp only [Act.put, nrm]
        refine wpAnyH_take (i := 3) (v := ?_) rfl (by kernel_rfl) (by kernel_rfl) (by kernel_rfl) (fun _ _ _ h => h) (Or.inl ⟨by rfl, ?_⟩) hHeld2 ?_
        rotate_left
        · intro wq hSw; go_simp; (try with_reducible rfl)
        simp only [Act.put, nrm]
        refine wpAnyH_one (i := 4) (by kernel_rfl) rfl (fun K hK => ?_)
        simp only [nrm]
        rw [if_pos (by rfl)]
        refine wp_stB _ _ _ (by rfl) h2.drew _ _ (by rfl) (by rfl) 3 3 (by rfl) (by rfl) (by decide) infoRA (by rfl) (by rfl) ?_
        intro w9 hz' hb9
        have h9 : Bx w9 w.heap.size 42 #[.int .u8 (r.1.fam : Nat), V64 r.1.hi, V64 r.1.lo] := hz'
        have hS9 := And.intro (hHeld2.1.but hb9 (by omega)) (hHeld2.2.trans (hb9.below (Nat.le_refl _) hHeld2.2.size))
        refine hK.out _ _ hS9 ?_
        simp only [Act.put, nrm]
        clear hK K
        refine wpAnyH_take (i := 5) (v := ?_) rfl (by kernel_rfl) (by kernel_rfl) (by kernel_rfl) (fun _ _ _ h => h) (Or.inl ⟨by rfl, ?_⟩) hS9 ?_
        rotate_left
        · intro wq hSw; go_simp; (try with_reducible rfl)
        simp only [Act.put, nrm]
        refine wpAnyH_done (by kernel_rfl) ?_ _
        go_wp2_with fail
        exact bodyPost_ret (results_box2 rfl (by rfl) (loadB h9 structRA infoRA rfl)) rfl ⟨by rw [Hf.out]; rfl, hS9.2⟩
    · simp only [nrm]
      go_simp
      have hx5 := Bx.fresh v2 42 #[.int .u8 0, .int .u64 0, .int .u64 0]
      have hg5 := hS2.size
      have hS3 := hS2.alloc hS2.size (.cells #[.int .u8 0, .int .u64 0, .int .u64 0] 42)
      have hrow := RowsAt.up hrow ((Below.refl _ _).alloc (Nat.le_refl _) (.cells #[.int .u8 0, .int .u64 0, .int .u64 0] 42))
      refine hK.out _ _ hS3 ?_
      generalize hWn : v2.alloc (.cells #[.int .u8 0, .int .u64 0, .int .u64 0] 42) = v3 at *
      clear hWn
      clear hK K
      refine wpAnyH_one (i := 6) (by kernel_rfl) rfl (fun K hK => ?_)
      simp only [nrm]
      go_simp
      (with_reducible refine (HF.out _ _ _ hrow).mono ?_)
      rintro e v4 ⟨rfl, hb3⟩
      have hS4 := Chain.up hS3 hb3
      have hx5 := hx5.up hb3
      refine hK.out _ _ hS4 ?_
      clear hK K
      refine wpAnyH_take (i := 7) (v := ?_) rfl (by kernel_rfl) (by kernel_rfl) (by kernel_rfl) (fun _ _ _ h => h) (Or.inl ⟨by rfl, ?_⟩) hS4 ?_
      rotate_left
      · intro wq hSw; go_simp; (try with_reducible rfl)
      simp only [Act.put, nrm]
      refine wpAnyH_take (i := 8) (v := ?_) rfl (by kernel_rfl) (by kernel_rfl) (by kernel_rfl) (fun _ _ _ h => h) (Or.inl ⟨by rfl, ?_⟩) hS4 ?_
      rotate_left
      · intro wq hSw; go_simp; (try with_reducible rfl)
      simp only [Act.put, nrm]
      refine wpAnyH_take (i := 9) (v := ?_) rfl (by kernel_rfl) (by kernel_rfl) (by kernel_rfl) (fun _ _ _ h => h) (Or.inl ⟨by rfl, ?_⟩) hS4 ?_
      rotate_left
      · intro wq hSw; go_simp; (try with_reducible rfl)
      simp only [Act.put, nrm]
      refine wpAnyH_one (i := 11) (by kernel_rfl) rfl (fun K hK => ?_)
      simp only [nrm]
      rw [if_pos (by rfl)]
      refine wp_stB _ _ _ (by rfl) hx5 _ _ (by rfl) (by rfl) 3 3 (by rfl) (by rfl) (by decide) infoRA (by rfl) (by rfl) ?_
      intro w5 hz' hb5
      have h5 : Bx w5 _ 42 #[.int .u8 (r.1.fam : Nat), V64 r.1.hi, V64 r.1.lo] := hz'
      have hS5 : Below w1.heap.size w1 w5 := hS4.trans (hb5.below hg5 hS4.size)
      refine hK.out _ _ hS5 ?_
      simp only [Act.put, nrm]
      clear hK K
      refine wpAnyH_take (i := 12) (v := ?_) rfl (by kernel_rfl) (by kernel_rfl) (by kernel_rfl) (fun _ _ _ h => h) (Or.inl ⟨by rfl, ?_⟩) hS5 ?_
      rotate_left
      · intro wq hSw; go_simp; (try with_reducible rfl)
      simp only [Act.put, nrm]
      refine wpAnyH_done (by kernel_rfl) ?_ _
      have h2 := h1.up hS5
      have hA2 := Chain.up hA hS5
      cases hok : r.2 with
      | false =>
        have Hf := Lib.hid (show res = (P.noA, s) from by rw [Hr.out, hok]; rfl)
        clear Hr
        go_wp2_with (refine wpList_stB (by rfl) _ _ _ (by rfl) h2 _ _ (by rfl) (by rfl) 3 3 (by rfl) (by rfl) (by decide) infoRA (by rfl) (by rfl) ?_; intro w9 hz' hb9; have h9 : Bx w9 w.heap.size 42 #[.int .u8 0, .int .u64 0, .int .u64 0] := hz'; clear hz')
        exact bodyPost_ret (results_box2 rfl (by rfl) (loadB h9 structRA infoRA rfl)) rfl ⟨by rw [Hf.out]; rfl, hA2.trans (hb9.below (Nat.le_refl _) hA2.size)⟩
      | true =>
        have Hf := Lib.hid (show res = (r.1, rest) from by rw [Hr.out, hok]; rfl)
        clear Hr
        go_upto_region 9 with fail
        refine wp_region_held_drew (S := fun wx => Bx wx _ 42 #[.int .u8 (r.1.fam : Nat), V64 r.1.hi, V64 r.1.lo] ∧ Below w.heap.size w wx) (by kernel_rfl) ⟨h5.drew, hA2.drew⟩ (fun hHeld2 => ?_)
        refine wpAnyH_take (i := 0) (v := ?_) rfl (by kernel_rfl) (by kernel_rfl) (by kernel_rfl) (fun _ _ _ h => h) (Or.inl ⟨by rfl, ?_⟩) hHeld2 ?_
        rotate_left
        · intro wq hSw; obtain ⟨q0, q1, q2, -, -, -⟩ := hSw.1.three; go_simp; (try with_reducible rfl)
        simp only [Act.put, nrm]
        refine wpAnyH_take (i := 1) (v := ?_) rfl (by kernel_rfl) (by kernel_rfl) (by kernel_rfl) (fun _ _ _ h => h) (Or.inl ⟨by rfl, ?_⟩) hHeld2 ?_
        rotate_left
        · intro wq hSw; go_simp; (try with_reducible rfl)
        simp only [Act.put, nrm]
        refine wpAnyH_take (i := 2) (v := ?_) rfl (by kernel_rfl) (by kernel_rfl) (by kernel_rfl) (fun _ _ _ h => h) (Or.inl ⟨by rfl, ?_⟩) hHeld2 ?_
        rotate_left
        · intro wq hSw; go_simp; (try with_reducible rfl)
        simp only [Act.put, nrm]
        refine wpAnyH_take (i := 3) (v := ?_) rfl (by kernel_rfl) (by kernel_rfl) (by kernel_rfl) (fun _ _ _ h => h) (Or.inl ⟨by rfl, ?_⟩) hHeld2 ?_
        rotate_left
        · intro wq hSw; go_simp; (try with_reducible rfl)
        simp only [Act.put, nrm]
        refine wpAnyH_one (i := 4) (by kernel_rfl) rfl (fun K hK => ?_)
        simp only [nrm]
        rw [if_pos (by rfl)]
        refine wp_stB _ _ _ (by rfl) h2.drew _ _ (by rfl) (by rfl) 3 3 (by rfl) (by rfl) (by decide) infoRA (by rfl) (by rfl) ?_
        intro w9 hz' hb9
        have h9 : Bx w9 w.heap.size 42 #[.int .u8 (r.1.fam : Nat), V64 r.1.hi, V64 r.1.lo] := hz'
        have hS9 := And.intro (hHeld2.1.but hb9 (by omega)) (hHeld2.2.trans (hb9.below (Nat.le_refl _) hHeld2.2.size))
        refine hK.out _ _ hS9 ?_
        simp only [Act.put, nrm]
        clear hK K
        refine wpAnyH_take (i := 5) (v := ?_) rfl (by kernel_rfl) (by kernel_rfl) (by kernel_rfl) (fun _ _ _ h => h) (Or.inl ⟨by rfl, ?_⟩) hS9 ?_
        rotate_left
        · intro wq hSw; go_simp; (try with_reducible rfl)
        simp only [Act.put, nrm]
        refine wpAnyH_done (by kernel_rfl) ?_ _
        go_wp2_with fail
        exact bodyPost_ret (results_box2 rfl (by rfl) (loadB h9 structRA infoRA rfl)) rfl ⟨by rw [Hf.out]; rfl, hS9.2⟩
  · simp only [nrm]
    go_simp
    have hx5 := Bx.fresh v1 42 #[.int .u8 0, .int .u64 0, .int .u64 0]
    have hg5 := hHeld.size
    have hS2 := hHeld.alloc hHeld.size (.cells #[.int .u8 0, .int .u64 0, .int .u64 0] 42)
    refine hK.out _ _ hS2 ?_
    generalize hWn : v1.alloc (.cells #[.int .u8 0, .int .u64 0, .int .u64 0] 42) = v2 at *
    clear hWn
    clear hK K
    refine wpAnyH_one (i := 5) (by kernel_rfl) rfl (fun K hK => ?_)
    simp only [nrm]
    obtain ⟨cp, v3, hrun, hB2, hb2, hz2⟩ := conv_bytes (P := Tryd.prog) (w := v2) 9 85 5 D (by rfl) (by rfl) (by rfl)
    go_simp
    have hrow := rows_bytes hB2 hz2
    have hS3 := Chain.up hS2 hb2
    have hx5 := hx5.up hb2
    refine hK.out _ _ hS3 ?_
    clear hK K
    refine wpAnyH_one (i := 6) (by kernel_rfl) rfl (fun K hK => ?_)
    simp only [nrm]
    go_simp
    (with_reducible refine (HF.out _ _ _ hrow).mono ?_)
    rintro e v4 ⟨rfl, hb3⟩
    have hS4 := Chain.up hS3 hb3
    have hx5 := hx5.up hb3
    refine hK.out _ _ hS4 ?_
    clear hK K
    refine wpAnyH_take (i := 7) (v := ?_) rfl (by kernel_rfl) (by kernel_rfl) (by kernel_rfl) (fun _ _ _ h => h) (Or.inl ⟨by rfl, ?_⟩) hS4 ?_
    rotate_left
    · intro wq hSw; go_simp; (try with_reducible rfl)
    simp only [Act.put, nrm]
    refine wpAnyH_take (i := 8) (v := ?_) rfl (by kernel_rfl) (by kernel_rfl) (by kernel_rfl) (fun _ _ _ h => h) (Or.inl ⟨by rfl, ?_⟩) hS4 ?_
    rotate_left
    · intro wq hSw; go_simp; (try with_reducible rfl)
    simp only [Act.put, nrm]
    refine wpAnyH_take (i := 9) (v := ?_) rfl (by kernel_rfl) (by kernel_rfl) (by kernel_rfl) (fun _ _ _ h => h) (Or.inl ⟨by rfl, ?_⟩) hS4 ?_
    rotate_left
    · intro wq hSw; go_simp; (try with_reducible rfl)
    simp only [Act.put, nrm]
    refine wpAnyH_one (i := 11) (by kernel_rfl) rfl (fun K hK => ?_)
    simp only [nrm]
    rw [if_pos (by rfl)]
    refine wp_stB _ _ _ (by rfl) hx5 _ _ (by rfl) (by rfl) 3 3 (by rfl) (by rfl) (by decide) infoRA (by rfl) (by rfl) ?_
    intro w5 hz' hb5
    have h5 : Bx w5 _ 42 #[.int .u8 (r.1.fam : Nat), V64 r.1.hi, V64 r.1.lo] := hz'
    have hS5 : Below w1.heap.size w1 w5 := hS4.trans (hb5.below hg5 hS4.size)
    refine hK.out _ _ hS5 ?_
    simp only [Act.put, nrm]
    clear hK K
    refine wpAnyH_take (i := 12) (v := ?_) rfl (by kernel_rfl) (by kernel_rfl) (by kernel_rfl) (fun _ _ _ h => h) (Or.inl ⟨by rfl, ?_⟩) hS5 ?_
    rotate_left
    · intro wq hSw; go_simp; (try with_reducible rfl)
    simp only [Act.put, nrm]
    refine wpAnyH_done (by kernel_rfl) ?_ _
    have h2 := h1.up hS5
    have hA2 := Chain.up hA hS5
    cases hok : r.2 with
    | false =>
      have Hf := Lib.hid (show res = (P.noA, s) from by rw [Hr.out, hok]; rfl)
      clear Hr
      go_wp2_with (refine wpList_stB (by rfl) _ _ _ (by rfl) h2 _ _ (by rfl) (by rfl) 3 3 (by rfl) (by rfl) (by decide) infoRA (by rfl) (by rfl) ?_; intro w9 hz' hb9; have h9 : Bx w9 w.heap.size 42 #[.int .u8 0, .int .u64 0, .int .u64 0] := hz'; clear hz')
      exact bodyPost_ret (results_box2 rfl (by rfl) (loadB h9 structRA infoRA rfl)) rfl ⟨by rw [Hf.out]; rfl, hA2.trans (hb9.below (Nat.le_refl _) hA2.size)⟩
    | true =>
      have Hf := Lib.hid (show res = (r.1, rest) from by rw [Hr.out, hok]; rfl)
      clear Hr
      go_upto_region 9 with fail
      refine wp_region_held_drew (S := fun wx => Bx wx _ 42 #[.int .u8 (r.1.fam : Nat), V64 r.1.hi, V64 r.1.lo] ∧ Below w.heap.size w wx) (by kernel_rfl) ⟨h5.drew, hA2.drew⟩ (fun hHeld2 => ?_)
      refine wpAnyH_take (i := 0) (v := ?_) rfl (by kernel_rfl) (by kernel_rfl) (by kernel_rfl) (fun _ _ _ h => h) (Or.inl ⟨by rfl, ?_⟩) hHeld2 ?_
      rotate_left
      · intro wq hSw; obtain ⟨q0, q1, q2, -, -, -⟩ := hSw.1.three; go_simp; (try with_reducible rfl)
      simp only [Act.put, nrm]
      refine wpAnyH_take (i := 1) (v := ?_) rfl (by kernel_rfl) (by kernel_rfl) (by kernel_rfl) (fun _ _ _ h => h) (Or.inl ⟨by rfl, ?_⟩) hHeld2 ?_
      rotate_left
      · intro wq hSw; go_simp; (try with_reducible rfl)
      simp only [Act.put, nrm]
      refine wpAnyH_take (i := 2) (v := ?_) rfl (by kernel_rfl) (by kernel_rfl) (by kernel_rfl) (fun _ _ _ h => h) (Or.inl ⟨by rfl, ?_⟩) hHeld2 ?_
      rotate_left
      · intro wq hSw; go_simp; (try with_reducible rfl)
      simp only [Act.put, nrm]
      refine wpAnyH_take (i := 3) (v := ?_) rfl (by kernel_rfl) (by kernel_rfl) (by kernel_rfl) (fun _ _ _ h => h) (Or.inl ⟨by rfl, ?_⟩) hHeld2 ?_
      rotate_left
      · intro wq hSw; go_simp; (try with_reducible rfl)
      simp only [Act.put, nrm]
      refine wpAnyH_one (i := 4) (by kernel_rfl) rfl (fun K hK => ?_)
      simp only [nrm]
      rw [if_pos (by rfl)]
      refine wp_stB _ _ _ (by rfl) h2.drew _ _ (by rfl) (by rfl) 3 3 (by rfl) (by rfl) (by decide) infoRA (by rfl) (by rfl) ?_
      intro w9 hz' hb9
      have h9 : Bx w9 w.heap.size 42 #[.int .u8 (r.1.fam : Nat), V64 r.1.hi, V64 r.1.lo] := hz'
      have hS9 := And.intro (hHeld2.1.but hb9 (by omega)) (hHeld2.2.trans (hb9.below (Nat.le_refl _) hHeld2.2.size))
      refine hK.out _ _ hS9 ?_
      simp only [Act.put, nrm]
      clear hK K
      refine wpAnyH_take (i := 5) (v := ?_) rfl (by kernel_rfl) (by kernel_rfl) (by kernel_rfl) (fun _ _ _ h => h) (Or.inl ⟨by rfl, ?_⟩) hS9 ?_
      rotate_left
      · intro wq hSw; go_simp; (try with_reducible rfl)
      simp only [Act.put, nrm]
      refine wpAnyH_done (by kernel_rfl) ?_ _
      go_wp2_with fail
      exact bodyPost_ret (results_box2 rfl (by rfl) (loadB h9 structRA infoRA rfl)) rfl ⟨by rw [Hf.out]; rfl, hS9.2⟩
set_option maxRecDepth 100000 in
set_option maxHeartbeats 4000000 in
theorem tkA_four_short (c : UInt8) (t : List UInt8) (h6 : ¬ c.toNat = 6) (hl : (c :: t).length < 5) (w : World) : Calls Tryd.prog 58 #[S (c :: t)] w fun e w' => e = .returned (.tuple #[adV (P.tkA (c :: t)).1, S (P.tkA (c :: t)).2]) ∧ Below w.heap.size w w' := by
  have Hr := Lib.hid (show P.tkA (c :: t) = (P.noA, c :: t) from by
    have e0 : P.at_ (c :: t) 0 = c.toNat := rfl
    have es : (if 0 < (c :: t).length ∧ c.toNat = 6 then 17 else 5) = 5 := if_neg (fun h => h6 h.2)
    unfold P.tkA
    simp only [e0, es]
    rw [if_pos hl])
  have h1 := Bx.fresh w 42 #[.int .u8 0, .int .u64 0, .int .u64 0]
  have hA := (Below.refl w.heap.size w).alloc (Nat.le_refl _) (.cells #[.int .u8 0, .int .u64 0, .int .u64 0] 42)
  have t0 : 0 < (c :: t).length := by simp
  have t6 : ((c.toNat : Int) == 6) = false := beq_eq_false_iff_ne.2 (by omega)
  have hp : 0 < (ByteArray.mk (c :: t).toArray).size := by show 0 < (c :: t).toArray.size; simp
  have hat := byte_at c t hp
  clear h6
  generalize P.tkA (c :: t) = res at *
  generalize c :: t = s at *
  go_enter Tryd.func58, Tryd.ntmps58
  go_wp2_with (refine wpList_stB (by rfl) _ _ _ (by rfl) h1 _ _ (by rfl) (by rfl) 3 3 (by rfl) (by rfl) (by decide) infoRA (by rfl) (by rfl) ?_; intro w9 hz' hb9; have h9 : Bx w9 w.heap.size 42 #[.int .u8 0, .int .u64 0, .int .u64 0] := hz'; clear hz')
  exact bodyPost_ret (results_box2 rfl (by rfl) (loadB h9 structRA infoRA rfl)) rfl ⟨by rw [Hr.out]; rfl, hA.trans (hb9.below (Nat.le_refl _) hA.size)⟩
set_option maxRecDepth 100000 in
set_option maxHeartbeats 8000000 in
theorem tkA_four (c : UInt8) (t : List UInt8) (hs : (c :: t).length ≤ 1000000000) (h6 : ¬ c.toNat = 6) (hl : 5 ≤ (c :: t).length) (w : World) : Calls Tryd.prog 58 #[S (c :: t)] w fun e w' => e = .returned (.tuple #[adV (P.tkA (c :: t)).1, S (P.tkA (c :: t)).2]) ∧ Below w.heap.size w w' := by
  have HF := Lib.hid (fun g cp wx (hr : RowsAt 1 byQ wx (some ⟨g, 0, none⟩) (((c :: t).drop 1).take (5 - 1))) => refFromB_any c.toNat _ (some ⟨g, 0, none⟩) cp wx hr)
  have Hr := Lib.hid (show P.tkA (c :: t) = if (P.fromB c.toNat (((c :: t).drop 1).take (5 - 1))).2 then ((P.fromB c.toNat (((c :: t).drop 1).take (5 - 1))).1, (c :: t).drop 5) else (P.noA, c :: t) from by
    have e0 : P.at_ (c :: t) 0 = c.toNat := rfl
    have es : (if 0 < (c :: t).length ∧ c.toNat = 6 then 17 else 5) = 5 := if_neg (fun h => h6 h.2)
    unfold P.tkA
    simp only [e0, es]
    rw [if_neg (Nat.not_lt.2 hl)])
  have h1 := Bx.fresh w 42 #[.int .u8 0, .int .u64 0, .int .u64 0]
  have hA := (Below.refl w.heap.size w).alloc (Nat.le_refl _) (.cells #[.int .u8 0, .int .u64 0, .int .u64 0] 42)
  have t0 : 0 < (c :: t).length := by simp
  have t6 : ((c.toNat : Int) == 6) = false := beq_eq_false_iff_ne.2 (by omega)
  have hp : 0 < (ByteArray.mk (c :: t).toArray).size := by show 0 < (c :: t).toArray.size; simp
  have hat := byte_at c t hp
  clear h6
  have hsub := str_sub (c :: t) 1 5
  have hd := str_dropS (c :: t) 5
  generalize P.tkA (c :: t) = res at *
  generalize ((c :: t).drop 1).take (5 - 1) = D at *
  generalize (c :: t).drop 5 = rest at *
  generalize P.fromB c.toNat D = r at *
  generalize c :: t = s at *
  go_enter Tryd.func58, Tryd.ntmps58
  go_upto_region 6 with fail
  generalize hW : w.alloc (.cells #[.int .u8 0, .int .u64 0, .int .u64 0] 42) = w1 at *
  clear hW
  refine wp_region_held_drew (S := fun wx => Below w1.heap.size w1 wx) (by kernel_rfl) (Below.refl _ _).drew (fun hHeld => ?_)
  refine wpAnyH_take (i := 0) (v := ?_) rfl (by kernel_rfl) (by kernel_rfl) (by kernel_rfl) (fun _ _ _ h => h) (Or.inl ⟨by rfl, ?_⟩) hHeld ?_
  rotate_left
  · intro wq hSw; go_simp; (try with_reducible rfl)
  simp only [Act.put, nrm]
  refine wpAnyH_take (i := 1) (v := ?_) rfl (by kernel_rfl) (by kernel_rfl) (by kernel_rfl) (fun _ _ _ h => h) (Or.inl ⟨by rfl, ?_⟩) hHeld ?_
  rotate_left
  · intro wq hSw; go_simp; (try with_reducible rfl)
  simp only [Act.put, nrm]
  refine wpAnyH_take (i := 2) (v := ?_) rfl (by kernel_rfl) (by kernel_rfl) (by kernel_rfl) (fun _ _ _ h => h) (Or.inl ⟨by rfl, ?_⟩) hHeld ?_
  rotate_left
  · intro wq hSw; go_simp; (try with_reducible rfl)
  simp only [Act.put, nrm]
  refine wpAnyH_take (i := 3) (v := ?_) rfl (by kernel_rfl) (by kernel_rfl) (by kernel_rfl) (fun _ _ _ h => h) (Or.inl ⟨by rfl, ?_⟩) hHeld ?_
  rotate_left
  · intro wq hSw; go_simp; (try with_reducible rfl)
  simp only [Act.put, nrm]
  refine wpAnyH_take (i := 4) (v := ?_) rfl (by kernel_rfl) (by kernel_rfl) (by kernel_rfl) (fun _ _ _ h => h) (Or.inl ⟨by rfl, ?_⟩) hHeld ?_
  rotate_left
  · intro wq hSw; go_simp; (try with_reducible rfl)
  simp only [Act.put, nrm]
  have hlt1 := h1.lt
  generalize hWd : w1.drew = v1 at *
  clear hWd
  refine wpAnyH_two (i := 5) (j := 10) (by kernel_rfl) rfl rfl (fun K hK => ?_) (fun K hK => ?_)
  · simp only [nrm]
    obtain ⟨cp, v2, hrun, hB2, hb2, hz2⟩ := conv_bytes (P := Tryd.prog) (w := v1) 9 85 5 D (by rfl) (by rfl) (by rfl)
    go_simp
    have hrow := rows_bytes hB2 hz2
    have hS2 := Chain.up hHeld hb2
    refine hK.out _ _ hS2 ?_
    clear hK K
    refine wpAnyH_two (i := 6) (j := 10) (by kernel_rfl) rfl rfl (fun K hK => ?_) (fun K hK => ?_)
    · simp only [nrm]
      go_simp
      (with_reducible refine (HF.out _ _ _ hrow).mono ?_)
      rintro e v3 ⟨rfl, hb3⟩
      have hS3 := Chain.up hS2 hb3
      refine hK.out _ _ hS3 ?_
      clear hK K
      refine wpAnyH_take (i := 7) (v := ?_) rfl (by kernel_rfl) (by kernel_rfl) (by kernel_rfl) (fun _ _ _ h => h) (Or.inl ⟨by rfl, ?_⟩) hS3 ?_
      rotate_left
      · intro wq hSw; go_simp; (try with_reducible rfl)
      simp only [Act.put, nrm]
      refine wpAnyH_take (i := 8) (v := ?_) rfl (by kernel_rfl) (by kernel_rfl) (by kernel_rfl) (fun _ _ _ h => h) (Or.inl ⟨by rfl, ?_⟩) hS3 ?_
      rotate_left
      · intro wq hSw; go_simp; (try with_reducible rfl)
      simp only [Act.put, nrm]
      refine wpAnyH_take (i := 9) (v := ?_) rfl (by kernel_rfl) (by kernel_rfl) (by kernel_rfl) (fun _ _ _ h => h) (Or.inl ⟨by rfl, ?_⟩) hS3 ?_
      rotate_left
      · intro wq hSw; go_simp; (try with_reducible rfl)
      simp only [Act.put, nrm]
      refine wpAnyH_one (i := 10) (by kernel_rfl) rfl (fun K hK => ?_)
      simp only [nrm]
      go_simp
      have hx5 := Bx.fresh v3 42 #[.int .u8 0, .int .u64 0, .int .u64 0]
      have hg5 := hS3.size
      have hS4 := hS3.alloc hS3.size (.cells #[.int .u8 0, .int .u64 0, .int .u64 0] 42)
      have hrow := RowsAt.up hrow ((Below.refl _ _).alloc (Nat.le_refl _) (.cells #[.int .u8 0, .int .u64 0, .int .u64 0] 42))
      refine hK.out _ _ hS4 ?_
      generalize hWn : v3.alloc (.cells #[.int .u8 0, .int .u64 0, .int .u64 0] 42) = v4 at *
      clear hWn
      clear hK K
      refine wpAnyH_one (i := 11) (by kernel_rfl) rfl (fun K hK => ?_)
      simp only [nrm]
      rw [if_pos (by rfl)]
      refine wp_stB _ _ _ (by rfl) hx5 _ _ (by rfl) (by rfl) 3 3 (by rfl) (by rfl) (by decide) infoRA (by rfl) (by rfl) ?_
      intro w5 hz' hb5
      have h5 : Bx w5 _ 42 #[.int .u8 (r.1.fam : Nat), V64 r.1.hi, V64 r.1.lo] := hz'
      have hS5 : Below w1.heap.size w1 w5 := hS4.trans (hb5.below hg5 hS4.size)
      refine hK.out _ _ hS5 ?_
      simp only [Act.put, nrm]
      clear hK K
      refine wpAnyH_take (i := 12) (v := ?_) rfl (by kernel_rfl) (by kernel_rfl) (by kernel_rfl) (fun _ _ _ h => h) (Or.inl ⟨by rfl, ?_⟩) hS5 ?_
      rotate_left
      · intro wq hSw; go_simp; (try with_reducible rfl)
      simp only [Act.put, nrm]
      refine wpAnyH_done (by kernel_rfl) ?_ _
      have h2 := h1.up hS5
      have hA2 := Chain.up hA hS5
      cases hok : r.2 with
      | false =>
        have Hf := Lib.hid (show res = (P.noA, s) from by rw [Hr.out, hok]; rfl)
        clear Hr
        go_wp2_with (refine wpList_stB (by rfl) _ _ _ (by rfl) h2 _ _ (by rfl) (by rfl) 3 3 (by rfl) (by rfl) (by decide) infoRA (by rfl) (by rfl) ?_; intro w9 hz' hb9; have h9 : Bx w9 w.heap.size 42 #[.int .u8 0, .int .u64 0, .int .u64 0] := hz'; clear hz')
        exact bodyPost_ret (results_box2 rfl (by rfl) (loadB h9 structRA infoRA rfl)) rfl ⟨by rw [Hf.out]; rfl, hA2.trans (hb9.below (Nat.le_refl _) hA2.size)⟩
      | true =>
        have Hf := Lib.hid (show res = (r.1, rest) from by rw [Hr.out, hok]; rfl)
        clear Hr
        go_upto_region 9 with fail
        refine wp_region_held_drew (S := fun wx => Bx wx _ 42 #[.int .u8 (r.1.fam : Nat), V64 r.1.hi, V64 r.1.lo] ∧ Below w.heap.size w wx) (by kernel_rfl) ⟨h5.drew, hA2.drew⟩ (fun hHeld2 => ?_)
        refine wpAnyH_take (i := 0) (v := ?_) rfl (by kernel_rfl) (by kernel_rfl) (by kernel_rfl) (fun _ _ _ h => h) (Or.inl ⟨by rfl, ?_⟩) hHeld2 ?_
        rotate_left
        · intro wq hSw; obtain ⟨q0, q1, q2, -, -, -⟩ := hSw.1.three; go_simp; (try with_reducible rfl)
        simp only [Act.put, nrm]
        refine wpAnyH_take (i := 1) (v := ?_) rfl (by kernel_rfl) (by kernel_rfl) (by kernel_rfl) (fun _ _ _ h => h) (Or.inl ⟨by rfl, ?_⟩) hHeld2 ?_
        rotate_left
        · intro wq hSw; go_simp; (try with_reducible rfl)
        simp only [Act.put, nrm]
        refine wpAnyH_take (i := 2) (v := ?_) rfl (by kernel_rfl) (by kernel_rfl) (by kernel_rfl) (fun _ _ _ h => h) (Or.inl ⟨by rfl, ?_⟩) hHeld2 ?_
        rotate_left
        · intro wq hSw; go_simp; (try with_reducible rfl)
        simp only [Act.put, nrm]
        refine wpAnyH_take (i := 3) (v := ?_) rfl (by kernel_rfl) (by kernel_rfl) (by kernel_rfl) (fun _ _ _ h => h) (Or.inl ⟨by rfl, ?_⟩) hHeld2 ?_
        rotate_left
        · intro wq hSw; go_simp; (try with_reducible rfl)
        simp only [Act.put, nrm]
        refine wpAnyH_one (i := 4) (by kernel_rfl) rfl (fun K hK => ?_)
        simp only [nrm]
        rw [if_pos (by rfl)]
        refine wp_stB _ _ _ (by rfl) h2.drew _ _ (by rfl) (by rfl) 3 3 (by rfl) (by rfl) (by decide) infoRA (by rfl) (by rfl) ?_
        intro w9 hz' hb9
        have h9 : Bx w9 w.heap.size 42 #[.int .u8 (r.1.fam : Nat), V64 r.1.hi, V64 r.1.lo] := hz'
        have hS9 := And.intro (hHeld2.1.but hb9 (by omega)) (hHeld2.2.trans (hb9.below (Nat.le_refl _) hHeld2.2.size))
        refine hK.out _ _ hS9 ?_
        simp only [Act.put, nrm]
        clear hK K
        refine wpAnyH_take (i := 5) (v := ?_) rfl (by kernel_rfl) (by kernel_rfl) (by kernel_rfl) (fun _ _ _ h => h) (Or.inl ⟨by rfl, ?_⟩) hS9 ?_
        rotate_left
        · intro wq hSw; go_simp; (try with_reducible rfl)
        simp only [Act.put, nrm]
        refine wpAnyH_done (by kernel_rfl) ?_ _
        go_wp2_with fail
        exact bodyPost_ret (results_box2 rfl (by rfl) (loadB h9 structRA infoRA rfl)) rfl ⟨by rw [Hf.out]; rfl, hS9.2⟩
    · simp only [nrm]
      go_simp
      have hx5 := Bx.fresh v2 42 #[.int .u8 0, .int .u64 0, .int .u64 0]
      have hg5 := hS2.size
      have hS3 := hS2.alloc hS2.size (.cells #[.int .u8 0, .int .u64 0, .int .u64 0] 42)
      have hrow := RowsAt.up hrow ((Below.refl _ _).alloc (Nat.le_refl _) (.cells #[.int .u8 0, .int .u64 0, .int .u64 0] 42))
      refine hK.out _ _ hS3 ?_
      generalize hWn : v2.alloc (.cells #[.int .u8 0, .int .u64 0, .int .u64 0] 42) = v3 at *
      clear hWn
      clear hK K
      refine wpAnyH_one (i := 6) (by kernel_rfl) rfl (fun K hK => ?_)
      simp only [nrm]
      go_simp
      (with_reducible refine (HF.out _ _ _ hrow).mono ?_)
      rintro e v4 ⟨rfl, hb3⟩
      have hS4 := Chain.up hS3 hb3
      have hx5 := hx5.up hb3
      refine hK.out _ _ hS4 ?_
      clear hK K
      refine wpAnyH_take (i := 7) (v := ?_) rfl (by kernel_rfl) (by kernel_rfl) (by kernel_rfl) (fun _ _ _ h => h) (Or.inl ⟨by rfl, ?_⟩) hS4 ?_
      rotate_left
      · intro wq hSw; go_simp; (try with_reducible rfl)
      simp only [Act.put, nrm]
      refine wpAnyH_take (i := 8) (v := ?_) rfl (by kernel_rfl) (by kernel_rfl) (by kernel_rfl) (fun _ _ _ h => h) (Or.inl ⟨by rfl, ?_⟩) hS4 ?_
      rotate_left
      · intro wq hSw; go_simp; (try with_reducible rfl)
      simp only [Act.put, nrm]
      refine wpAnyH_take (i := 9) (v := ?_) rfl (by kernel_rfl) (by kernel_rfl) (by kernel_rfl) (fun _ _ _ h => h) (Or.inl ⟨by rfl, ?_⟩) hS4 ?_
      rotate_left
      · intro wq hSw; go_simp; (try with_reducible rfl)
      simp only [Act.put, nrm]
      refine wpAnyH_one (i := 11) (by kernel_rfl) rfl (fun K hK => ?_)
      simp only [nrm]
      rw [if_pos (by rfl)]
      refine wp_stB _ _ _ (by rfl) hx5 _ _ (by rfl) (by rfl) 3 3 (by rfl) (by rfl) (by decide) infoRA (by rfl) (by rfl) ?_
      intro w5 hz' hb5
      have h5 : Bx w5 _ 42 #[.int .u8 (r.1.fam : Nat), V64 r.1.hi, V64 r.1.lo] := hz'
      have hS5 : Below w1.heap.size w1 w5 := hS4.trans (hb5.below hg5 hS4.size)
      refine hK.out _ _ hS5 ?_
      simp only [Act.put, nrm]
      clear hK K
      refine wpAnyH_take (i := 12) (v := ?_) rfl (by kernel_rfl) (by kernel_rfl) (by kernel_rfl) (fun _ _ _ h => h) (Or.inl ⟨by rfl, ?_⟩) hS5 ?_
      rotate_left
      · intro wq hSw; go_simp; (try with_reducible rfl)
      simp only [Act.put, nrm]
      refine wpAnyH_done (by kernel_rfl) ?_ _
      have h2 := h1.up hS5
      have hA2 := Chain.up hA hS5
      cases hok : r.2 with
      | false =>
        have Hf := Lib.hid (show res = (P.noA, s) from by rw [Hr.out, hok]; rfl)
        clear Hr
        go_wp2_with (refine wpList_stB (by rfl) _ _ _ (by rfl) h2 _ _ (by rfl) (by rfl) 3 3 (by rfl) (by rfl) (by decide) infoRA (by rfl) (by rfl) ?_; intro w9 hz' hb9; have h9 : Bx w9 w.heap.size 42 #[.int .u8 0, .int .u64 0, .int .u64 0] := hz'; clear hz')
        exact bodyPost_ret (results_box2 rfl (by rfl) (loadB h9 structRA infoRA rfl)) rfl ⟨by rw [Hf.out]; rfl, hA2.trans (hb9.below (Nat.le_refl _) hA2.size)⟩
      | true =>
        have Hf := Lib.hid (show res = (r.1, rest) from by rw [Hr.out, hok]; rfl)
        clear Hr
        go_upto_region 9 with fail
        refine wp_region_held_drew (S := fun wx => Bx wx _ 42 #[.int .u8 (r.1.fam : Nat), V64 r.1.hi, V64 r.1.lo] ∧ Below w.heap.size w wx) (by kernel_rfl) ⟨h5.drew, hA2.drew⟩ (fun hHeld2 => ?_)
        refine wpAnyH_take (i := 0) (v := ?_) rfl (by kernel_rfl) (by kernel_rfl) (by kernel_rfl) (fun _ _ _ h => h) (Or.inl ⟨by rfl, ?_⟩) hHeld2 ?_
        rotate_left
        · intro wq hSw; obtain ⟨q0, q1, q2, -, -, -⟩ := hSw.1.three; go_simp; (try with_reducible rfl)
        simp only [Act.put, nrm]
        refine wpAnyH_take (i := 1) (v := ?_) rfl (by kernel_rfl) (by kernel_rfl) (by kernel_rfl) (fun _ _ _ h => h) (Or.inl ⟨by rfl, ?_⟩) hHeld2 ?_
        rotate_left
        · intro wq hSw; go_simp; (try with_reducible rfl)
        simp only [Act.put, nrm]
        refine wpAnyH_take (i := 2) (v := ?_) rfl (by kernel_rfl) (by kernel_rfl) (by kernel_rfl) (fun _ _ _ h => h) (Or.inl ⟨by rfl, ?_⟩) hHeld2 ?_
        rotate_left
        · intro wq hSw; go_simp; (try with_reducible rfl)
        simp only [Act.put, nrm]
        refine wpAnyH_take (i := 3) (v := ?_) rfl (by kernel_rfl) (by kernel_rfl) (by kernel_rfl) (fun _ _ _ h => h) (Or.inl ⟨by rfl, ?_⟩) hHeld2 ?_
        rotate_left
        · intro wq hSw; go_simp; (try with_reducible rfl)
        simp only [Act.put, nrm]
        refine wpAnyH_one (i := 4) (by kernel_rfl) rfl (fun K hK => ?_)
        simp only [nrm]
        rw [if_pos (by rfl)]
        refine wp_stB _ _ _ (by rfl) h2.drew _ _ (by rfl) (by rfl) 3 3 (by rfl) (by rfl) (by decide) infoRA (by rfl) (by rfl) ?_
        intro w9 hz' hb9
        have h9 : Bx w9 w.heap.size 42 #[.int .u8 (r.1.fam : Nat), V64 r.1.hi, V64 r.1.lo] := hz'
        have hS9 := And.intro (hHeld2.1.but hb9 (by omega)) (hHeld2.2.trans (hb9.below (Nat.le_refl _) hHeld2.2.size))
        refine hK.out _ _ hS9 ?_
        simp only [Act.put, nrm]
        clear hK K
        refine wpAnyH_take (i := 5) (v := ?_) rfl (by kernel_rfl) (by kernel_rfl) (by kernel_rfl) (fun _ _ _ h => h) (Or.inl ⟨by rfl, ?_⟩) hS9 ?_
        rotate_left
        · intro wq hSw; go_simp; (try with_reducible rfl)
        simp only [Act.put, nrm]
        refine wpAnyH_done (by kernel_rfl) ?_ _
        go_wp2_with fail
        exact bodyPost_ret (results_box2 rfl (by rfl) (loadB h9 structRA infoRA rfl)) rfl ⟨by rw [Hf.out]; rfl, hS9.2⟩
  · simp only [nrm]
    go_simp
    have hx5 := Bx.fresh v1 42 #[.int .u8 0, .int .u64 0, .int .u64 0]
    have hg5 := hHeld.size
    have hS2 := hHeld.alloc hHeld.size (.cells #[.int .u8 0, .int .u64 0, .int .u64 0] 42)
    refine hK.out _ _ hS2 ?_
    generalize hWn : v1.alloc (.cells #[.int .u8 0, .int .u64 0, .int .u64 0] 42) = v2 at *
    clear hWn
    clear hK K
    refine wpAnyH_one (i := 5) (by kernel_rfl) rfl (fun K hK => ?_)
    simp only [nrm]
    obtain ⟨cp, v3, hrun, hB2, hb2, hz2⟩ := conv_bytes (P := Tryd.prog) (w := v2) 9 85 5 D (by rfl) (by rfl) (by rfl)
    go_simp
    have hrow := rows_bytes hB2 hz2
    have hS3 := Chain.up hS2 hb2
    have hx5 := hx5.up hb2
    refine hK.out _ _ hS3 ?_
    clear hK K
    refine wpAnyH_one (i := 6) (by kernel_rfl) rfl (fun K hK => ?_)
    simp only [nrm]
    go_simp
    (with_reducible refine (HF.out _ _ _ hrow).mono ?_)
    rintro e v4 ⟨rfl, hb3⟩
    have hS4 := Chain.up hS3 hb3
    have hx5 := hx5.up hb3
    refine hK.out _ _ hS4 ?_
    clear hK K
    refine wpAnyH_take (i := 7) (v := ?_) rfl (by kernel_rfl) (by kernel_rfl) (by kernel_rfl) (fun _ _ _ h => h) (Or.inl ⟨by rfl, ?_⟩) hS4 ?_
    rotate_left
    · intro wq hSw; go_simp; (try with_reducible rfl)
    simp only [Act.put, nrm]
    refine wpAnyH_take (i := 8) (v := ?_) rfl (by kernel_rfl) (by kernel_rfl) (by kernel_rfl) (fun _ _ _ h => h) (Or.inl ⟨by rfl, ?_⟩) hS4 ?_
    rotate_left
    · intro wq hSw; go_simp; (try with_reducible rfl)
    simp only [Act.put, nrm]
    refine wpAnyH_take (i := 9) (v := ?_) rfl (by kernel_rfl) (by kernel_rfl) (by kernel_rfl) (fun _ _ _ h => h) (Or.inl ⟨by rfl, ?_⟩) hS4 ?_
    rotate_left
    · intro wq hSw; go_simp; (try with_reducible rfl)
    simp only [Act.put, nrm]
    refine wpAnyH_one (i := 11) (by kernel_rfl) rfl (fun K hK => ?_)
    simp only [nrm]
    rw [if_pos (by rfl)]
    refine wp_stB _ _ _ (by rfl) hx5 _ _ (by rfl) (by rfl) 3 3 (by rfl) (by rfl) (by decide) infoRA (by rfl) (by rfl) ?_
    intro w5 hz' hb5
    have h5 : Bx w5 _ 42 #[.int .u8 (r.1.fam : Nat), V64 r.1.hi, V64 r.1.lo] := hz'
    have hS5 : Below w1.heap.size w1 w5 := hS4.trans (hb5.below hg5 hS4.size)
    refine hK.out _ _ hS5 ?_
    simp only [Act.put, nrm]
    clear hK K
    refine wpAnyH_take (i := 12) (v := ?_) rfl (by kernel_rfl) (by kernel_rfl) (by kernel_rfl) (fun _ _ _ h => h) (Or.inl ⟨by rfl, ?_⟩) hS5 ?_
    rotate_left
    · intro wq hSw; go_simp; (try with_reducible rfl)
    simp only [Act.put, nrm]
    refine wpAnyH_done (by kernel_rfl) ?_ _
    have h2 := h1.up hS5
    have hA2 := Chain.up hA hS5
    cases hok : r.2 with
    | false =>
      have Hf := Lib.hid (show res = (P.noA, s) from by rw [Hr.out, hok]; rfl)
      clear Hr
      go_wp2_with (refine wpList_stB (by rfl) _ _ _ (by rfl) h2 _ _ (by rfl) (by rfl) 3 3 (by rfl) (by rfl) (by decide) infoRA (by rfl) (by rfl) ?_; intro w9 hz' hb9; have h9 : Bx w9 w.heap.size 42 #[.int .u8 0, .int .u64 0, .int .u64 0] := hz'; clear hz')
      exact bodyPost_ret (results_box2 rfl (by rfl) (loadB h9 structRA infoRA rfl)) rfl ⟨by rw [Hf.out]; rfl, hA2.trans (hb9.below (Nat.le_refl _) hA2.size)⟩
    | true =>
      have Hf := Lib.hid (show res = (r.1, rest) from by rw [Hr.out, hok]; rfl)
      clear Hr
      go_upto_region 9 with fail
      refine wp_region_held_drew (S := fun wx => Bx wx _ 42 #[.int .u8 (r.1.fam : Nat), V64 r.1.hi, V64 r.1.lo] ∧ Below w.heap.size w wx) (by kernel_rfl) ⟨h5.drew, hA2.drew⟩ (fun hHeld2 => ?_)
      refine wpAnyH_take (i := 0) (v := ?_) rfl (by kernel_rfl) (by kernel_rfl) (by kernel_rfl) (fun _ _ _ h => h) (Or.inl ⟨by rfl, ?_⟩) hHeld2 ?_
      rotate_left
      · intro wq hSw; obtain ⟨q0, q1, q2, -, -, -⟩ := hSw.1.three; go_simp; (try with_reducible rfl)
      simp only [Act.put, nrm]
      refine wpAnyH_take (i := 1) (v := ?_) rfl (by kernel_rfl) (by kernel_rfl) (by kernel_rfl) (fun _ _ _ h => h) (Or.inl ⟨by rfl, ?_⟩) hHeld2 ?_
      rotate_left
      · intro wq hSw; go_simp; (try with_reducible rfl)
      simp only [Act.put, nrm]
      refine wpAnyH_take (i := 2) (v := ?_) rfl (by kernel_rfl) (by kernel_rfl) (by kernel_rfl) (fun _ _ _ h => h) (Or.inl ⟨by rfl, ?_⟩) hHeld2 ?_
      rotate_left
      · intro wq hSw; go_simp; (try with_reducible rfl)
      simp only [Act.put, nrm]
      refine wpAnyH_take (i := 3) (v := ?_) rfl (by kernel_rfl) (by kernel_rfl) (by kernel_rfl) (fun _ _ _ h => h) (Or.inl ⟨by rfl, ?_⟩) hHeld2 ?_
      rotate_left
      · intro wq hSw; go_simp; (try with_reducible rfl)
      simp only [Act.put, nrm]
      refine wpAnyH_one (i := 4) (by kernel_rfl) rfl (fun K hK => ?_)
      simp only [nrm]
      rw [if_pos (by rfl)]
      refine wp_stB _ _ _ (by rfl) h2.drew _ _ (by rfl) (by rfl) 3 3 (by rfl) (by rfl) (by decide) infoRA (by rfl) (by rfl) ?_
      intro w9 hz' hb9
      have h9 : Bx w9 w.heap.size 42 #[.int .u8 (r.1.fam : Nat), V64 r.1.hi, V64 r.1.lo] := hz'
      have hS9 := And.intro (hHeld2.1.but hb9 (by omega)) (hHeld2.2.trans (hb9.below (Nat.le_refl _) hHeld2.2.size))
      refine hK.out _ _ hS9 ?_
      simp only [Act.put, nrm]
      clear hK K
      refine wpAnyH_take (i := 5) (v := ?_) rfl (by kernel_rfl) (by kernel_rfl) (by kernel_rfl) (fun _ _ _ h => h) (Or.inl ⟨by rfl, ?_⟩) hS9 ?_
      rotate_left
      · intro wq hSw; go_simp; (try with_reducible rfl)
      simp only [Act.put, nrm]
      refine wpAnyH_done (by kernel_rfl) ?_ _
      go_wp2_with fail
      exact bodyPost_ret (results_box2 rfl (by rfl) (loadB h9 structRA infoRA rfl)) rfl ⟨by rw [Hf.out]; rfl, hS9.2⟩
theorem tkA_any (s : List UInt8) (hs : s.length ≤ 1000000000) (w : World) : Calls Tryd.prog 58 #[S s] w fun e w' => e = .returned (.tuple #[adV (P.tkA s).1, S (P.tkA s).2]) ∧ Below w.heap.size w w' := by
  cases s with
  | nil => exact tkA_nil w
  | cons c t =>
    by_cases h6 : c.toNat = 6
    · by_cases hl : (c :: t).length < 17
      · exact tkA_six_short c t h6 hl w
      · exact tkA_six c t hs h6 (by omega) w
    · by_cases hl : (c :: t).length < 5
      · exact tkA_four_short c t h6 hl w
      · exact tkA_four c t hs h6 (by omega) w
theorem Bx.alloc {w : World} {g : Nat} {t : TypeId} {cs : Array Value} (h : Bx w g t cs) (o : Obj) : Bx (w.alloc o) g t cs := h.up ((Below.refl _ _).alloc (Nat.le_refl _) o)
set_option maxRecDepth 100000 in
set_option maxHeartbeats 8000000 in
theorem tkX_any (s : List UInt8) (hs : s.length ≤ 1000000000) (w : World) : Calls Tryd.prog 57 #[S s] w fun e w' => e = .returned (.tuple #[pxV (P.tkX s).1, S (P.tkX s).2]) ∧ Below w.heap.size w w' := by
  have h1 := Bx.fresh w 44 #[.int .u8 0, .int .u64 0, .int .u64 0, .int .i64 0]
  have hA := (Below.refl w.heap.size w).alloc (Nat.le_refl _) (.cells #[.int .u8 0, .int .u64 0, .int .u64 0, .int .i64 0] 44)
  have HT := Lib.hid (fun wx => tkA_any s hs wx)
  have Hr := Lib.hid (show P.tkX s = (⟨(P.tkA s).1, ((P.tkC (P.tkA s).2).1 : Int)⟩, (P.tkC (P.tkA s).2).2) from rfl)
  generalize P.tkX s = res at *
  generalize P.tkA s = r at *
  obtain ⟨ra, rest⟩ := r
  cases rest with
  | nil =>
    have Hf := Lib.hid (show res = (⟨ra, 0⟩, []) from by rw [Hr.out]; rfl)
    clear Hr
    go_enter Tryd.func57, Tryd.ntmps57
    go_wp2_with (first
      | (go_at_call 58; (with_reducible refine (HT.out _).mono ?_); rintro e w1 ⟨rfl, hb1⟩; have h2 := h1.up hb1; have hA1 := Chain.up hA hb1; have h4 := Bx.fresh w1 42 #[.int .u8 0, .int .u64 0, .int .u64 0]; have hA4 := hA1.alloc hA1.size (.cells #[.int .u8 0, .int .u64 0, .int .u64 0] 42); have h2' := h2.alloc (.cells #[.int .u8 0, .int .u64 0, .int .u64 0] 42); have hlt2 := h2.lt; clear h1 hA hb1 h2 hA1)
      | (refine wpList_stB (by rfl) _ _ _ (by rfl) h4 _ _ (by rfl) (by rfl) 3 3 (by rfl) (by rfl) (by decide) infoRA (by rfl) (by rfl) ?_; intro w5 hz' hb5; have h5 : Bx w5 w1.heap.size 42 #[.int .u8 (ra.fam : Nat), V64 ra.hi, V64 ra.lo] := hz'; clear hz'; have h25 := h2'.but hb5 (by omega); have hA5 := hA4.trans (hb5.below (by have := hA4.size; simp only [World.size_alloc] at this; omega) hA4.size); clear h4 h2' hA4 hb5)
      | (refine wpList_ldB (by rfl) _ _ (by rfl) h5 (by rfl) structRA 3 infoRA (by rfl) ?_)
      | (refine wpList_stB (by rfl) _ _ _ (by rfl) h25 _ _ (by rfl) (by rfl) 4 4 (by rfl) (by rfl) (by decide) infoRX (by rfl) (by rfl) ?_; intro w9 hz' hb9; have h9 : Bx w9 w.heap.size 44 #[.int .u8 (ra.fam : Nat), V64 ra.hi, V64 ra.lo, .int .i64 0] := hz'; clear hz'))
    exact bodyPost_ret (results_box2 rfl (by rfl) (loadB h9 structRX infoRX rfl)) rfl ⟨by rw [Hf.out]; rfl, hA5.trans (hb9.below (Nat.le_refl _) hA5.size)⟩
  | cons c t =>
    have Hf := Lib.hid (show res = (⟨ra, (c.toNat : Int)⟩, t) from by rw [Hr.out]; rfl)
    clear Hr
    have t0 : (((((c :: t).length) : Nat) : Int) == 0) = false := beq_eq_false_iff_ne.2 (by simp; omega)
    have hl1 : 1 ≤ (c :: t).length := by simp
    have hl0 : 0 < (c :: t).length := by simp
    have hl1i : (1 : Int) ≤ (((c :: t).length : Nat) : Int) := by omega
    have hd := str_dropS (c :: t) 1
    rw [show (c :: t).drop 1 = t from rfl] at hd
    have hp : 0 < (ByteArray.mk (c :: t).toArray).size := by show 0 < (c :: t).toArray.size; simp
    have hat := byte_at c t hp
    have hcl := c.toNat_lt
    have hcw : IntKind.i64.wrap ((c.toNat : Nat) : Int) = ((c.toNat : Nat) : Int) := wrap_mid (by omega) (by omega)
    simp only at HT
    generalize c :: t = q at *
    go_enter Tryd.func57, Tryd.ntmps57
    go_upto_region 4 with (first
      | (go_at_call 58; (with_reducible refine (HT.out _).mono ?_); rintro e w1 ⟨rfl, hb1⟩; have h2 := h1.up hb1; have hA1 := Chain.up hA hb1; have h4 := Bx.fresh w1 42 #[.int .u8 0, .int .u64 0, .int .u64 0]; have hA4 := hA1.alloc hA1.size (.cells #[.int .u8 0, .int .u64 0, .int .u64 0] 42); have h2' := h2.alloc (.cells #[.int .u8 0, .int .u64 0, .int .u64 0] 42); have hlt2 := h2.lt; clear h1 hA hb1 h2 hA1)
      | (refine wpList_stB (by rfl) _ _ _ (by rfl) h4 _ _ (by rfl) (by rfl) 3 3 (by rfl) (by rfl) (by decide) infoRA (by rfl) (by rfl) ?_; intro w5 hz' hb5; have h5 : Bx w5 w1.heap.size 42 #[.int .u8 (ra.fam : Nat), V64 ra.hi, V64 ra.lo] := hz'; clear hz'; have h25 := h2'.but hb5 (by omega); have hA5 := hA4.trans (hb5.below (by have := hA4.size; simp only [World.size_alloc] at this; omega) hA4.size); clear h4 h2' hA4 hb5))
    refine wp_region_held_drew (S := fun wx => Bx wx w1.heap.size 42 #[.int .u8 (ra.fam : Nat), V64 ra.hi, V64 ra.lo] ∧ Below w.heap.size w wx) (by kernel_rfl) ⟨h5.drew, hA5.drew⟩ (fun hHeld => ?_)
    refine wpAnyH_take (i := 0) (v := ?_) rfl (by kernel_rfl) (by kernel_rfl) (by kernel_rfl) (fun _ _ _ h => h) (Or.inl ⟨by rfl, ?_⟩) hHeld ?_
    rotate_left
    · intro wq hSw; obtain ⟨q0, q1, q2, -, -, -⟩ := hSw.1.three; go_simp; (try with_reducible rfl)
    simp only [Act.put, nrm]
    refine wpAnyH_take (i := 1) (v := ?_) rfl (by kernel_rfl) (by kernel_rfl) (by kernel_rfl) (fun _ _ _ h => h) (Or.inl ⟨by rfl, ?_⟩) hHeld ?_
    rotate_left
    · intro wq hSw; go_simp; (try with_reducible rfl)
    simp only [Act.put, nrm]
    refine wpAnyH_take (i := 2) (v := ?_) rfl (by kernel_rfl) (by kernel_rfl) (by kernel_rfl) (fun _ _ _ h => h) (Or.inl ⟨by rfl, ?_⟩) hHeld ?_
    rotate_left
    · intro wq hSw; go_simp; (try with_reducible rfl)
    simp only [Act.put, nrm]
    refine wpAnyH_take (i := 3) (v := ?_) rfl (by kernel_rfl) (by kernel_rfl) (by kernel_rfl) (fun _ _ _ h => h) (Or.inl ⟨by rfl, ?_⟩) hHeld ?_
    rotate_left
    · intro wq hSw; go_simp; (try with_reducible rfl)
    simp only [Act.put, nrm]
    refine wpAnyH_take (i := 4) (v := ?_) rfl (by kernel_rfl) (by kernel_rfl) (by kernel_rfl) (fun _ _ _ h => h) (Or.inl ⟨by rfl, ?_⟩) hHeld ?_
    rotate_left
    · intro wq hSw; go_simp; (try with_reducible rfl)
    simp only [Act.put, nrm]
    refine wpAnyH_take (i := 5) (v := ?_) rfl (by kernel_rfl) (by kernel_rfl) (by kernel_rfl) (fun _ _ _ h => h) (Or.inl ⟨by rfl, ?_⟩) hHeld ?_
    rotate_left
    · intro wq hSw; go_simp; (try with_reducible rfl)
    simp only [Act.put, nrm]
    refine wpAnyH_take (i := 6) (v := ?_) rfl (by kernel_rfl) (by kernel_rfl) (by kernel_rfl) (fun _ _ _ h => h) (Or.inl ⟨by rfl, ?_⟩) hHeld ?_
    rotate_left
    · intro wq hSw; go_simp; (try with_reducible rfl)
    simp only [Act.put, nrm]
    refine wpAnyH_one (i := 7) (by kernel_rfl) rfl (fun K hK => ?_)
    simp only [nrm]
    rw [if_pos (by rfl)]
    refine wp_stB _ _ _ (by rfl) h25.drew _ _ (by rfl) (by rfl) 4 4 (by rfl) (by rfl) (by decide) infoRX (by rfl) (by rfl) ?_
    intro w9 hz' hb9
    have h9 : Bx w9 w.heap.size 44 #[.int .u8 (ra.fam : Nat), V64 ra.hi, V64 ra.lo, .int .i64 (c.toNat : Nat)] := hz'
    have hS9 : Bx w9 w1.heap.size 42 #[.int .u8 (ra.fam : Nat), V64 ra.hi, V64 ra.lo] ∧ Below w.heap.size w w9 := ⟨hHeld.1.but hb9 (by omega), hHeld.2.trans (hb9.below (Nat.le_refl _) hHeld.2.size)⟩
    refine hK.out _ _ hS9 ?_
    simp only [Act.put, nrm]
    clear hK K
    refine wpAnyH_take (i := 8) (v := ?_) rfl (by kernel_rfl) (by kernel_rfl) (by kernel_rfl) (fun _ _ _ h => h) (Or.inl ⟨by rfl, ?_⟩) hS9 ?_
    rotate_left
    · intro wq hSw; go_simp; (try with_reducible rfl)
    simp only [Act.put, nrm]
    refine wpAnyH_done (by kernel_rfl) ?_ _
    go_wp2_with fail
    exact bodyPost_ret (results_box2 rfl (by rfl) (loadB h9 structRX infoRX rfl)) rfl ⟨by rw [Hf.out]; rfl, hS9.2⟩
end Go.Proofs.YtcobfoiajdbahaaDoor
