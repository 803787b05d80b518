/- The walk of the document's address of bytes. -/
import Derived.Test.YtcobfoiajdbahaaDoorWQRefM
import Derived.Test.YtcobfoiajdbahaaDoorPQ
import Derived.Laws.Bits64
namespace Go.Proofs.YtcobfoiajdbahaaDoor
open Go.RowKit
set_option linter.unusedVariables false
set_option linter.unusedSimpArgs false
def frR (g y cv : Nat) (i : Nat) (v : Value) (w : World) : Prop :=
  match i with
  | 1 => v = V64 y
  | 2 => v = .int .u64 (IntKind.u64.wrap (256 * (y : Int)))
  | 8 => v = .int .u64 (IntKind.u64.wrap (IntKind.u64.wrap (256 * (y : Int)) + IntKind.u64.wrap (cv : Int)))
  | 9 => v = .pointer (some ⟨g, 2, none⟩)
  | _ => True
set_option maxRecDepth 100000 in
set_option maxHeartbeats 8000000 in
theorem refFromB4 (s : List UInt8) (hl : s.length = 4) (a : Option Addr) (c : Nat) (w : World) (hrow : RowsAt 1 byQ w a s) : Calls Tryd.prog 86 #[.int .u8 4, .slice a 4 c] w fun e w' => e = .returned (.tuple #[adV (P.fromB 4 s).1, .bool (P.fromB 4 s).2]) ∧ Below w.heap.size w w' := by
  obtain ⟨h4, h6, hA⟩ := two_bx w #[.int .u8 0, .int .u64 0, .int .u64 0] #[.int .u8 0, .int .u64 0, .int .u64 0] 42 42
  have Hres := Lib.hid (P.from_four s hl)
  have HN := Lib.hid (fun k (hk : k < s.length) => P.half_next s k hk (by omega))
  have Hl := Lib.hid hl
  clear hl
  generalize P.fromB 4 s = res at *
  go_enter Tryd.func86, Tryd.ntmps86
  go_wp2_with (refine wpList_stB (by rfl) _ _ _ (by rfl) h6 _ _ (by rfl) (by rfl) 3 3 (by rfl) (by rfl) (by decide) infoRA (by rfl) (by rfl) ?_; intro w3 hz' hb3; have h63 : Bx w3 (w.heap.size + 1) 42 #[.int .u8 4, .int .u64 0, .int .u64 0] := hz'; clear hz'; have h43 := h4.but hb3 (by omega); have hA3 := hA.trans (hb3.below (Nat.le_succ _) hA.size); clear h4 h6 hA hb3)
  go_loopw [7] (fun i wr => ∃ k : Nat, k ≤ 4 ∧ i = .int .i64 ((k : Nat) : Int) ∧ Bx wr (w.heap.size + 1) 42 #[.int .u8 4, V64 (P.hiV (P.val (s.take k))), V64 (P.loV (P.val (s.take k)))] ∧ Bx wr w.heap.size 42 #[.int .u8 0, .int .u64 0, .int .u64 0] ∧ Below w.heap.size w wr) (fun i _ => 4 - (intOf i).toNat)
  case atStart => exact ⟨0, by omega, rfl, by rw [List.take_zero, P.hi_nil.1, P.hi_nil.2]; exact h63, h43, hA3⟩
  case round =>
    clear h63 h43 hA3
    obtain ⟨k, hk, rfl, h6, h4, hA⟩ := hrel
    by_cases hkl : k < 4
    · obtain ⟨n1, n2, n3, n4⟩ := HN.out k (by have := Hl.out; omega)
      obtain ⟨b, of, rfl, hlt, hc⟩ := hrow k (by have := Hl.out; omega)
      have HC := Lib.hid (fun wx (hx : Below w.heap.size w wx) => show wx.cell? ⟨b, of + k, none⟩ = some (.int .u8 ((s[k]'(by have := Hl.out; omega)).toNat : Int)) from by
        have h := (hx.cell (p := ⟨b, of + k, none⟩) hlt)
        rw [h]
        have h2 := hc 0 (by omega)
        simp only [Nat.mul_one, Nat.add_zero] at h2
        rw [h2]
        rfl)
      have hcv := (s[k]'(by have := Hl.out; omega)).toNat_lt
      have N1 := Lib.hid n1
      have N2 := Lib.hid n2
      clear n1 n2 hc hrow
      generalize P.hiV (P.val (s.take k)) = x at *
      generalize P.loV (P.val (s.take k)) = y at *
      generalize (s[k]'(by have := Hl.out; omega)).toNat = cv at *
      have e1 : IntKind.u64.wrap (256 * (x : Int)) = ((256 * x : Nat) : Int) := by rw [IntWalk.u64_in _ (by omega)]; omega
      have e2 : IntKind.u64.wrap (((256 * x : Nat) : Int) + (y : Int) / 72057594037927936) = ((256 * x + y / 72057594037927936 : Nat) : Int) := by rw [IntWalk.u64_in _ (by omega)]; omega
      have hlt6 := h6.lt
      obtain ⟨c0, c1, c2, -, -, -⟩ := h6.three
      have Q1 := Lib.hid (show (256 * (x : Int) + (y : Int) / 72057594037927936) = ((256 * x + y / 72057594037927936 : Nat) : Int) from by omega)
      have Q2 := Lib.hid (show IntKind.u64.wrap (IntKind.u64.wrap (256 * (y : Int)) + IntKind.u64.wrap (cv : Int)) = (((256 * y + cv) % 18446744073709551616 : Nat) : Int) from by rw [IntKind.wrap_u64, IntKind.wrap_u64, IntKind.wrap_u64]; omega)
      clear e1 e2
      go_upto_region 8 with (refine wpList_stV (by rfl) _ _ _ (by rfl) h6 _ (V64 (256 * x + y / 72057594037927936)) (by rfl) (by exact congrArg (Value.int .u64) Q1.out) (by rfl) (by rfl) 3 (by rfl) (by decide) infoU64 (by rfl) ?_; intro w4 hz' hb4; have h64 : Bx w4 (w.heap.size + 1) 42 #[.int .u8 4, V64 (256 * x + y / 72057594037927936), V64 y] := hz'; clear hz'; have h44 := h4.but hb4 (by omega); have hA4 := hA.trans (hb4.below (Nat.le_succ _) hA.size); clear h4 h6 hA hb4 c0 c1 c2)
      generalize decide (((k : Nat) : Int) < 4) = bk
      have hst : ∀ wx, Below w4.heap.size w4 wx → Bx wx w.heap.size 42 #[.int .u8 0, .int .u64 0, .int .u64 0] ∧ Below w.heap.size w wx := fun wx hx => ⟨h44.up hx, Chain.up hA4 hx⟩
      refine wp_region_held_drew (S := fun wx => Bx wx w.heap.size 42 #[.int .u8 0, .int .u64 0, .int .u64 0] ∧ Below w.heap.size w wx) (by kernel_rfl) ⟨h44.drew, hA4.drew⟩ (fun hHeld => ?_)
      refine wpAnyH_take (i := 0) (v := ?_) rfl (by kernel_rfl) (by kernel_rfl) (by kernel_rfl) (fun _ _ _ h => h) (Or.inl ⟨by rfl, ?_⟩) hHeld ?_
      rotate_left
      · intro wq hSw; go_simp; (try with_reducible rfl)
      simp only [Act.put, nrm]
      refine wpAnyH_take (i := 3) (v := ?_) rfl (by kernel_rfl) (by kernel_rfl) (by kernel_rfl) (fun _ _ _ h => h) (Or.inl ⟨by rfl, ?_⟩) hHeld ?_
      rotate_left
      · intro wq hSw; go_simp; (try with_reducible rfl)
      simp only [Act.put, nrm]
      refine wpAnyH_take (i := 4) (v := ?_) rfl (by kernel_rfl) (by kernel_rfl) (by kernel_rfl) (fun _ _ _ h => h) (Or.inl ⟨by rfl, ?_⟩) hHeld ?_
      rotate_left
      · intro wq hSw; go_simp; (try with_reducible rfl)
      simp only [Act.put, nrm]
      refine wpAnyH_take (i := 5) (v := ?_) rfl (by kernel_rfl) (by kernel_rfl) (by kernel_rfl) (fun _ _ _ h => h) (Or.inl ⟨by rfl, ?_⟩) hHeld ?_
      rotate_left
      · intro wq hSw; go_simp; (try with_reducible rfl)
      simp only [Act.put, nrm]
      refine wpAnyH_take (i := 6) (v := ?_) rfl (by kernel_rfl) (by kernel_rfl) (by kernel_rfl) (fun _ _ _ h => h) (Or.inl ⟨by rfl, ?_⟩) hHeld ?_
      rotate_left
      · intro wq hSw; have qc := HC.out _ hSw.2; go_simp; (try with_reducible rfl)
      simp only [Act.put, nrm]
      refine wpAnyH_take (i := 7) (v := ?_) rfl (by kernel_rfl) (by kernel_rfl) (by kernel_rfl) (fun _ _ _ h => h) (Or.inl ⟨by rfl, ?_⟩) hHeld ?_
      rotate_left
      · intro wq hSw; go_simp; (try with_reducible rfl)
      simp only [Act.put, nrm]
      refine wpAnyH_by2 (frR (w.heap.size + 1) y cv) (fun wx => Below w4.heap.size w4 wx) (fun wx wy => Below wx.heap.size wx wy) [(1, some 44), (2, some 45), (8, some 51), (9, some 52)] 1 hst rfl (by kernel_rfl) (by kernel_rfl) (by kernel_rfl) (by kernel_rfl) (by kernel_rfl) (by kernel_rfl) (by kernel_rfl) (fun i v wa wb h _ => h) (Below.refl _ _).drew ?_ ?_
      · skip
        refine StepsI.skip (by kernel_rfl) ?_
        refine StepsI.cons (fun vals wx hS hd K hK => ?_) ?_
        · simp only [fillA, Act.put, List.setIfInBounds_toArray, List.set_cons_zero, List.set_cons_succ] at hK ⊢
          obtain ⟨q0, q1, q2, -, -, -⟩ := (h64.up hS).three
          go_simp
          exact hK.out _ _ rfl hS (Below.refl _ _)
        refine StepsI.cons (fun vals wx hS hd K hK => ?_) ?_
        · simp only [fillA, Act.put, List.setIfInBounds_toArray, List.set_cons_zero, List.set_cons_succ] at hK ⊢
          have p1 : vals 1 = V64 y := hd 1 (some 44) (by decide) (by kernel_rfl)
          simp only [p1] at hK ⊢
          go_simp
          exact hK.out _ _ rfl hS (Below.refl _ _)
        refine StepsI.skip (by kernel_rfl) ?_
        refine StepsI.skip (by kernel_rfl) ?_
        refine StepsI.skip (by kernel_rfl) ?_
        refine StepsI.skip (by kernel_rfl) ?_
        refine StepsI.skip (by kernel_rfl) ?_
        refine StepsI.cons (fun vals wx hS hd K hK => ?_) ?_
        · simp only [fillA, Act.put, List.setIfInBounds_toArray, List.set_cons_zero, List.set_cons_succ] at hK ⊢
          have p2 : vals 2 = .int .u64 (IntKind.u64.wrap (256 * (y : Int))) := hd 2 (some 45) (by decide) (by kernel_rfl)
          simp only [p2] at hK ⊢
          go_simp
          exact hK.out _ _ rfl hS (Below.refl _ _)
        refine StepsI.cons (fun vals wx hS hd K hK => ?_) ?_
        · simp only [fillA, Act.put, List.setIfInBounds_toArray, List.set_cons_zero, List.set_cons_succ] at hK ⊢
          go_simp
          exact hK.out _ _ rfl hS (Below.refl _ _)
        refine StepsI.skip (by kernel_rfl) ?_
        exact StepsI.nil
      · intro vals wx hS hR
        have p8 : vals 8 = .int .u64 (IntKind.u64.wrap (IntKind.u64.wrap (256 * (y : Int)) + IntKind.u64.wrap (cv : Int))) := hR (8, some 51) (by decide)
        have p9 : vals 9 = .pointer (some ⟨w.heap.size + 1, 2, none⟩) := hR (9, some 52) (by decide)
        simp only [fillA, Act.put, List.setIfInBounds_toArray, List.set_cons_zero, List.set_cons_succ, p8, p9]
        clear hR p8 p9
        generalize vals 1 = x1
        generalize vals 2 = x2
        clear vals
        have h6x := h64.up hS
        have hSx := hst _ hS
        refine wpAnyH_one (i := 10) (by kernel_rfl) rfl (fun K hK => ?_)
        simp only [nrm]
        rw [if_pos (by rfl)]
        refine wp_stV _ _ _ (by rfl) h6x 2 (V64 ((256 * y + cv) % 18446744073709551616)) (by rfl) (by exact congrArg (Value.int .u64) Q2.out) (by rfl) (by rfl) 3 (by rfl) (by decide) infoU64 (by rfl) ?_
        intro w5 hz' hb5
        have h65 : Bx w5 (w.heap.size + 1) 42 #[.int .u8 4, V64 (256 * x + y / 72057594037927936), V64 ((256 * y + cv) % 18446744073709551616)] := hz'
        have h45 := (hSx.1).but hb5 (by omega)
        have hA5 := hSx.2.trans (hb5.below (Nat.le_succ _) hSx.2.size)
        refine hK.out _ _ ⟨h45, hA5⟩ ?_
        simp only [Act.put, nrm]
        clear hK K
        refine wpAnyH_done (by kernel_rfl) ?_ _
        go_wp2_with fail
        go_roundw
        case rel => exact ⟨k + 1, by omega, by go_num, by rw [N1.out, N2.out]; exact h65, h45, hA5⟩
        case measure => simp [intOf]; omega
    · have hke : k = 4 := by omega
      have Hs := Lib.hid (show s.take k = s from List.take_of_length_le (by have := Hl.out; omega))
      rw [Hs.out] at h6
      clear hke hk
      obtain ⟨c0, c1, c2, -, -, -⟩ := h6.three
      go_wp2_with (refine wpList_stB (by rfl) _ _ _ (by rfl) h4 _ _ (by rfl) (by rfl) 3 3 (by rfl) (by rfl) (by decide) infoRA (by rfl) (by rfl) ?_; intro w9 hz' hb9; have h9 : Bx w9 w.heap.size 42 #[.int .u8 4, V64 (P.hiV (P.val s)), V64 (P.loV (P.val s))] := hz'; clear hz')
      exact bodyPost_ret (results_box2 rfl (by rfl) (loadB h9 structRA infoRA rfl)) rfl ⟨by rw [Hres.out]; rfl, hA.trans (hb9.below (Nat.le_refl _) hA.size)⟩
set_option maxRecDepth 100000 in
set_option maxHeartbeats 8000000 in
theorem refFromB6 (s : List UInt8) (hl : s.length = 16) (a : Option Addr) (c : Nat) (w : World) (hrow : RowsAt 1 byQ w a s) : Calls Tryd.prog 86 #[.int .u8 6, .slice a 16 c] w fun e w' => e = .returned (.tuple #[adV (P.fromB 6 s).1, .bool (P.fromB 6 s).2]) ∧ Below w.heap.size w w' := by
  obtain ⟨h4, h6, hA⟩ := two_bx w #[.int .u8 0, .int .u64 0, .int .u64 0] #[.int .u8 0, .int .u64 0, .int .u64 0] 42 42
  have Hres := Lib.hid (P.from_six s hl)
  have HN := Lib.hid (fun k (hk : k < s.length) => P.half_next s k hk (by omega))
  have Hl := Lib.hid hl
  clear hl
  generalize P.fromB 6 s = res at *
  go_enter Tryd.func86, Tryd.ntmps86
  go_wp2_with (refine wpList_stB (by rfl) _ _ _ (by rfl) h6 _ _ (by rfl) (by rfl) 3 3 (by rfl) (by rfl) (by decide) infoRA (by rfl) (by rfl) ?_; intro w3 hz' hb3; have h63 : Bx w3 (w.heap.size + 1) 42 #[.int .u8 6, .int .u64 0, .int .u64 0] := hz'; clear hz'; have h43 := h4.but hb3 (by omega); have hA3 := hA.trans (hb3.below (Nat.le_succ _) hA.size); clear h4 h6 hA hb3)
  go_loopw [7] (fun i wr => ∃ k : Nat, k ≤ 16 ∧ i = .int .i64 ((k : Nat) : Int) ∧ Bx wr (w.heap.size + 1) 42 #[.int .u8 6, V64 (P.hiV (P.val (s.take k))), V64 (P.loV (P.val (s.take k)))] ∧ Bx wr w.heap.size 42 #[.int .u8 0, .int .u64 0, .int .u64 0] ∧ Below w.heap.size w wr) (fun i _ => 16 - (intOf i).toNat)
  case atStart => exact ⟨0, by omega, rfl, by rw [List.take_zero, P.hi_nil.1, P.hi_nil.2]; exact h63, h43, hA3⟩
  case round =>
    clear h63 h43 hA3
    obtain ⟨k, hk, rfl, h6, h4, hA⟩ := hrel
    by_cases hkl : k < 16
    · obtain ⟨n1, n2, n3, n4⟩ := HN.out k (by have := Hl.out; omega)
      obtain ⟨b, of, rfl, hlt, hc⟩ := hrow k (by have := Hl.out; omega)
      have HC := Lib.hid (fun wx (hx : Below w.heap.size w wx) => show wx.cell? ⟨b, of + k, none⟩ = some (.int .u8 ((s[k]'(by have := Hl.out; omega)).toNat : Int)) from by
        have h := (hx.cell (p := ⟨b, of + k, none⟩) hlt)
        rw [h]
        have h2 := hc 0 (by omega)
        simp only [Nat.mul_one, Nat.add_zero] at h2
        rw [h2]
        rfl)
      have hcv := (s[k]'(by have := Hl.out; omega)).toNat_lt
      have N1 := Lib.hid n1
      have N2 := Lib.hid n2
      clear n1 n2 hc hrow
      generalize P.hiV (P.val (s.take k)) = x at *
      generalize P.loV (P.val (s.take k)) = y at *
      generalize (s[k]'(by have := Hl.out; omega)).toNat = cv at *
      have e1 : IntKind.u64.wrap (256 * (x : Int)) = ((256 * x : Nat) : Int) := by rw [IntWalk.u64_in _ (by omega)]; omega
      have e2 : IntKind.u64.wrap (((256 * x : Nat) : Int) + (y : Int) / 72057594037927936) = ((256 * x + y / 72057594037927936 : Nat) : Int) := by rw [IntWalk.u64_in _ (by omega)]; omega
      have hlt6 := h6.lt
      obtain ⟨c0, c1, c2, -, -, -⟩ := h6.three
      have Q1 := Lib.hid (show (256 * (x : Int) + (y : Int) / 72057594037927936) = ((256 * x + y / 72057594037927936 : Nat) : Int) from by omega)
      have Q2 := Lib.hid (show IntKind.u64.wrap (IntKind.u64.wrap (256 * (y : Int)) + IntKind.u64.wrap (cv : Int)) = (((256 * y + cv) % 18446744073709551616 : Nat) : Int) from by rw [IntKind.wrap_u64, IntKind.wrap_u64, IntKind.wrap_u64]; omega)
      clear e1 e2
      go_upto_region 8 with (refine wpList_stV (by rfl) _ _ _ (by rfl) h6 _ (V64 (256 * x + y / 72057594037927936)) (by rfl) (by exact congrArg (Value.int .u64) Q1.out) (by rfl) (by rfl) 3 (by rfl) (by decide) infoU64 (by rfl) ?_; intro w4 hz' hb4; have h64 : Bx w4 (w.heap.size + 1) 42 #[.int .u8 6, V64 (256 * x + y / 72057594037927936), V64 y] := hz'; clear hz'; have h44 := h4.but hb4 (by omega); have hA4 := hA.trans (hb4.below (Nat.le_succ _) hA.size); clear h4 h6 hA hb4 c0 c1 c2)
      generalize decide (((k : Nat) : Int) < 16) = bk
      have hst : ∀ wx, Below w4.heap.size w4 wx → Bx wx w.heap.size 42 #[.int .u8 0, .int .u64 0, .int .u64 0] ∧ Below w.heap.size w wx := fun wx hx => ⟨h44.up hx, Chain.up hA4 hx⟩
      refine wp_region_held_drew (S := fun wx => Bx wx w.heap.size 42 #[.int .u8 0, .int .u64 0, .int .u64 0] ∧ Below w.heap.size w wx) (by kernel_rfl) ⟨h44.drew, hA4.drew⟩ (fun hHeld => ?_)
      refine wpAnyH_take (i := 0) (v := ?_) rfl (by kernel_rfl) (by kernel_rfl) (by kernel_rfl) (fun _ _ _ h => h) (Or.inl ⟨by rfl, ?_⟩) hHeld ?_
      rotate_left
      · intro wq hSw; go_simp; (try with_reducible rfl)
      simp only [Act.put, nrm]
      refine wpAnyH_take (i := 3) (v := ?_) rfl (by kernel_rfl) (by kernel_rfl) (by kernel_rfl) (fun _ _ _ h => h) (Or.inl ⟨by rfl, ?_⟩) hHeld ?_
      rotate_left
      · intro wq hSw; go_simp; (try with_reducible rfl)
      simp only [Act.put, nrm]
      refine wpAnyH_take (i := 4) (v := ?_) rfl (by kernel_rfl) (by kernel_rfl) (by kernel_rfl) (fun _ _ _ h => h) (Or.inl ⟨by rfl, ?_⟩) hHeld ?_
      rotate_left
      · intro wq hSw; go_simp; (try with_reducible rfl)
      simp only [Act.put, nrm]
      refine wpAnyH_take (i := 5) (v := ?_) rfl (by kernel_rfl) (by kernel_rfl) (by kernel_rfl) (fun _ _ _ h => h) (Or.inl ⟨by rfl, ?_⟩) hHeld ?_
      rotate_left
      · intro wq hSw; go_simp; (try with_reducible rfl)
      simp only [Act.put, nrm]
      refine wpAnyH_take (i := 6) (v := ?_) rfl (by kernel_rfl) (by kernel_rfl) (by kernel_rfl) (fun _ _ _ h => h) (Or.inl ⟨by rfl, ?_⟩) hHeld ?_
      rotate_left
      · intro wq hSw; have qc := HC.out _ hSw.2; go_simp; (try with_reducible rfl)
      simp only [Act.put, nrm]
      refine wpAnyH_take (i := 7) (v := ?_) rfl (by kernel_rfl) (by kernel_rfl) (by kernel_rfl) (fun _ _ _ h => h) (Or.inl ⟨by rfl, ?_⟩) hHeld ?_
      rotate_left
      · intro wq hSw; go_simp; (try with_reducible rfl)
      simp only [Act.put, nrm]
      refine wpAnyH_by2 (frR (w.heap.size + 1) y cv) (fun wx => Below w4.heap.size w4 wx) (fun wx wy => Below wx.heap.size wx wy) [(1, some 44), (2, some 45), (8, some 51), (9, some 52)] 1 hst rfl (by kernel_rfl) (by kernel_rfl) (by kernel_rfl) (by kernel_rfl) (by kernel_rfl) (by kernel_rfl) (by kernel_rfl) (fun i v wa wb h _ => h) (Below.refl _ _).drew ?_ ?_
      · skip
        refine StepsI.skip (by kernel_rfl) ?_
        refine StepsI.cons (fun vals wx hS hd K hK => ?_) ?_
        · simp only [fillA, Act.put, List.setIfInBounds_toArray, List.set_cons_zero, List.set_cons_succ] at hK ⊢
          obtain ⟨q0, q1, q2, -, -, -⟩ := (h64.up hS).three
          go_simp
          exact hK.out _ _ rfl hS (Below.refl _ _)
        refine StepsI.cons (fun vals wx hS hd K hK => ?_) ?_
        · simp only [fillA, Act.put, List.setIfInBounds_toArray, List.set_cons_zero, List.set_cons_succ] at hK ⊢
          have p1 : vals 1 = V64 y := hd 1 (some 44) (by decide) (by kernel_rfl)
          simp only [p1] at hK ⊢
          go_simp
          exact hK.out _ _ rfl hS (Below.refl _ _)
        refine StepsI.skip (by kernel_rfl) ?_
        refine StepsI.skip (by kernel_rfl) ?_
        refine StepsI.skip (by kernel_rfl) ?_
        refine StepsI.skip (by kernel_rfl) ?_
        refine StepsI.skip (by kernel_rfl) ?_
        refine StepsI.cons (fun vals wx hS hd K hK => ?_) ?_
        · simp only [fillA, Act.put, List.setIfInBounds_toArray, List.set_cons_zero, List.set_cons_succ] at hK ⊢
          have p2 : vals 2 = .int .u64 (IntKind.u64.wrap (256 * (y : Int))) := hd 2 (some 45) (by decide) (by kernel_rfl)
          simp only [p2] at hK ⊢
          go_simp
          exact hK.out _ _ rfl hS (Below.refl _ _)
        refine StepsI.cons (fun vals wx hS hd K hK => ?_) ?_
        · simp only [fillA, Act.put, List.setIfInBounds_toArray, List.set_cons_zero, List.set_cons_succ] at hK ⊢
          go_simp
          exact hK.out _ _ rfl hS (Below.refl _ _)
        refine StepsI.skip (by kernel_rfl) ?_
        exact StepsI.nil
      · intro vals wx hS hR
        have p8 : vals 8 = .int .u64 (IntKind.u64.wrap (IntKind.u64.wrap (256 * (y : Int)) + IntKind.u64.wrap (cv : Int))) := hR (8, some 51) (by decide)
        have p9 : vals 9 = .pointer (some ⟨w.heap.size + 1, 2, none⟩) := hR (9, some 52) (by decide)
        simp only [fillA, Act.put, List.setIfInBounds_toArray, List.set_cons_zero, List.set_cons_succ, p8, p9]
        clear hR p8 p9
        generalize vals 1 = x1
        generalize vals 2 = x2
        clear vals
        have h6x := h64.up hS
        have hSx := hst _ hS
        refine wpAnyH_one (i := 10) (by kernel_rfl) rfl (fun K hK => ?_)
        simp only [nrm]
        rw [if_pos (by rfl)]
        refine wp_stV _ _ _ (by rfl) h6x 2 (V64 ((256 * y + cv) % 18446744073709551616)) (by rfl) (by exact congrArg (Value.int .u64) Q2.out) (by rfl) (by rfl) 3 (by rfl) (by decide) infoU64 (by rfl) ?_
        intro w5 hz' hb5
        have h65 : Bx w5 (w.heap.size + 1) 42 #[.int .u8 6, V64 (256 * x + y / 72057594037927936), V64 ((256 * y + cv) % 18446744073709551616)] := hz'
        have h45 := (hSx.1).but hb5 (by omega)
        have hA5 := hSx.2.trans (hb5.below (Nat.le_succ _) hSx.2.size)
        refine hK.out _ _ ⟨h45, hA5⟩ ?_
        simp only [Act.put, nrm]
        clear hK K
        refine wpAnyH_done (by kernel_rfl) ?_ _
        go_wp2_with fail
        go_roundw
        case rel => exact ⟨k + 1, by omega, by go_num, by rw [N1.out, N2.out]; exact h65, h45, hA5⟩
        case measure => simp [intOf]; omega
    · have hke : k = 16 := by omega
      have Hs := Lib.hid (show s.take k = s from List.take_of_length_le (by have := Hl.out; omega))
      rw [Hs.out] at h6
      clear hke hk
      obtain ⟨c0, c1, c2, -, -, -⟩ := h6.three
      go_wp2_with (refine wpList_stB (by rfl) _ _ _ (by rfl) h4 _ _ (by rfl) (by rfl) 3 3 (by rfl) (by rfl) (by decide) infoRA (by rfl) (by rfl) ?_; intro w9 hz' hb9; have h9 : Bx w9 w.heap.size 42 #[.int .u8 6, V64 (P.hiV (P.val s)), V64 (P.loV (P.val s))] := hz'; clear hz')
      exact bodyPost_ret (results_box2 rfl (by rfl) (loadB h9 structRA infoRA rfl)) rfl ⟨by rw [Hres.out]; rfl, hA.trans (hb9.below (Nat.le_refl _) hA.size)⟩
set_option maxRecDepth 100000 in
set_option maxHeartbeats 8000000 in
theorem refFromB_none (fam : Nat) (s : List UInt8) (h4 : ¬ (fam = 4 ∧ s.length = 4)) (h6 : ¬ (fam = 6 ∧ s.length = 16)) (a : Option Addr) (c : Nat) (w : World) : Calls Tryd.prog 86 #[.int .u8 (fam : Nat), .slice a s.length c] w fun e w' => e = .returned (.tuple #[adV (P.fromB fam s).1, .bool (P.fromB fam s).2]) ∧ Below w.heap.size w w' := by
  have Hr := Lib.hid (show P.fromB fam s = (P.noA, false) by unfold P.fromB; rw [if_neg h4, if_neg h6])
  generalize P.fromB fam s = res at *
  have hx1 := Bx.fresh w 42 #[.int .u8 0, .int .u64 0, .int .u64 0]
  have hc1 := (Below.refl w.heap.size w).alloc (Nat.le_refl _) (.cells #[.int .u8 0, .int .u64 0, .int .u64 0] 42)
  have key : ∀ (b4 b6 : Bool), ((fam : Int) == 4) = b4 → ((fam : Int) == 6) = b6 → (b4 = true → ((s.length : Int) == 4) = false) → (b6 = true → ((s.length : Int) == 16) = false) →
      Calls Tryd.prog 86 #[.int .u8 (fam : Nat), .slice a s.length c] w fun e w' => e = .returned (.tuple #[adV res.1, .bool res.2]) ∧ Below w.heap.size w w' := by
    intro b4 b6 e4 e6 l4 l6
    clear h4 h6
    cases b4 <;> cases b6
    all_goals
      (try have l4' := l4 rfl)
      (try have l6' := l6 rfl)
      clear l4 l6
      go_enter Tryd.func86, Tryd.ntmps86
      go_wp2_with (refine wpList_stB (by rfl) _ _ _ (by rfl) hx1 _ _ (by rfl) (by rfl) 3 3 (by rfl) (by rfl) (by decide) infoRA (by rfl) (by rfl) ?_; intro w9 hz' hb9; have h9 : Bx w9 w.heap.size 42 #[.int .u8 0, .int .u64 0, .int .u64 0] := hz'; clear hz')
      exact bodyPost_ret (results_box2 rfl (by rfl) (loadB h9 structRA infoRA rfl)) rfl ⟨by rw [Hr.out]; rfl, hc1.trans (hb9.below (Nat.le_refl _) hc1.size)⟩
  refine key _ _ rfl rfl (fun h => ?_) (fun h => ?_)
  · have : (fam : Int) = 4 := by simpa using h
    exact beq_eq_false_iff_ne.2 (fun hl => h4 ⟨by omega, by omega⟩)
  · have : (fam : Int) = 6 := by simpa using h
    exact beq_eq_false_iff_ne.2 (fun hl => h6 ⟨by omega, by omega⟩)
theorem refFromB_any (fam : Nat) (s : List UInt8) (a : Option Addr) (c : Nat) (w : World) (hrow : RowsAt 1 byQ w a s) : Calls Tryd.prog 86 #[.int .u8 (fam : Nat), .slice a s.length c] w fun e w' => e = .returned (.tuple #[adV (P.fromB fam s).1, .bool (P.fromB fam s).2]) ∧ Below w.heap.size w w' := by
  by_cases h4 : fam = 4 ∧ s.length = 4
  · obtain ⟨rfl, hl⟩ := h4
    have h := refFromB4 s hl a c w hrow
    rw [hl]
    exact h
  · by_cases h6 : fam = 6 ∧ s.length = 16
    · obtain ⟨rfl, hl⟩ := h6
      have h := refFromB6 s hl a c w hrow
      rw [hl]
      exact h
    · exact refFromB_none fam s h4 h6 a c w
end Go.Proofs.YtcobfoiajdbahaaDoor
