/- The walk of the document's Bytes for blocks. -/
import Derived.Test.YthaiekilifoegaaWRefK
namespace Go.Proofs.Ythaiekilifoegaa
open Go.RowKit
set_option linter.unusedVariables false
set_option linter.unusedSimpArgs false

theorem P.tailB_succ (l : List P.En) (n : Nat) : P.tailB l (n + 1) = P.tailB l n ++ (if n % 4 = 0 then P.be 4 (P.upTo l n).length else []) := by
  unfold P.tailB
  rw [P.starts_succ]
  split <;> simp
/-- What region 13's slots hold. -/
def bytR (acc R0 T : List UInt8) (ss : List (List UInt8)) (i : Nat) (v : Value) (w : World) : Prop := match i with
  | 3 => v = S R0
  | 4 => v = S (acc ++ R0)
  | 13 => ∃ a c, v = .slice a 2 c ∧ StrsAt w a ss
  | 14 => v = S T
  | 15 => v = S (acc ++ (R0 ++ T))
  | 16 => v = S (acc ++ (R0 ++ T))
  | _ => True
theorem bytR_up (acc R0 T : List UInt8) (ss : List (List UInt8)) (i : Nat) (v : Value) (w w' : World) (h : bytR acc R0 T ss i v w) (hb : Below w.heap.size w w') : bytR acc R0 T ss i v w' := by
  unfold bytR at h ⊢
  split at h
  · exact h
  · exact h
  · obtain ⟨a, c, rfl, h⟩ := h; exact ⟨a, c, rfl, h.up hb⟩
  · exact h
  · exact h
  · exact h
  · trivial
attribute [local go_sem] str_app str_from str_at List.append_assoc

set_option maxRecDepth 100000 in
set_option maxHeartbeats 8000000 in
theorem refBytes_any (l : List P.En) (a : Option Addr) (n c : Nat) (hn : n = l.length) (w : World) (hp : EnsAt w a l) (hgd : P.Good l) (hll : l.length ≤ 100000) :
    Calls Try.prog 20 #[.slice a n c] w fun e w' => e = .returned (S (P.bytesB l)) ∧ Below w.heap.size w w' := by
  have HP := Lib.hid hp
  have Hgd := Lib.hid hgd
  have Hn := Lib.hid hn
  have hnl : n ≤ 100000 := by omega
  clear hp hgd hn hll
  go_enter Try.func20, Try.ntmps20
  go_wp2_with fail
  go_loopw [5, 3, 4] (fun i u v wr => ∃ j : Nat, j ≤ n ∧ i = .int .i64 j ∧ u = S (P.upTo l j) ∧ v = S (P.tailB l j) ∧ Below w.heap.size w wr) (fun i _ _ _ => n - (intOf i).toNat)
  case atStart => exact ⟨0, by omega, rfl, rfl, rfl, Below.refl _ _⟩
  case round =>
    obtain ⟨j, hj, rfl, rfl, rfl, hb⟩ := hrel
    have hul := P.upTo_most Hgd.out j
    have htl := P.tail_length l j
    by_cases hlt : j < n
    · have hjl : j < l.length := by have := Hn.out; omega
      obtain ⟨b, o, rfl, hbb, x0, x1⟩ := ens_at HP.out j hjl
      have y0 := cell_up hb x0
      have y1 := cell_up hb x1
      clear x0 x1
      obtain ⟨hk1, hv1⟩ := Hgd.out.lens j
      obtain ⟨hs1, hs2⟩ := P.shN_le l j
      have Hent := Lib.hid (show P.upTo l (j + 1) = P.upTo l j ++ (P.row (P.shN l j) ++ P.texts [(P.keyAt l j).drop (P.shN l j), P.valAt l j]) from rfl)
      have Htl := Lib.hid (P.tailB_succ l j)
      obtain ⟨ss0, hss0⟩ : ∃ ss0, ss0 = [(P.keyAt l j).drop (P.shN l j), P.valAt l j] := ⟨_, rfl⟩
      obtain ⟨T0, hT0⟩ : ∃ T0, T0 = P.texts ss0 := ⟨_, rfl⟩
      obtain ⟨R0, hR0⟩ : ∃ R0, R0 = P.row (P.shN l j) := ⟨_, rfl⟩
      have HT := Lib.hid (fun (a : Option Addr) (c : Nat) (wx : World) (hp : StrsAt wx a ss0) => show Calls Try.prog 35 #[.slice a 2 c] wx fun e w' => e = .returned (S T0) ∧ Below wx.heap.size wx w' from by rw [hT0, show (2 : Nat) = ss0.length by rw [hss0]; rfl]; exact refTexts_any a c ss0 wx (by rw [hss0]; simp) (by rw [hss0]; simp [P.total]; omega) hp)
      have HR := Lib.hid (fun wx => show Calls Try.prog 34 #[V64 (P.shN l j)] wx fun e w' => e = .returned (S R0) ∧ Below wx.heap.size wx w' from by rw [hR0]; exact row_any (P.shN l j) (by omega) wx)
      have hR0l : R0.length ≤ 9 := by rw [hR0]; exact (P.row_lens _).2
      have hT0l : T0.length ≤ 3000 := by rw [hT0, hss0]; have := P.texts_len [(P.keyAt l j).drop (P.shN l j), P.valAt l j]; simp [P.total] at this; omega
      rw [← hss0, ← hT0, ← hR0] at Hent
      have Hss := Lib.hid hss0
      clear hss0 hT0 hR0
      have H4 := Lib.hid (fun wx => four_any (P.upTo l j).length wx (by omega))
      by_cases hz : j % 4 = 0
      · have hN : P.shN l j = 0 := by unfold P.shN; rw [if_pos hz]
        rw [hN] at HR Hss
        rw [List.drop_zero] at Hss
        rw [if_pos hz] at Htl
        have hm4 : ((j : Int) % 4 == 0) = true := by rw [beq_iff_eq]; omega
        have hbl := P.be_length 4 (P.upTo l j).length
        generalize P.be 4 (P.upTo l j).length = pl at *
        generalize P.keyAt l j = kj at *
        generalize P.valAt l j = vj at *
        generalize P.upTo l j = acc at *
        generalize P.tailB l j = tl at *
        have hadd1 : ¬ 9223372036854775807 < acc.length + R0.length := by omega
        have hadd2 : ¬ 9223372036854775807 < (acc ++ R0).length + T0.length := by rw [List.length_append]; omega
        have hadd3 : ¬ 9223372036854775807 < acc.length + R0.length + T0.length := by omega
        have hadd4 : ¬ 9223372036854775807 < tl.length + pl.length := by omega
        have HR := Lib.hid (fun wx => show Calls Try.prog 34 #[.int .u64 (IntKind.u64.wrap 0)] wx fun e w' => e = .returned (S R0) ∧ Below wx.heap.size wx w' from HR.out wx)
        go_wp2_with (go_at_call 33; (with_reducible refine (H4.out _).mono ?_); rintro e w3 ⟨rfl, hb3⟩; have hc3 := Chain.up hb hb3; have y0 := cell_up hb3 y0; have y1 := cell_up hb3 y1)
        -- R13A
        refine wp_region_held_drew (S := fun wx => Below w3.heap.size w3 wx) (by kernel_rfl) (Below.refl _ _).drew (fun hHeld => ?_)
        refine wpAnyH_take (i := 0) (v := ?_) rfl (by kernel_rfl) (by kernel_rfl) (by kernel_rfl) (fun _ _ _ h => h) (Or.inl ⟨by rfl, ?_⟩) hHeld ?_
        rotate_left
        · intro wq hSw; go_simp; (try with_reducible rfl)
        simp only [Act.put, List.getElem_toArray, List.getElem_cons_succ, List.getElem_cons_zero, List.setIfInBounds_toArray, List.set_cons_zero, List.set_cons_succ]
        refine wpAnyH_take (i := 1) (v := ?_) rfl (by kernel_rfl) (by kernel_rfl) (by kernel_rfl) (fun _ _ _ h => h) (Or.inl ⟨by rfl, ?_⟩) hHeld ?_
        rotate_left
        · intro wq hSw; go_simp; (try with_reducible rfl)
        simp only [Act.put, List.getElem_toArray, List.getElem_cons_succ, List.getElem_cons_zero, List.setIfInBounds_toArray, List.set_cons_zero, List.set_cons_succ]
        refine wpAnyH_take (i := 2) (v := ?_) rfl (by kernel_rfl) (by kernel_rfl) (by kernel_rfl) (fun _ _ _ h => h) (Or.inl ⟨by rfl, ?_⟩) hHeld ?_
        rotate_left
        · intro wq hSw; go_simp; (try with_reducible rfl)
        simp only [Act.put, List.getElem_toArray, List.getElem_cons_succ, List.getElem_cons_zero, List.setIfInBounds_toArray, List.set_cons_zero, List.set_cons_succ]
        refine wpAnyH_take (i := 5) (v := ?_) rfl (by kernel_rfl) (by kernel_rfl) (by kernel_rfl) (fun _ _ _ h => h) (Or.inl ⟨by rfl, ?_⟩) hHeld ?_
        rotate_left
        · intro wq hSw; go_simp; (try with_reducible rfl)
        simp only [Act.put, List.getElem_toArray, List.getElem_cons_succ, List.getElem_cons_zero, List.setIfInBounds_toArray, List.set_cons_zero, List.set_cons_succ]
        refine wpAnyH_take (i := 6) (v := ?_) rfl (by kernel_rfl) (by kernel_rfl) (by kernel_rfl) (fun _ _ _ h => h) (Or.inl ⟨by rfl, ?_⟩) hHeld ?_
        rotate_left
        · intro wq hSw; go_simp; (try with_reducible rfl)
        simp only [Act.put, List.getElem_toArray, List.getElem_cons_succ, List.getElem_cons_zero, List.setIfInBounds_toArray, List.set_cons_zero, List.set_cons_succ]
        refine wpAnyH_take (i := 7) (v := ?_) rfl (by kernel_rfl) (by kernel_rfl) (by kernel_rfl) (fun _ _ _ h => h) (Or.inl ⟨by rfl, ?_⟩) hHeld ?_
        rotate_left
        · intro wq hSw; go_simp; (try with_reducible rfl)
        simp only [Act.put, List.getElem_toArray, List.getElem_cons_succ, List.getElem_cons_zero, List.setIfInBounds_toArray, List.set_cons_zero, List.set_cons_succ]
        refine wpAnyH_take (i := 8) (v := ?_) rfl (by kernel_rfl) (by kernel_rfl) (by kernel_rfl) (fun _ _ _ h => h) (Or.inl ⟨by rfl, ?_⟩) hHeld ?_
        rotate_left
        · intro wq hSw; go_simp; (try with_reducible rfl)
        simp only [Act.put, List.getElem_toArray, List.getElem_cons_succ, List.getElem_cons_zero, List.setIfInBounds_toArray, List.set_cons_zero, List.set_cons_succ]
        refine wpAnyH_take (i := 9) (v := ?_) rfl (by kernel_rfl) (by kernel_rfl) (by kernel_rfl) (fun _ _ _ h => h) (Or.inl ⟨by rfl, ?_⟩) hHeld ?_
        rotate_left
        · intro wq hSw; go_simp; (try with_reducible rfl)
        simp only [Act.put, List.getElem_toArray, List.getElem_cons_succ, List.getElem_cons_zero, List.setIfInBounds_toArray, List.set_cons_zero, List.set_cons_succ]
        refine wpAnyH_take (i := 10) (v := ?_) rfl (by kernel_rfl) (by kernel_rfl) (by kernel_rfl) (fun _ _ _ h => h) (Or.inl ⟨by rfl, ?_⟩) hHeld ?_
        rotate_left
        · intro wq hSw; go_simp; (try with_reducible rfl)
        simp only [Act.put, List.getElem_toArray, List.getElem_cons_succ, List.getElem_cons_zero, List.setIfInBounds_toArray, List.set_cons_zero, List.set_cons_succ]
        refine wpAnyH_take (i := 11) (v := ?_) rfl (by kernel_rfl) (by kernel_rfl) (by kernel_rfl) (fun _ _ _ h => h) (Or.inl ⟨by rfl, ?_⟩) hHeld ?_
        rotate_left
        · intro wq hSw; go_simp; (try with_reducible rfl)
        simp only [Act.put, List.getElem_toArray, List.getElem_cons_succ, List.getElem_cons_zero, List.setIfInBounds_toArray, List.set_cons_zero, List.set_cons_succ]
        refine wpAnyH_take (i := 12) (v := ?_) rfl (by kernel_rfl) (by kernel_rfl) (by kernel_rfl) (fun _ _ _ h => h) (Or.inl ⟨by rfl, ?_⟩) hHeld ?_
        rotate_left
        · intro wq hSw; have hq1 := cell_up hSw y1; go_simp; (try with_reducible rfl)
        simp only [Act.put, List.getElem_toArray, List.getElem_cons_succ, List.getElem_cons_zero, List.setIfInBounds_toArray, List.set_cons_zero, List.set_cons_succ]
        refine wpAnyH_by (bytR acc R0 T0 ss0) (fun wx wy => Below wx.heap.size wx wy) [(3, some 58), (4, some 59), (13, some 68), (14, some 69), (15, some 70), (16, some 3)] 0 rfl (by kernel_rfl) (by kernel_rfl) (by kernel_rfl) (by kernel_rfl) (by kernel_rfl) (by kernel_rfl) (by kernel_rfl) (bytR_up acc R0 T0 ss0) hHeld ?_ ?_
        · skip
          refine StepsI.skip (by kernel_rfl) ?_
          refine StepsI.skip (by kernel_rfl) ?_
          refine StepsI.skip (by kernel_rfl) ?_
          refine StepsI.cons (fun vals wx hS hd K hK => ?_) ?_
          · simp only [fillA, Act.put, List.setIfInBounds_toArray, List.set_cons_zero, List.set_cons_succ] at hK ⊢
            go_simp
            (with_reducible refine (HR.out _).mono ?_)
            rintro e1 w6 ⟨rfl, hb6⟩
            exact hK.out _ _ rfl (Chain.up hS hb6) hb6
          refine StepsI.cons (fun vals wx hS hd K hK => ?_) ?_
          · simp only [fillA, Act.put, List.setIfInBounds_toArray, List.set_cons_zero, List.set_cons_succ] at hK ⊢
            have h1 : vals 3 = S R0 := hd 3 (some 58) (by decide) (by kernel_rfl)
            simp only [h1] at hK ⊢
            go_simp
            exact hK.out _ _ rfl hS (Below.refl _ _)
          refine StepsI.skip (by kernel_rfl) ?_
          refine StepsI.skip (by kernel_rfl) ?_
          refine StepsI.skip (by kernel_rfl) ?_
          refine StepsI.skip (by kernel_rfl) ?_
          refine StepsI.skip (by kernel_rfl) ?_
          refine StepsI.skip (by kernel_rfl) ?_
          refine StepsI.skip (by kernel_rfl) ?_
          refine StepsI.skip (by kernel_rfl) ?_
          refine StepsI.cons (fun vals wx hS hd K hK => ?_) ?_
          · simp only [fillA, Act.put, List.setIfInBounds_toArray, List.set_cons_zero, List.set_cons_succ] at hK ⊢
            go_simp
            exact hK.out _ _ ⟨_, _, rfl, strs_new wx ss0 _ _ (by rw [Hss.out]; rfl)⟩ (hS.alloc hS.size _) ((Below.refl _ _).alloc (Nat.le_refl _) _)
          refine StepsI.cons (fun vals wx hS hd K hK => ?_) ?_
          · simp only [fillA, Act.put, List.setIfInBounds_toArray, List.set_cons_zero, List.set_cons_succ] at hK ⊢
            obtain ⟨a1, c1, h1, p1⟩ := hd 13 (some 68) (by decide) (by kernel_rfl)
            simp only [h1] at hK ⊢
            go_simp
            (with_reducible refine (HT.out _ _ _ p1).mono ?_)
            rintro e1 w6 ⟨rfl, hb6⟩
            exact hK.out _ _ rfl (Chain.up hS hb6) hb6
          refine StepsI.cons (fun vals wx hS hd K hK => ?_) ?_
          · simp only [fillA, Act.put, List.setIfInBounds_toArray, List.set_cons_zero, List.set_cons_succ] at hK ⊢
            have h1 : vals 4 = S (acc ++ R0) := hd 4 (some 59) (by decide) (by kernel_rfl)
            have h2 : vals 14 = S T0 := hd 14 (some 69) (by decide) (by kernel_rfl)
            simp only [h1, h2] at hK ⊢
            go_simp
            exact hK.out _ _ rfl hS (Below.refl _ _)
          refine StepsI.cons (fun vals wx hS hd K hK => ?_) ?_
          · simp only [fillA, Act.put, List.setIfInBounds_toArray, List.set_cons_zero, List.set_cons_succ] at hK ⊢
            have h1 : vals 15 = S (acc ++ (R0 ++ T0)) := hd 15 (some 70) (by decide) (by kernel_rfl)
            simp only [h1] at hK ⊢
            go_simp
            exact hK.out _ _ rfl hS (Below.refl _ _)
          exact StepsI.nil
        · intro vals wx hS hR
          have hv : vals 16 = S (acc ++ (R0 ++ T0)) := hR (16, some 3) (by decide)
          refine wpAnyH_done (by kernel_rfl) ?_ _
          simp only [fillA, Act.put, List.setIfInBounds_toArray, List.set_cons_zero, List.set_cons_succ, hv]
          clear hR
          generalize vals 3 = v3
          generalize vals 4 = v4
          generalize vals 13 = v13
          generalize vals 14 = v14
          generalize vals 15 = v15
        -- END R13A
          go_wp2_with fail
          go_roundw
          case rel => exact ⟨j + 1, by omega, by go_num, by rw [Hent.out], by rw [Htl.out], Chain.up hc3 hS⟩
          case measure => simp [intOf]; omega
      · have hm4 : ((j : Int) % 4 == 0) = false := by rw [beq_eq_false_iff_ne]; omega
        obtain ⟨b', o', hab, hbb', z0, _⟩ := ens_at HP.out (j - 1) (by omega)
        have z0 := cell_up hb z0
        rw [if_neg hz, List.append_nil] at Htl
        have hN : P.shN l j = P.lcp (P.keyAt l (j - 1)) (P.keyAt l j) := by unfold P.shN; rw [if_neg hz]
        have hka := (Hgd.out.lens (j - 1)).1
        obtain ⟨j1, hj1⟩ : ∃ j1, j = j1 + 1 := ⟨j - 1, by omega⟩
        subst hj1
        rw [Nat.add_sub_cancel] at z0 hN hs2 hka
        injection hab with hab
        injection hab with h1 h2
        subst h1 h2
        have hji : ((j1 + 1 : Nat) : Int) - 1 = (j1 : Int) := by omega
        have hji2 : (j1 : Int) + 1 - 1 = (j1 : Int) := by omega
        have hp1 : (0 : Int) ≤ (j1 : Int) + 1 := by omega
        have hp2 : (j1 : Int) + 1 < (n : Int) := by omega
        rw [hN] at HR Hss hs1 hs2
        have Hle := Lib.hid (P.lcp_le (P.keyAt l j1) (P.keyAt l (j1 + 1)))
        have Hat := Lib.hid (P.lcp_at (P.keyAt l j1) (P.keyAt l (j1 + 1)))
        have Hend := Lib.hid (P.lcp_end (P.keyAt l j1) (P.keyAt l (j1 + 1)))
        clear hN
        generalize P.lcp (P.keyAt l j1) (P.keyAt l (j1 + 1)) = m at *
        generalize P.keyAt l j1 = ka at *
        generalize P.keyAt l (j1 + 1) = kj at *
        generalize P.valAt l (j1 + 1) = vj at *
        generalize P.upTo l (j1 + 1) = acc at *
        generalize P.tailB l (j1 + 1) = tl at *
        have hadd1 : ¬ 9223372036854775807 < acc.length + R0.length := by omega
        have hadd2 : ¬ 9223372036854775807 < (acc ++ R0).length + T0.length := by rw [List.length_append]; omega
        have hadd3 : ¬ 9223372036854775807 < acc.length + R0.length + T0.length := by omega
        have hwm : IntKind.u64.wrap (m : Int) = (m : Int) := by rw [IntKind.wrap_u64]; omega
        have hmi : (m : Int) ≤ (kj.length : Int) := by omega
        go_wp2_with fail
        clear hm4 hji hji2
        obtain ⟨v0, hv0⟩ : ∃ v0, v0 = wr := ⟨_, rfl⟩
        subst hv0
        go_loopw [7] (fun i wr => ∃ q : Nat, q ≤ m ∧ i = .int .i64 q ∧ Below v0.heap.size v0 wr) (fun i _ => m - (intOf i).toNat)
        case atStart => exact ⟨0, by omega, rfl, Below.refl _ _⟩
        case round =>
          obtain ⟨q, hq, rfl, hbq⟩ := hrel
          by_cases hqm : q < m
          · have h1 := Hle.out
            have hka' : q < ka.length := by omega
            have hkb' : q < kj.length := by omega
            have hi1 : decide ((q : Int) < (ka.length : Int)) = true := decide_eq_true (by omega)
            have hi2 : decide ((q : Int) < (kj.length : Int)) = true := decide_eq_true (by omega)
            have heq : ((P.at_ ka q : Int) == (P.at_ kj q : Int)) = true := by rw [Hat.out q hqm]; simp
            go_wp2
            go_quiet (fail)
            go_wp2
            go_roundw
            case rel => exact ⟨q + 1, by omega, by go_num, below_drewN hbq _⟩
            case measure => simp [intOf]; omega
          · obtain rfl : q = m := by omega
            by_cases hka : q < ka.length
            · have hi1 : decide ((q : Int) < (ka.length : Int)) = true := decide_eq_true (by omega)
              by_cases hkb : q < kj.length
              · have hi2 : decide ((q : Int) < (kj.length : Int)) = true := decide_eq_true (by omega)
                have heq : ((P.at_ ka q : Int) == (P.at_ kj q : Int)) = false := by
                  rw [beq_eq_false_iff_ne]
                  have := Hend.out hka hkb
                  omega
                go_wp2
                go_quiet (fail)
                go_wp2_with fail
                have hbq3 := below_drewN hbq nq
                generalize wr.drewN nq = w3 at *
                have hc3 := Chain.up hb hbq3
                have y1 := cell_up hbq3 y1
                -- R13B
                refine wp_region_held_drew (S := fun wx => Below w3.heap.size w3 wx) (by kernel_rfl) (Below.refl _ _).drew (fun hHeld => ?_)
                refine wpAnyH_take (i := 0) (v := ?_) rfl (by kernel_rfl) (by kernel_rfl) (by kernel_rfl) (fun _ _ _ h => h) (Or.inl ⟨by rfl, ?_⟩) hHeld ?_
                rotate_left
                · intro wq hSw; go_simp; (try with_reducible rfl)
                simp only [Act.put, List.getElem_toArray, List.getElem_cons_succ, List.getElem_cons_zero, List.setIfInBounds_toArray, List.set_cons_zero, List.set_cons_succ]
                refine wpAnyH_take (i := 1) (v := ?_) rfl (by kernel_rfl) (by kernel_rfl) (by kernel_rfl) (fun _ _ _ h => h) (Or.inl ⟨by rfl, ?_⟩) hHeld ?_
                rotate_left
                · intro wq hSw; go_simp; (try with_reducible rfl)
                simp only [Act.put, List.getElem_toArray, List.getElem_cons_succ, List.getElem_cons_zero, List.setIfInBounds_toArray, List.set_cons_zero, List.set_cons_succ]
                refine wpAnyH_take (i := 2) (v := ?_) rfl (by kernel_rfl) (by kernel_rfl) (by kernel_rfl) (fun _ _ _ h => h) (Or.inl ⟨by rfl, ?_⟩) hHeld ?_
                rotate_left
                · intro wq hSw; go_simp; (try with_reducible rfl)
                simp only [Act.put, List.getElem_toArray, List.getElem_cons_succ, List.getElem_cons_zero, List.setIfInBounds_toArray, List.set_cons_zero, List.set_cons_succ]
                refine wpAnyH_take (i := 5) (v := ?_) rfl (by kernel_rfl) (by kernel_rfl) (by kernel_rfl) (fun _ _ _ h => h) (Or.inl ⟨by rfl, ?_⟩) hHeld ?_
                rotate_left
                · intro wq hSw; go_simp; (try with_reducible rfl)
                simp only [Act.put, List.getElem_toArray, List.getElem_cons_succ, List.getElem_cons_zero, List.setIfInBounds_toArray, List.set_cons_zero, List.set_cons_succ]
                refine wpAnyH_take (i := 6) (v := ?_) rfl (by kernel_rfl) (by kernel_rfl) (by kernel_rfl) (fun _ _ _ h => h) (Or.inl ⟨by rfl, ?_⟩) hHeld ?_
                rotate_left
                · intro wq hSw; go_simp; (try with_reducible rfl)
                simp only [Act.put, List.getElem_toArray, List.getElem_cons_succ, List.getElem_cons_zero, List.setIfInBounds_toArray, List.set_cons_zero, List.set_cons_succ]
                refine wpAnyH_take (i := 7) (v := ?_) rfl (by kernel_rfl) (by kernel_rfl) (by kernel_rfl) (fun _ _ _ h => h) (Or.inl ⟨by rfl, ?_⟩) hHeld ?_
                rotate_left
                · intro wq hSw; go_simp; (try with_reducible rfl)
                simp only [Act.put, List.getElem_toArray, List.getElem_cons_succ, List.getElem_cons_zero, List.setIfInBounds_toArray, List.set_cons_zero, List.set_cons_succ]
                refine wpAnyH_take (i := 8) (v := ?_) rfl (by kernel_rfl) (by kernel_rfl) (by kernel_rfl) (fun _ _ _ h => h) (Or.inl ⟨by rfl, ?_⟩) hHeld ?_
                rotate_left
                · intro wq hSw; go_simp; (try with_reducible rfl)
                simp only [Act.put, List.getElem_toArray, List.getElem_cons_succ, List.getElem_cons_zero, List.setIfInBounds_toArray, List.set_cons_zero, List.set_cons_succ]
                refine wpAnyH_take (i := 9) (v := ?_) rfl (by kernel_rfl) (by kernel_rfl) (by kernel_rfl) (fun _ _ _ h => h) (Or.inl ⟨by rfl, ?_⟩) hHeld ?_
                rotate_left
                · intro wq hSw; go_simp; (try with_reducible rfl)
                simp only [Act.put, List.getElem_toArray, List.getElem_cons_succ, List.getElem_cons_zero, List.setIfInBounds_toArray, List.set_cons_zero, List.set_cons_succ]
                refine wpAnyH_take (i := 10) (v := ?_) rfl (by kernel_rfl) (by kernel_rfl) (by kernel_rfl) (fun _ _ _ h => h) (Or.inl ⟨by rfl, ?_⟩) hHeld ?_
                rotate_left
                · intro wq hSw; go_simp; (try with_reducible rfl)
                simp only [Act.put, List.getElem_toArray, List.getElem_cons_succ, List.getElem_cons_zero, List.setIfInBounds_toArray, List.set_cons_zero, List.set_cons_succ]
                refine wpAnyH_take (i := 11) (v := ?_) rfl (by kernel_rfl) (by kernel_rfl) (by kernel_rfl) (fun _ _ _ h => h) (Or.inl ⟨by rfl, ?_⟩) hHeld ?_
                rotate_left
                · intro wq hSw; go_simp; (try with_reducible rfl)
                simp only [Act.put, List.getElem_toArray, List.getElem_cons_succ, List.getElem_cons_zero, List.setIfInBounds_toArray, List.set_cons_zero, List.set_cons_succ]
                refine wpAnyH_take (i := 12) (v := ?_) rfl (by kernel_rfl) (by kernel_rfl) (by kernel_rfl) (fun _ _ _ h => h) (Or.inl ⟨by rfl, ?_⟩) hHeld ?_
                rotate_left
                · intro wq hSw; have hq1 := cell_up hSw y1; go_simp; (try with_reducible rfl)
                simp only [Act.put, List.getElem_toArray, List.getElem_cons_succ, List.getElem_cons_zero, List.setIfInBounds_toArray, List.set_cons_zero, List.set_cons_succ]
                refine wpAnyH_by (bytR acc R0 T0 ss0) (fun wx wy => Below wx.heap.size wx wy) [(3, some 58), (4, some 59), (13, some 68), (14, some 69), (15, some 70), (16, some 3)] 0 rfl (by kernel_rfl) (by kernel_rfl) (by kernel_rfl) (by kernel_rfl) (by kernel_rfl) (by kernel_rfl) (by kernel_rfl) (bytR_up acc R0 T0 ss0) hHeld ?_ ?_
                · skip
                  refine StepsI.skip (by kernel_rfl) ?_
                  refine StepsI.skip (by kernel_rfl) ?_
                  refine StepsI.skip (by kernel_rfl) ?_
                  refine StepsI.cons (fun vals wx hS hd K hK => ?_) ?_
                  · simp only [fillA, Act.put, List.setIfInBounds_toArray, List.set_cons_zero, List.set_cons_succ] at hK ⊢
                    go_simp
                    (with_reducible refine (HR.out _).mono ?_)
                    rintro e1 w6 ⟨rfl, hb6⟩
                    exact hK.out _ _ rfl (Chain.up hS hb6) hb6
                  refine StepsI.cons (fun vals wx hS hd K hK => ?_) ?_
                  · simp only [fillA, Act.put, List.setIfInBounds_toArray, List.set_cons_zero, List.set_cons_succ] at hK ⊢
                    have h1 : vals 3 = S R0 := hd 3 (some 58) (by decide) (by kernel_rfl)
                    simp only [h1] at hK ⊢
                    go_simp
                    exact hK.out _ _ rfl hS (Below.refl _ _)
                  refine StepsI.skip (by kernel_rfl) ?_
                  refine StepsI.skip (by kernel_rfl) ?_
                  refine StepsI.skip (by kernel_rfl) ?_
                  refine StepsI.skip (by kernel_rfl) ?_
                  refine StepsI.skip (by kernel_rfl) ?_
                  refine StepsI.skip (by kernel_rfl) ?_
                  refine StepsI.skip (by kernel_rfl) ?_
                  refine StepsI.skip (by kernel_rfl) ?_
                  refine StepsI.cons (fun vals wx hS hd K hK => ?_) ?_
                  · simp only [fillA, Act.put, List.setIfInBounds_toArray, List.set_cons_zero, List.set_cons_succ] at hK ⊢
                    go_simp
                    exact hK.out _ _ ⟨_, _, rfl, strs_new wx ss0 _ _ (by rw [Hss.out]; rfl)⟩ (hS.alloc hS.size _) ((Below.refl _ _).alloc (Nat.le_refl _) _)
                  refine StepsI.cons (fun vals wx hS hd K hK => ?_) ?_
                  · simp only [fillA, Act.put, List.setIfInBounds_toArray, List.set_cons_zero, List.set_cons_succ] at hK ⊢
                    obtain ⟨a1, c1, h1, p1⟩ := hd 13 (some 68) (by decide) (by kernel_rfl)
                    simp only [h1] at hK ⊢
                    go_simp
                    (with_reducible refine (HT.out _ _ _ p1).mono ?_)
                    rintro e1 w6 ⟨rfl, hb6⟩
                    exact hK.out _ _ rfl (Chain.up hS hb6) hb6
                  refine StepsI.cons (fun vals wx hS hd K hK => ?_) ?_
                  · simp only [fillA, Act.put, List.setIfInBounds_toArray, List.set_cons_zero, List.set_cons_succ] at hK ⊢
                    have h1 : vals 4 = S (acc ++ R0) := hd 4 (some 59) (by decide) (by kernel_rfl)
                    have h2 : vals 14 = S T0 := hd 14 (some 69) (by decide) (by kernel_rfl)
                    simp only [h1, h2] at hK ⊢
                    go_simp
                    exact hK.out _ _ rfl hS (Below.refl _ _)
                  refine StepsI.cons (fun vals wx hS hd K hK => ?_) ?_
                  · simp only [fillA, Act.put, List.setIfInBounds_toArray, List.set_cons_zero, List.set_cons_succ] at hK ⊢
                    have h1 : vals 15 = S (acc ++ (R0 ++ T0)) := hd 15 (some 70) (by decide) (by kernel_rfl)
                    simp only [h1] at hK ⊢
                    go_simp
                    exact hK.out _ _ rfl hS (Below.refl _ _)
                  exact StepsI.nil
                · intro vals wx hS hR
                  have hv : vals 16 = S (acc ++ (R0 ++ T0)) := hR (16, some 3) (by decide)
                  refine wpAnyH_done (by kernel_rfl) ?_ _
                  simp only [fillA, Act.put, List.setIfInBounds_toArray, List.set_cons_zero, List.set_cons_succ, hv]
                  clear hR
                  generalize vals 3 = v3
                  generalize vals 4 = v4
                  generalize vals 13 = v13
                  generalize vals 14 = v14
                  generalize vals 15 = v15
                -- END R13B
                  go_wp2_with fail
                  go_roundw
                  case rel => exact ⟨j1 + 1 + 1, by omega, by go_num, by rw [Hent.out], by rw [Htl.out], Chain.up hc3 hS⟩
                  case measure => simp [intOf]; omega
              · have hi2 : decide ((q : Int) < (kj.length : Int)) = false := decide_eq_false (by omega)
                go_wp2
                go_quiet (fail)
                go_wp2_with fail
                have hbq3 := below_drewN hbq nq
                generalize wr.drewN nq = w3 at *
                have hc3 := Chain.up hb hbq3
                have y1 := cell_up hbq3 y1
                -- R13C
                refine wp_region_held_drew (S := fun wx => Below w3.heap.size w3 wx) (by kernel_rfl) (Below.refl _ _).drew (fun hHeld => ?_)
                refine wpAnyH_take (i := 0) (v := ?_) rfl (by kernel_rfl) (by kernel_rfl) (by kernel_rfl) (fun _ _ _ h => h) (Or.inl ⟨by rfl, ?_⟩) hHeld ?_
                rotate_left
                · intro wq hSw; go_simp; (try with_reducible rfl)
                simp only [Act.put, List.getElem_toArray, List.getElem_cons_succ, List.getElem_cons_zero, List.setIfInBounds_toArray, List.set_cons_zero, List.set_cons_succ]
                refine wpAnyH_take (i := 1) (v := ?_) rfl (by kernel_rfl) (by kernel_rfl) (by kernel_rfl) (fun _ _ _ h => h) (Or.inl ⟨by rfl, ?_⟩) hHeld ?_
                rotate_left
                · intro wq hSw; go_simp; (try with_reducible rfl)
                simp only [Act.put, List.getElem_toArray, List.getElem_cons_succ, List.getElem_cons_zero, List.setIfInBounds_toArray, List.set_cons_zero, List.set_cons_succ]
                refine wpAnyH_take (i := 2) (v := ?_) rfl (by kernel_rfl) (by kernel_rfl) (by kernel_rfl) (fun _ _ _ h => h) (Or.inl ⟨by rfl, ?_⟩) hHeld ?_
                rotate_left
                · intro wq hSw; go_simp; (try with_reducible rfl)
                simp only [Act.put, List.getElem_toArray, List.getElem_cons_succ, List.getElem_cons_zero, List.setIfInBounds_toArray, List.set_cons_zero, List.set_cons_succ]
                refine wpAnyH_take (i := 5) (v := ?_) rfl (by kernel_rfl) (by kernel_rfl) (by kernel_rfl) (fun _ _ _ h => h) (Or.inl ⟨by rfl, ?_⟩) hHeld ?_
                rotate_left
                · intro wq hSw; go_simp; (try with_reducible rfl)
                simp only [Act.put, List.getElem_toArray, List.getElem_cons_succ, List.getElem_cons_zero, List.setIfInBounds_toArray, List.set_cons_zero, List.set_cons_succ]
                refine wpAnyH_take (i := 6) (v := ?_) rfl (by kernel_rfl) (by kernel_rfl) (by kernel_rfl) (fun _ _ _ h => h) (Or.inl ⟨by rfl, ?_⟩) hHeld ?_
                rotate_left
                · intro wq hSw; go_simp; (try with_reducible rfl)
                simp only [Act.put, List.getElem_toArray, List.getElem_cons_succ, List.getElem_cons_zero, List.setIfInBounds_toArray, List.set_cons_zero, List.set_cons_succ]
                refine wpAnyH_take (i := 7) (v := ?_) rfl (by kernel_rfl) (by kernel_rfl) (by kernel_rfl) (fun _ _ _ h => h) (Or.inl ⟨by rfl, ?_⟩) hHeld ?_
                rotate_left
                · intro wq hSw; go_simp; (try with_reducible rfl)
                simp only [Act.put, List.getElem_toArray, List.getElem_cons_succ, List.getElem_cons_zero, List.setIfInBounds_toArray, List.set_cons_zero, List.set_cons_succ]
                refine wpAnyH_take (i := 8) (v := ?_) rfl (by kernel_rfl) (by kernel_rfl) (by kernel_rfl) (fun _ _ _ h => h) (Or.inl ⟨by rfl, ?_⟩) hHeld ?_
                rotate_left
                · intro wq hSw; go_simp; (try with_reducible rfl)
                simp only [Act.put, List.getElem_toArray, List.getElem_cons_succ, List.getElem_cons_zero, List.setIfInBounds_toArray, List.set_cons_zero, List.set_cons_succ]
                refine wpAnyH_take (i := 9) (v := ?_) rfl (by kernel_rfl) (by kernel_rfl) (by kernel_rfl) (fun _ _ _ h => h) (Or.inl ⟨by rfl, ?_⟩) hHeld ?_
                rotate_left
                · intro wq hSw; go_simp; (try with_reducible rfl)
                simp only [Act.put, List.getElem_toArray, List.getElem_cons_succ, List.getElem_cons_zero, List.setIfInBounds_toArray, List.set_cons_zero, List.set_cons_succ]
                refine wpAnyH_take (i := 10) (v := ?_) rfl (by kernel_rfl) (by kernel_rfl) (by kernel_rfl) (fun _ _ _ h => h) (Or.inl ⟨by rfl, ?_⟩) hHeld ?_
                rotate_left
                · intro wq hSw; go_simp; (try with_reducible rfl)
                simp only [Act.put, List.getElem_toArray, List.getElem_cons_succ, List.getElem_cons_zero, List.setIfInBounds_toArray, List.set_cons_zero, List.set_cons_succ]
                refine wpAnyH_take (i := 11) (v := ?_) rfl (by kernel_rfl) (by kernel_rfl) (by kernel_rfl) (fun _ _ _ h => h) (Or.inl ⟨by rfl, ?_⟩) hHeld ?_
                rotate_left
                · intro wq hSw; go_simp; (try with_reducible rfl)
                simp only [Act.put, List.getElem_toArray, List.getElem_cons_succ, List.getElem_cons_zero, List.setIfInBounds_toArray, List.set_cons_zero, List.set_cons_succ]
                refine wpAnyH_take (i := 12) (v := ?_) rfl (by kernel_rfl) (by kernel_rfl) (by kernel_rfl) (fun _ _ _ h => h) (Or.inl ⟨by rfl, ?_⟩) hHeld ?_
                rotate_left
                · intro wq hSw; have hq1 := cell_up hSw y1; go_simp; (try with_reducible rfl)
                simp only [Act.put, List.getElem_toArray, List.getElem_cons_succ, List.getElem_cons_zero, List.setIfInBounds_toArray, List.set_cons_zero, List.set_cons_succ]
                refine wpAnyH_by (bytR acc R0 T0 ss0) (fun wx wy => Below wx.heap.size wx wy) [(3, some 58), (4, some 59), (13, some 68), (14, some 69), (15, some 70), (16, some 3)] 0 rfl (by kernel_rfl) (by kernel_rfl) (by kernel_rfl) (by kernel_rfl) (by kernel_rfl) (by kernel_rfl) (by kernel_rfl) (bytR_up acc R0 T0 ss0) hHeld ?_ ?_
                · skip
                  refine StepsI.skip (by kernel_rfl) ?_
                  refine StepsI.skip (by kernel_rfl) ?_
                  refine StepsI.skip (by kernel_rfl) ?_
                  refine StepsI.cons (fun vals wx hS hd K hK => ?_) ?_
                  · simp only [fillA, Act.put, List.setIfInBounds_toArray, List.set_cons_zero, List.set_cons_succ] at hK ⊢
                    go_simp
                    (with_reducible refine (HR.out _).mono ?_)
                    rintro e1 w6 ⟨rfl, hb6⟩
                    exact hK.out _ _ rfl (Chain.up hS hb6) hb6
                  refine StepsI.cons (fun vals wx hS hd K hK => ?_) ?_
                  · simp only [fillA, Act.put, List.setIfInBounds_toArray, List.set_cons_zero, List.set_cons_succ] at hK ⊢
                    have h1 : vals 3 = S R0 := hd 3 (some 58) (by decide) (by kernel_rfl)
                    simp only [h1] at hK ⊢
                    go_simp
                    exact hK.out _ _ rfl hS (Below.refl _ _)
                  refine StepsI.skip (by kernel_rfl) ?_
                  refine StepsI.skip (by kernel_rfl) ?_
                  refine StepsI.skip (by kernel_rfl) ?_
                  refine StepsI.skip (by kernel_rfl) ?_
                  refine StepsI.skip (by kernel_rfl) ?_
                  refine StepsI.skip (by kernel_rfl) ?_
                  refine StepsI.skip (by kernel_rfl) ?_
                  refine StepsI.skip (by kernel_rfl) ?_
                  refine StepsI.cons (fun vals wx hS hd K hK => ?_) ?_
                  · simp only [fillA, Act.put, List.setIfInBounds_toArray, List.set_cons_zero, List.set_cons_succ] at hK ⊢
                    go_simp
                    exact hK.out _ _ ⟨_, _, rfl, strs_new wx ss0 _ _ (by rw [Hss.out]; rfl)⟩ (hS.alloc hS.size _) ((Below.refl _ _).alloc (Nat.le_refl _) _)
                  refine StepsI.cons (fun vals wx hS hd K hK => ?_) ?_
                  · simp only [fillA, Act.put, List.setIfInBounds_toArray, List.set_cons_zero, List.set_cons_succ] at hK ⊢
                    obtain ⟨a1, c1, h1, p1⟩ := hd 13 (some 68) (by decide) (by kernel_rfl)
                    simp only [h1] at hK ⊢
                    go_simp
                    (with_reducible refine (HT.out _ _ _ p1).mono ?_)
                    rintro e1 w6 ⟨rfl, hb6⟩
                    exact hK.out _ _ rfl (Chain.up hS hb6) hb6
                  refine StepsI.cons (fun vals wx hS hd K hK => ?_) ?_
                  · simp only [fillA, Act.put, List.setIfInBounds_toArray, List.set_cons_zero, List.set_cons_succ] at hK ⊢
                    have h1 : vals 4 = S (acc ++ R0) := hd 4 (some 59) (by decide) (by kernel_rfl)
                    have h2 : vals 14 = S T0 := hd 14 (some 69) (by decide) (by kernel_rfl)
                    simp only [h1, h2] at hK ⊢
                    go_simp
                    exact hK.out _ _ rfl hS (Below.refl _ _)
                  refine StepsI.cons (fun vals wx hS hd K hK => ?_) ?_
                  · simp only [fillA, Act.put, List.setIfInBounds_toArray, List.set_cons_zero, List.set_cons_succ] at hK ⊢
                    have h1 : vals 15 = S (acc ++ (R0 ++ T0)) := hd 15 (some 70) (by decide) (by kernel_rfl)
                    simp only [h1] at hK ⊢
                    go_simp
                    exact hK.out _ _ rfl hS (Below.refl _ _)
                  exact StepsI.nil
                · intro vals wx hS hR
                  have hv : vals 16 = S (acc ++ (R0 ++ T0)) := hR (16, some 3) (by decide)
                  refine wpAnyH_done (by kernel_rfl) ?_ _
                  simp only [fillA, Act.put, List.setIfInBounds_toArray, List.set_cons_zero, List.set_cons_succ, hv]
                  clear hR
                  generalize vals 3 = v3
                  generalize vals 4 = v4
                  generalize vals 13 = v13
                  generalize vals 14 = v14
                  generalize vals 15 = v15
                -- END R13C
                  go_wp2_with fail
                  go_roundw
                  case rel => exact ⟨j1 + 1 + 1, by omega, by go_num, by rw [Hent.out], by rw [Htl.out], Chain.up hc3 hS⟩
                  case measure => simp [intOf]; omega
            · have hi1 : decide ((q : Int) < (ka.length : Int)) = false := decide_eq_false (by omega)
              go_wp2
              go_quiet (fail)
              go_wp2_with fail
              have hbq3 := below_drewN hbq nq
              generalize wr.drewN nq = w3 at *
              have hc3 := Chain.up hb hbq3
              have y1 := cell_up hbq3 y1
              -- R13D
              refine wp_region_held_drew (S := fun wx => Below w3.heap.size w3 wx) (by kernel_rfl) (Below.refl _ _).drew (fun hHeld => ?_)
              refine wpAnyH_take (i := 0) (v := ?_) rfl (by kernel_rfl) (by kernel_rfl) (by kernel_rfl) (fun _ _ _ h => h) (Or.inl ⟨by rfl, ?_⟩) hHeld ?_
              rotate_left
              · intro wq hSw; go_simp; (try with_reducible rfl)
              simp only [Act.put, List.getElem_toArray, List.getElem_cons_succ, List.getElem_cons_zero, List.setIfInBounds_toArray, List.set_cons_zero, List.set_cons_succ]
              refine wpAnyH_take (i := 1) (v := ?_) rfl (by kernel_rfl) (by kernel_rfl) (by kernel_rfl) (fun _ _ _ h => h) (Or.inl ⟨by rfl, ?_⟩) hHeld ?_
              rotate_left
              · intro wq hSw; go_simp; (try with_reducible rfl)
              simp only [Act.put, List.getElem_toArray, List.getElem_cons_succ, List.getElem_cons_zero, List.setIfInBounds_toArray, List.set_cons_zero, List.set_cons_succ]
              refine wpAnyH_take (i := 2) (v := ?_) rfl (by kernel_rfl) (by kernel_rfl) (by kernel_rfl) (fun _ _ _ h => h) (Or.inl ⟨by rfl, ?_⟩) hHeld ?_
              rotate_left
              · intro wq hSw; go_simp; (try with_reducible rfl)
              simp only [Act.put, List.getElem_toArray, List.getElem_cons_succ, List.getElem_cons_zero, List.setIfInBounds_toArray, List.set_cons_zero, List.set_cons_succ]
              refine wpAnyH_take (i := 5) (v := ?_) rfl (by kernel_rfl) (by kernel_rfl) (by kernel_rfl) (fun _ _ _ h => h) (Or.inl ⟨by rfl, ?_⟩) hHeld ?_
              rotate_left
              · intro wq hSw; go_simp; (try with_reducible rfl)
              simp only [Act.put, List.getElem_toArray, List.getElem_cons_succ, List.getElem_cons_zero, List.setIfInBounds_toArray, List.set_cons_zero, List.set_cons_succ]
              refine wpAnyH_take (i := 6) (v := ?_) rfl (by kernel_rfl) (by kernel_rfl) (by kernel_rfl) (fun _ _ _ h => h) (Or.inl ⟨by rfl, ?_⟩) hHeld ?_
              rotate_left
              · intro wq hSw; go_simp; (try with_reducible rfl)
              simp only [Act.put, List.getElem_toArray, List.getElem_cons_succ, List.getElem_cons_zero, List.setIfInBounds_toArray, List.set_cons_zero, List.set_cons_succ]
              refine wpAnyH_take (i := 7) (v := ?_) rfl (by kernel_rfl) (by kernel_rfl) (by kernel_rfl) (fun _ _ _ h => h) (Or.inl ⟨by rfl, ?_⟩) hHeld ?_
              rotate_left
              · intro wq hSw; go_simp; (try with_reducible rfl)
              simp only [Act.put, List.getElem_toArray, List.getElem_cons_succ, List.getElem_cons_zero, List.setIfInBounds_toArray, List.set_cons_zero, List.set_cons_succ]
              refine wpAnyH_take (i := 8) (v := ?_) rfl (by kernel_rfl) (by kernel_rfl) (by kernel_rfl) (fun _ _ _ h => h) (Or.inl ⟨by rfl, ?_⟩) hHeld ?_
              rotate_left
              · intro wq hSw; go_simp; (try with_reducible rfl)
              simp only [Act.put, List.getElem_toArray, List.getElem_cons_succ, List.getElem_cons_zero, List.setIfInBounds_toArray, List.set_cons_zero, List.set_cons_succ]
              refine wpAnyH_take (i := 9) (v := ?_) rfl (by kernel_rfl) (by kernel_rfl) (by kernel_rfl) (fun _ _ _ h => h) (Or.inl ⟨by rfl, ?_⟩) hHeld ?_
              rotate_left
              · intro wq hSw; go_simp; (try with_reducible rfl)
              simp only [Act.put, List.getElem_toArray, List.getElem_cons_succ, List.getElem_cons_zero, List.setIfInBounds_toArray, List.set_cons_zero, List.set_cons_succ]
              refine wpAnyH_take (i := 10) (v := ?_) rfl (by kernel_rfl) (by kernel_rfl) (by kernel_rfl) (fun _ _ _ h => h) (Or.inl ⟨by rfl, ?_⟩) hHeld ?_
              rotate_left
              · intro wq hSw; go_simp; (try with_reducible rfl)
              simp only [Act.put, List.getElem_toArray, List.getElem_cons_succ, List.getElem_cons_zero, List.setIfInBounds_toArray, List.set_cons_zero, List.set_cons_succ]
              refine wpAnyH_take (i := 11) (v := ?_) rfl (by kernel_rfl) (by kernel_rfl) (by kernel_rfl) (fun _ _ _ h => h) (Or.inl ⟨by rfl, ?_⟩) hHeld ?_
              rotate_left
              · intro wq hSw; go_simp; (try with_reducible rfl)
              simp only [Act.put, List.getElem_toArray, List.getElem_cons_succ, List.getElem_cons_zero, List.setIfInBounds_toArray, List.set_cons_zero, List.set_cons_succ]
              refine wpAnyH_take (i := 12) (v := ?_) rfl (by kernel_rfl) (by kernel_rfl) (by kernel_rfl) (fun _ _ _ h => h) (Or.inl ⟨by rfl, ?_⟩) hHeld ?_
              rotate_left
              · intro wq hSw; have hq1 := cell_up hSw y1; go_simp; (try with_reducible rfl)
              simp only [Act.put, List.getElem_toArray, List.getElem_cons_succ, List.getElem_cons_zero, List.setIfInBounds_toArray, List.set_cons_zero, List.set_cons_succ]
              refine wpAnyH_by (bytR acc R0 T0 ss0) (fun wx wy => Below wx.heap.size wx wy) [(3, some 58), (4, some 59), (13, some 68), (14, some 69), (15, some 70), (16, some 3)] 0 rfl (by kernel_rfl) (by kernel_rfl) (by kernel_rfl) (by kernel_rfl) (by kernel_rfl) (by kernel_rfl) (by kernel_rfl) (bytR_up acc R0 T0 ss0) hHeld ?_ ?_
              · skip
                refine StepsI.skip (by kernel_rfl) ?_
                refine StepsI.skip (by kernel_rfl) ?_
                refine StepsI.skip (by kernel_rfl) ?_
                refine StepsI.cons (fun vals wx hS hd K hK => ?_) ?_
                · simp only [fillA, Act.put, List.setIfInBounds_toArray, List.set_cons_zero, List.set_cons_succ] at hK ⊢
                  go_simp
                  (with_reducible refine (HR.out _).mono ?_)
                  rintro e1 w6 ⟨rfl, hb6⟩
                  exact hK.out _ _ rfl (Chain.up hS hb6) hb6
                refine StepsI.cons (fun vals wx hS hd K hK => ?_) ?_
                · simp only [fillA, Act.put, List.setIfInBounds_toArray, List.set_cons_zero, List.set_cons_succ] at hK ⊢
                  have h1 : vals 3 = S R0 := hd 3 (some 58) (by decide) (by kernel_rfl)
                  simp only [h1] at hK ⊢
                  go_simp
                  exact hK.out _ _ rfl hS (Below.refl _ _)
                refine StepsI.skip (by kernel_rfl) ?_
                refine StepsI.skip (by kernel_rfl) ?_
                refine StepsI.skip (by kernel_rfl) ?_
                refine StepsI.skip (by kernel_rfl) ?_
                refine StepsI.skip (by kernel_rfl) ?_
                refine StepsI.skip (by kernel_rfl) ?_
                refine StepsI.skip (by kernel_rfl) ?_
                refine StepsI.skip (by kernel_rfl) ?_
                refine StepsI.cons (fun vals wx hS hd K hK => ?_) ?_
                · simp only [fillA, Act.put, List.setIfInBounds_toArray, List.set_cons_zero, List.set_cons_succ] at hK ⊢
                  go_simp
                  exact hK.out _ _ ⟨_, _, rfl, strs_new wx ss0 _ _ (by rw [Hss.out]; rfl)⟩ (hS.alloc hS.size _) ((Below.refl _ _).alloc (Nat.le_refl _) _)
                refine StepsI.cons (fun vals wx hS hd K hK => ?_) ?_
                · simp only [fillA, Act.put, List.setIfInBounds_toArray, List.set_cons_zero, List.set_cons_succ] at hK ⊢
                  obtain ⟨a1, c1, h1, p1⟩ := hd 13 (some 68) (by decide) (by kernel_rfl)
                  simp only [h1] at hK ⊢
                  go_simp
                  (with_reducible refine (HT.out _ _ _ p1).mono ?_)
                  rintro e1 w6 ⟨rfl, hb6⟩
                  exact hK.out _ _ rfl (Chain.up hS hb6) hb6
                refine StepsI.cons (fun vals wx hS hd K hK => ?_) ?_
                · simp only [fillA, Act.put, List.setIfInBounds_toArray, List.set_cons_zero, List.set_cons_succ] at hK ⊢
                  have h1 : vals 4 = S (acc ++ R0) := hd 4 (some 59) (by decide) (by kernel_rfl)
                  have h2 : vals 14 = S T0 := hd 14 (some 69) (by decide) (by kernel_rfl)
                  simp only [h1, h2] at hK ⊢
                  go_simp
                  exact hK.out _ _ rfl hS (Below.refl _ _)
                refine StepsI.cons (fun vals wx hS hd K hK => ?_) ?_
                · simp only [fillA, Act.put, List.setIfInBounds_toArray, List.set_cons_zero, List.set_cons_succ] at hK ⊢
                  have h1 : vals 15 = S (acc ++ (R0 ++ T0)) := hd 15 (some 70) (by decide) (by kernel_rfl)
                  simp only [h1] at hK ⊢
                  go_simp
                  exact hK.out _ _ rfl hS (Below.refl _ _)
                exact StepsI.nil
              · intro vals wx hS hR
                have hv : vals 16 = S (acc ++ (R0 ++ T0)) := hR (16, some 3) (by decide)
                refine wpAnyH_done (by kernel_rfl) ?_ _
                simp only [fillA, Act.put, List.setIfInBounds_toArray, List.set_cons_zero, List.set_cons_succ, hv]
                clear hR
                generalize vals 3 = v3
                generalize vals 4 = v4
                generalize vals 13 = v13
                generalize vals 14 = v14
                generalize vals 15 = v15
              -- END R13D
                go_wp2_with fail
                go_roundw
                case rel => exact ⟨j1 + 1 + 1, by omega, by go_num, by rw [Hent.out], by rw [Htl.out], Chain.up hc3 hS⟩
                case measure => simp [intOf]; omega
    · obtain rfl : j = n := by omega
      have Hfin := Lib.hid (show P.upTo l j ++ P.tailB l j ++ P.be 4 j = P.bytesB l from by have := Hn.out; subst this; rfl)
      have H4 := Lib.hid (fun wx => four_any j wx (by omega))
      have hbl := P.be_length 4 j
      generalize P.be 4 j = pl at *
      generalize P.upTo l j = acc at *
      generalize P.tailB l j = tl at *
      have hadd1 : ¬ 9223372036854775807 < acc.length + tl.length := by omega
      have hadd2 : ¬ 9223372036854775807 < (acc ++ tl).length + pl.length := by rw [List.length_append]; omega
      have hadd3 : ¬ 9223372036854775807 < acc.length + tl.length + pl.length := by omega
      go_wp2_with (go_at_call 33; (with_reducible refine (H4.out _).mono ?_); rintro e w3 ⟨rfl, hb3⟩)
      go_ret
      exact ⟨by rw [← Hfin.out, List.append_assoc]; rfl, Chain.up hb hb3⟩
end Go.Proofs.Ythaiekilifoegaa
