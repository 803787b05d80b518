/- The walk of the reader of answers: told of pools. -/
import Derived.Test.YtcobfoiajdbahaaDoorWQTold2
namespace Go.Proofs.YtcobfoiajdbahaaDoor
open Go.RowKit
set_option linter.unusedVariables false
set_option linter.unusedSimpArgs false
set_option maxRecDepth 100000 in
set_option maxHeartbeats 16000000 in
theorem told_pools (op : Nat) (hop : op = 13 ∨ op = 14) : ToldOk op := by
  intro g q w hs hx
  have hlt := hx.lt
  have hA := (Below.refl w.heap.size w).alloc (Nat.le_refl _) (.cells #[.int .u8 0, .int .u64 0, .int .u64 0, .string ⟨#[]⟩, .int .u64 0, .int .u8 0, .int .u64 0, .int .u64 0, .int .i64 0, .bool false, .bool false, .bool false, .int .u64 0, .slice none 0 0, .slice none 0 0, .slice none 0 0] 36)
  have hz0 := Bx.fresh w 36 #[.int .u8 0, .int .u64 0, .int .u64 0, .string ⟨#[]⟩, .int .u64 0, .int .u8 0, .int .u64 0, .int .u64 0, .int .i64 0, .bool false, .bool false, .bool false, .int .u64 0, .slice none 0 0, .slice none 0 0, .slice none 0 0]
  have hx0 := hx.up hA
  have hne : w.heap.size ≠ g := by omega
  have hle := P.qB_le 0 16 q
  have hmost := P.qB_most 0 16 q
  have HB := Lib.hid (fun wx (h : RdX wx g q) => show Calls Tryd.prog 55 #[.pointer (some ⟨g, 0, none⟩), .int .i64 0, .int .i64 16] wx fun e w' => e = .returned (.int .i64 ((P.qB 0 16 q).1 : Nat)) ∧ RdX w' g (P.qB 0 16 q).2 ∧ But g wx w' from byte_any g q 0 16 (by omega) wx (by omega) h)
  have Hk := Lib.hid (show P.qTold op q = ({ P.noAn with pools := (P.qList P.qX (P.qB 0 16 q).1 (P.qB 0 16 q).2).1 }, (P.qList P.qX (P.qB 0 16 q).1 (P.qB 0 16 q).2).2) by rcases hop with rfl | rfl <;> rfl)
  have Hlen := Lib.hid (fun j => P.qList_len P.qX j (P.qB 0 16 q).2)
  have Hle := Lib.hid (fun j => P.qList_le P.qX P.qX_le j (P.qB 0 16 q).2)
  have Hsu := Lib.hid (fun j => show P.qList P.qX (j + 1) (P.qB 0 16 q).2 = ((P.qList P.qX j (P.qB 0 16 q).2).1 ++ [(P.qX (P.qList P.qX j (P.qB 0 16 q).2).2).1], (P.qX (P.qList P.qX j (P.qB 0 16 q).2).2).2) from rfl)
  have h0 : P.qList P.qX 0 (P.qB 0 16 q).2 = ([], (P.qB 0 16 q).2) := rfl
  generalize P.qB 0 16 q = bb at *
  obtain ⟨n, q1⟩ := bb
  simp only at HB Hk Hlen Hle Hsu h0 hle hmost
  generalize hL : (fun j => P.qList P.qX j q1) = L at *
  have hL' : ∀ j, P.qList P.qX j q1 = L j := fun j => by rw [← hL]
  simp only [hL'] at Hk Hlen Hle Hsu h0
  clear hL hL'
  rcases hop with hop | hop
  · skip
    have t5 : ((op : Int) == 5) = false := beq_eq_false_iff_ne.2 (by omega)
    have t6 : ((op : Int) == 6) = false := beq_eq_false_iff_ne.2 (by omega)
    have t7 : ((op : Int) == 7) = false := beq_eq_false_iff_ne.2 (by omega)
    have t10 : ((op : Int) == 10) = false := beq_eq_false_iff_ne.2 (by omega)
    have t11 : ((op : Int) == 11) = false := beq_eq_false_iff_ne.2 (by omega)
    have t12 : ((op : Int) == 12) = false := beq_eq_false_iff_ne.2 (by omega)
    have t13 : ((op : Int) == 13) = true := beq_iff_eq.2 (by omega)
    clear hop
    go_enter Tryd.func67, Tryd.ntmps67
    go_wp2_with (go_at_call 55; (with_reducible refine (HB.out _ hx0).mono ?_); rintro e w1 ⟨rfl, hx1, hb1⟩; have hz1 := hz0.but hb1 hne)
    have hb01 := (But.of hA).trans hb1
    have hlt1 := hz1.lt
    go_loopw [63] (fun i wr => ∃ (j : Nat) (a : Option Addr) (c : Nat), j ≤ n ∧ i = .int .i64 (j : Int) ∧ Bx wr w.heap.size 36 #[.int .u8 0, .int .u64 0, .int .u64 0, .string ⟨#[]⟩, .int .u64 0, .int .u8 0, .int .u64 0, .int .u64 0, .int .i64 0, .bool false, .bool false, .bool false, .int .u64 0, .slice none 0 0, .slice none 0 0, .slice a (L j).1.length c] ∧ OwnR 26 4 pxC wr (w.heap.size + 1) (.slice a (L j).1.length c) (L j).1 ∧ RdX wr g (L j).2 ∧ But g w wr) (fun i _ => n - (intOf i).toNat)
    case atStart => exact ⟨0, none, 0, by omega, rfl, by rw [h0]; exact hz1, by rw [h0]; exact ownR_nil _ _, by rw [h0]; exact hx1, hb01⟩
    case round =>
      clear hz1 hb1 hx1 hb01 hlt1 hz0 hx0 hA HB
      obtain ⟨j, a, c, hj, rfl, hz, hown, hx, hb⟩ := hrel
      have hlj := Hlen.out j
      have hszl : w.heap.size < wr.heap.size := hz.lt
      have hqs : (L j).2.1.length ≤ 1000000000 := Nat.le_trans (Hle.out j) (by omega)
      by_cases hjn : j < n
      · have hji : decide ((j : Int) < (n : Int)) = true := decide_eq_true (by omega)
        have hwj : IntKind.i64.wrap ((j : Int) + 1) = (j : Int) + 1 := wrap_mid (by omega) (by omega)
        have hsu := Hsu.out j
        have HC3 := Lib.hid (fun wx (h : RdX wx g (L j).2) => prefix_any g (L j).2 wx hqs h)
        have Hs3 := Lib.hid (show L (j + 1) = ((L j).1 ++ [(P.qX (L j).2).1], (P.qX (L j).2).2) from hsu)
        clear hsu hqs
        generalize P.qX (L j).2 = aa at *
        generalize L j = st at *
        obtain ⟨l, q2⟩ := st
        obtain ⟨x, qz⟩ := aa
        simp only at HC3 Hs3 hlj hz hown hx
        have Hlj := Lib.hid hlj
        clear hlj
        have hzW0 : Bx wr.drew w.heap.size 36 #[.int .u8 0, .int .u64 0, .int .u64 0, .string ⟨#[]⟩, .int .u64 0, .int .u8 0, .int .u64 0, .int .u64 0, .int .i64 0, .bool false, .bool false, .bool false, .int .u64 0, .slice none 0 0, .slice none 0 0, .slice a l.length c] := hz.drew
        have hxW0 : RdX wr.drew g q2 := hx.drew
        have hoW0 : OwnR 26 4 pxC wr.drew (w.heap.size + 1) (.slice a l.length c) l := hown
        have hSW0 : But g w wr.drew := hb.drew
        go_upto_region 23 with fail
        refine wp_region_held_drew (S := fun wx => But g w wx) (by kernel_rfl) hSW0 (fun _ => ?_)
        refine wpAnyH_take (i := 0) (v := ?_) rfl (by kernel_rfl) (by kernel_rfl) (by kernel_rfl) (fun _ _ _ h => h) (Or.inl ⟨by rfl, ?_⟩) hSW0 ?_
        rotate_left
        · intro wq hSw; go_simp; (try with_reducible rfl)
        simp only [Act.put, nrm]
        refine wpAnyH_take (i := 2) (v := ?_) rfl (by kernel_rfl) (by kernel_rfl) (by kernel_rfl) (fun _ _ _ h => h) (Or.inl ⟨by rfl, ?_⟩) hSW0 ?_
        rotate_left
        · intro wq hSw; go_simp; (try with_reducible rfl)
        simp only [Act.put, nrm]
        refine wpAnyH_two (i := 1) (j := 3) (by kernel_rfl) rfl rfl (fun K hK => ?_) (fun K hK => ?_)
        · simp only [nrm]
          have hq0 := hzW0.cell 15
          simp only [List.getElem?_toArray, List.getElem?_cons_succ, List.getElem?_cons_zero] at hq0
          go_simp
          refine hK.out _ _ hSW0 ?_
          clear hK K
          refine wpAnyH_one (i := 3) (by kernel_rfl) rfl (fun K hK => ?_)
          simp only [nrm]
          go_simp
          (with_reducible refine (HC3.out _ hxW0).mono ?_)
          rintro e W3 ⟨rfl, hxW3, hbW3⟩
          have hzW3 := hzW0.but hbW3 hne
          have hoW3 := hoW0.but hxW0 (by decide) hbW3
          have hSW3 := hSW0.trans hbW3
          refine hK.out _ _ hSW3 ?_
          clear hK K
          refine wpAnyH_one (i := 4) (by kernel_rfl) rfl (fun K hK => ?_)
          simp only [nrm]
          go_simp
          have hB1 := (Below.refl W3.heap.size W3).alloc (Nat.le_refl _) (.cells #[.int .u8 (x.a.fam : Nat), V64 x.a.hi, V64 x.a.lo, .int .i64 x.bits] 26)
          have hrow := rows_new 4 pxC pxC_len W3 [x] #[.int .u8 (x.a.fam : Nat), V64 x.a.hi, V64 x.a.lo, .int .i64 x.bits] 26 rfl
          have hzWB := hzW3.up hB1
          have hoWB := hoW3.up hB1
          have hxWB := Bx.up hxW3 hB1
          have hSWB := hSW3.up (Below.alloc (Below.refl _ _) hSW3.size (.cells #[.int .u8 (x.a.fam : Nat), V64 x.a.hi, V64 x.a.lo, .int .i64 x.bits] 26))
          refine hK.out _ _ hSWB ?_
          clear hK K
          refine wpAnyH_one (i := 5) (by kernel_rfl) rfl (fun K hK => ?_)
          simp only [nrm]
          rw [if_pos (by rfl)]
          obtain ⟨iE, e1, e2, e3, e4⟩ := info_parts infoPx3
          refine wp_appR _ _ _ (by rfl) iE _ _ Tryd.underlying34 e1 e2 e3 e4 rfl (by decide) pxC_len pxC_one [x] (by rfl) hoWB (by have := Hlj.out; simp only [List.length_singleton]; omega) (by decide) _ _ _ (by rfl) (by rfl) hrow (by have := hzWB.lt; omega) ?_
          intro v9 w9 hown9 hb9 hkt9
          obtain ⟨a9, c9, hv9, -, -⟩ := hown9.is pxC_len
          subst hv9
          have hz9 := hzWB.below hb9 (by omega)
          have hx9 : RdX w9 g qz := Bx.below hxWB hb9 (by omega)
          have hS9 := hSWB.up (hb9.mono (by omega))
          refine hK.out _ _ hS9 ?_
          simp only [Act.put, nrm]
          clear hK K
          refine wpAnyH_take (i := 6) (v := ?_) rfl (by kernel_rfl) (by kernel_rfl) (by kernel_rfl) (fun _ _ _ h => h) (Or.inl ⟨by rfl, ?_⟩) hS9 ?_
          rotate_left
          · intro wq hSw; go_simp; (try with_reducible rfl)
          simp only [Act.put, nrm]
          refine wpAnyH_one (i := 7) (by kernel_rfl) rfl (fun K hK => ?_)
          simp only [nrm]
          rw [if_pos (by rfl)]
          refine wp_stV _ _ _ (by rfl) hz9 _ _ (by rfl) (by rfl) (by rfl) (by rfl) 16 (by rfl) (by decide) infoSlP (by rfl) ?_
          intro w10 hz' hb10
          have hz10 : Bx w10 w.heap.size 36 #[.int .u8 0, .int .u64 0, .int .u64 0, .string ⟨#[]⟩, .int .u64 0, .int .u8 0, .int .u64 0, .int .u64 0, .int .i64 0, .bool false, .bool false, .bool false, .int .u64 0, .slice none 0 0, .slice none 0 0, .slice a9 (l ++ [x]).length c9] := hz'
          have hx10 : RdX w10 g qz := Bx.but hx9 hb10 (Ne.symm hne)
          have ho10 := hown9.but hz9 (by decide) hb10
          have hS10 := hS9.after hb10 (Nat.le_refl _)
          refine hK.out _ _ hS10 ?_
          simp only [Act.put, nrm]
          clear hK K
          refine wpAnyH_done (by kernel_rfl) ?_ _
          go_wp2_with fail
          go_roundw
          case rel => exact ⟨j + 1, a9, c9, by omega, by go_num, by rw [Hs3.out]; exact hz10, by rw [Hs3.out]; exact ho10, by rw [Hs3.out]; exact hx10, hS10⟩
          case measure => simp [intOf]; omega
        · simp only [nrm]
          go_simp
          (with_reducible refine (HC3.out _ hxW0).mono ?_)
          rintro e W3 ⟨rfl, hxW3, hbW3⟩
          have hzW3 := hzW0.but hbW3 hne
          have hoW3 := hoW0.but hxW0 (by decide) hbW3
          have hSW3 := hSW0.trans hbW3
          refine hK.out _ _ hSW3 ?_
          clear hK K
          refine wpAnyH_two (i := 1) (j := 4) (by kernel_rfl) rfl rfl (fun K hK => ?_) (fun K hK => ?_)
          · simp only [nrm]
            have hq0 := hzW3.cell 15
            simp only [List.getElem?_toArray, List.getElem?_cons_succ, List.getElem?_cons_zero] at hq0
            go_simp
            refine hK.out _ _ hSW3 ?_
            clear hK K
            refine wpAnyH_one (i := 4) (by kernel_rfl) rfl (fun K hK => ?_)
            simp only [nrm]
            go_simp
            have hB1 := (Below.refl W3.heap.size W3).alloc (Nat.le_refl _) (.cells #[.int .u8 (x.a.fam : Nat), V64 x.a.hi, V64 x.a.lo, .int .i64 x.bits] 26)
            have hrow := rows_new 4 pxC pxC_len W3 [x] #[.int .u8 (x.a.fam : Nat), V64 x.a.hi, V64 x.a.lo, .int .i64 x.bits] 26 rfl
            have hzWB := hzW3.up hB1
            have hoWB := hoW3.up hB1
            have hxWB := Bx.up hxW3 hB1
            have hSWB := hSW3.up (Below.alloc (Below.refl _ _) hSW3.size (.cells #[.int .u8 (x.a.fam : Nat), V64 x.a.hi, V64 x.a.lo, .int .i64 x.bits] 26))
            refine hK.out _ _ hSWB ?_
            clear hK K
            refine wpAnyH_one (i := 5) (by kernel_rfl) rfl (fun K hK => ?_)
            simp only [nrm]
            rw [if_pos (by rfl)]
            obtain ⟨iE, e1, e2, e3, e4⟩ := info_parts infoPx3
            refine wp_appR _ _ _ (by rfl) iE _ _ Tryd.underlying34 e1 e2 e3 e4 rfl (by decide) pxC_len pxC_one [x] (by rfl) hoWB (by have := Hlj.out; simp only [List.length_singleton]; omega) (by decide) _ _ _ (by rfl) (by rfl) hrow (by have := hzWB.lt; omega) ?_
            intro v9 w9 hown9 hb9 hkt9
            obtain ⟨a9, c9, hv9, -, -⟩ := hown9.is pxC_len
            subst hv9
            have hz9 := hzWB.below hb9 (by omega)
            have hx9 : RdX w9 g qz := Bx.below hxWB hb9 (by omega)
            have hS9 := hSWB.up (hb9.mono (by omega))
            refine hK.out _ _ hS9 ?_
            simp only [Act.put, nrm]
            clear hK K
            refine wpAnyH_take (i := 6) (v := ?_) rfl (by kernel_rfl) (by kernel_rfl) (by kernel_rfl) (fun _ _ _ h => h) (Or.inl ⟨by rfl, ?_⟩) hS9 ?_
            rotate_left
            · intro wq hSw; go_simp; (try with_reducible rfl)
            simp only [Act.put, nrm]
            refine wpAnyH_one (i := 7) (by kernel_rfl) rfl (fun K hK => ?_)
            simp only [nrm]
            rw [if_pos (by rfl)]
            refine wp_stV _ _ _ (by rfl) hz9 _ _ (by rfl) (by rfl) (by rfl) (by rfl) 16 (by rfl) (by decide) infoSlP (by rfl) ?_
            intro w10 hz' hb10
            have hz10 : Bx w10 w.heap.size 36 #[.int .u8 0, .int .u64 0, .int .u64 0, .string ⟨#[]⟩, .int .u64 0, .int .u8 0, .int .u64 0, .int .u64 0, .int .i64 0, .bool false, .bool false, .bool false, .int .u64 0, .slice none 0 0, .slice none 0 0, .slice a9 (l ++ [x]).length c9] := hz'
            have hx10 : RdX w10 g qz := Bx.but hx9 hb10 (Ne.symm hne)
            have ho10 := hown9.but hz9 (by decide) hb10
            have hS10 := hS9.after hb10 (Nat.le_refl _)
            refine hK.out _ _ hS10 ?_
            simp only [Act.put, nrm]
            clear hK K
            refine wpAnyH_done (by kernel_rfl) ?_ _
            go_wp2_with fail
            go_roundw
            case rel => exact ⟨j + 1, a9, c9, by omega, by go_num, by rw [Hs3.out]; exact hz10, by rw [Hs3.out]; exact ho10, by rw [Hs3.out]; exact hx10, hS10⟩
            case measure => simp [intOf]; omega
          · simp only [nrm]
            go_simp
            have hB1 := (Below.refl W3.heap.size W3).alloc (Nat.le_refl _) (.cells #[.int .u8 (x.a.fam : Nat), V64 x.a.hi, V64 x.a.lo, .int .i64 x.bits] 26)
            have hrow := rows_new 4 pxC pxC_len W3 [x] #[.int .u8 (x.a.fam : Nat), V64 x.a.hi, V64 x.a.lo, .int .i64 x.bits] 26 rfl
            have hzWB := hzW3.up hB1
            have hoWB := hoW3.up hB1
            have hxWB := Bx.up hxW3 hB1
            have hSWB := hSW3.up (Below.alloc (Below.refl _ _) hSW3.size (.cells #[.int .u8 (x.a.fam : Nat), V64 x.a.hi, V64 x.a.lo, .int .i64 x.bits] 26))
            refine hK.out _ _ hSWB ?_
            clear hK K
            refine wpAnyH_one (i := 1) (by kernel_rfl) rfl (fun K hK => ?_)
            simp only [nrm]
            have hq0 := hzWB.cell 15
            simp only [List.getElem?_toArray, List.getElem?_cons_succ, List.getElem?_cons_zero] at hq0
            go_simp
            refine hK.out _ _ hSWB ?_
            clear hK K
            refine wpAnyH_one (i := 5) (by kernel_rfl) rfl (fun K hK => ?_)
            simp only [nrm]
            rw [if_pos (by rfl)]
            obtain ⟨iE, e1, e2, e3, e4⟩ := info_parts infoPx3
            refine wp_appR _ _ _ (by rfl) iE _ _ Tryd.underlying34 e1 e2 e3 e4 rfl (by decide) pxC_len pxC_one [x] (by rfl) hoWB (by have := Hlj.out; simp only [List.length_singleton]; omega) (by decide) _ _ _ (by rfl) (by rfl) hrow (by have := hzWB.lt; omega) ?_
            intro v9 w9 hown9 hb9 hkt9
            obtain ⟨a9, c9, hv9, -, -⟩ := hown9.is pxC_len
            subst hv9
            have hz9 := hzWB.below hb9 (by omega)
            have hx9 : RdX w9 g qz := Bx.below hxWB hb9 (by omega)
            have hS9 := hSWB.up (hb9.mono (by omega))
            refine hK.out _ _ hS9 ?_
            simp only [Act.put, nrm]
            clear hK K
            refine wpAnyH_take (i := 6) (v := ?_) rfl (by kernel_rfl) (by kernel_rfl) (by kernel_rfl) (fun _ _ _ h => h) (Or.inl ⟨by rfl, ?_⟩) hS9 ?_
            rotate_left
            · intro wq hSw; go_simp; (try with_reducible rfl)
            simp only [Act.put, nrm]
            refine wpAnyH_one (i := 7) (by kernel_rfl) rfl (fun K hK => ?_)
            simp only [nrm]
            rw [if_pos (by rfl)]
            refine wp_stV _ _ _ (by rfl) hz9 _ _ (by rfl) (by rfl) (by rfl) (by rfl) 16 (by rfl) (by decide) infoSlP (by rfl) ?_
            intro w10 hz' hb10
            have hz10 : Bx w10 w.heap.size 36 #[.int .u8 0, .int .u64 0, .int .u64 0, .string ⟨#[]⟩, .int .u64 0, .int .u8 0, .int .u64 0, .int .u64 0, .int .i64 0, .bool false, .bool false, .bool false, .int .u64 0, .slice none 0 0, .slice none 0 0, .slice a9 (l ++ [x]).length c9] := hz'
            have hx10 : RdX w10 g qz := Bx.but hx9 hb10 (Ne.symm hne)
            have ho10 := hown9.but hz9 (by decide) hb10
            have hS10 := hS9.after hb10 (Nat.le_refl _)
            refine hK.out _ _ hS10 ?_
            simp only [Act.put, nrm]
            clear hK K
            refine wpAnyH_done (by kernel_rfl) ?_ _
            go_wp2_with fail
            go_roundw
            case rel => exact ⟨j + 1, a9, c9, by omega, by go_num, by rw [Hs3.out]; exact hz10, by rw [Hs3.out]; exact ho10, by rw [Hs3.out]; exact hx10, hS10⟩
            case measure => simp [intOf]; omega
      · have hji : decide ((j : Int) < (n : Int)) = false := decide_eq_false (by omega)
        obtain rfl : j = n := by omega
        clear Hsu Hle hqs
        generalize L j = st at *
        obtain ⟨l, q2⟩ := st
        go_wp2_with (first
          | (refine wpList_ldB (by rfl) _ _ (by rfl) hz (by rfl) structAns 16 infoAns (by rfl) ?_)
          | (refine wpList_stB (by rfl) _ _ _ (by rfl) hz _ _ (by rfl) (by rfl) 16 16 (by rfl) (by rfl) (by decide) infoAns (by rfl) (by rfl) ?_; intro w3 hz' hbw3; have hzw3 : Bx w3 w.heap.size 36 #[.int .u8 0, .int .u64 0, .int .u64 0, .string ⟨#[]⟩, .int .u64 0, .int .u8 0, .int .u64 0, .int .u64 0, .int .i64 0, .bool false, .bool false, .bool false, .int .u64 0, .slice none 0 0, .slice none 0 0, .slice a l.length c] := hz'; clear hz'; have hxw3 := Bx.but hx hbw3 (Ne.symm hne)))
        have ho3 := hown.but hz (by decide) hbw3
        exact bodyPost_ret (results_box rfl (by rfl) (loadB hzw3 structAns infoAns rfl)) rfl ⟨none, 0, none, 0, a, c, by rw [Hk.out]; rfl, by rw [Hk.out]; exact ⟨ownR_nil _ _, ownR_nil _ _, ho3.low (Nat.le_succ _)⟩, by rw [Hk.out]; exact hxw3, hb.after hbw3 (Nat.le_refl _)⟩
  · skip
    have t5 : ((op : Int) == 5) = false := beq_eq_false_iff_ne.2 (by omega)
    have t6 : ((op : Int) == 6) = false := beq_eq_false_iff_ne.2 (by omega)
    have t7 : ((op : Int) == 7) = false := beq_eq_false_iff_ne.2 (by omega)
    have t10 : ((op : Int) == 10) = false := beq_eq_false_iff_ne.2 (by omega)
    have t11 : ((op : Int) == 11) = false := beq_eq_false_iff_ne.2 (by omega)
    have t12 : ((op : Int) == 12) = false := beq_eq_false_iff_ne.2 (by omega)
    have t13 : ((op : Int) == 13) = false := beq_eq_false_iff_ne.2 (by omega)
    have t14 : ((op : Int) == 14) = true := beq_iff_eq.2 (by omega)
    clear hop
    go_enter Tryd.func67, Tryd.ntmps67
    go_wp2_with (go_at_call 55; (with_reducible refine (HB.out _ hx0).mono ?_); rintro e w1 ⟨rfl, hx1, hb1⟩; have hz1 := hz0.but hb1 hne)
    have hb01 := (But.of hA).trans hb1
    have hlt1 := hz1.lt
    go_loopw [63] (fun i wr => ∃ (j : Nat) (a : Option Addr) (c : Nat), j ≤ n ∧ i = .int .i64 (j : Int) ∧ Bx wr w.heap.size 36 #[.int .u8 0, .int .u64 0, .int .u64 0, .string ⟨#[]⟩, .int .u64 0, .int .u8 0, .int .u64 0, .int .u64 0, .int .i64 0, .bool false, .bool false, .bool false, .int .u64 0, .slice none 0 0, .slice none 0 0, .slice a (L j).1.length c] ∧ OwnR 26 4 pxC wr (w.heap.size + 1) (.slice a (L j).1.length c) (L j).1 ∧ RdX wr g (L j).2 ∧ But g w wr) (fun i _ => n - (intOf i).toNat)
    case atStart => exact ⟨0, none, 0, by omega, rfl, by rw [h0]; exact hz1, by rw [h0]; exact ownR_nil _ _, by rw [h0]; exact hx1, hb01⟩
    case round =>
      clear hz1 hb1 hx1 hb01 hlt1 hz0 hx0 hA HB
      obtain ⟨j, a, c, hj, rfl, hz, hown, hx, hb⟩ := hrel
      have hlj := Hlen.out j
      have hszl : w.heap.size < wr.heap.size := hz.lt
      have hqs : (L j).2.1.length ≤ 1000000000 := Nat.le_trans (Hle.out j) (by omega)
      by_cases hjn : j < n
      · have hji : decide ((j : Int) < (n : Int)) = true := decide_eq_true (by omega)
        have hwj : IntKind.i64.wrap ((j : Int) + 1) = (j : Int) + 1 := wrap_mid (by omega) (by omega)
        have hsu := Hsu.out j
        have HC3 := Lib.hid (fun wx (h : RdX wx g (L j).2) => prefix_any g (L j).2 wx hqs h)
        have Hs3 := Lib.hid (show L (j + 1) = ((L j).1 ++ [(P.qX (L j).2).1], (P.qX (L j).2).2) from hsu)
        clear hsu hqs
        generalize P.qX (L j).2 = aa at *
        generalize L j = st at *
        obtain ⟨l, q2⟩ := st
        obtain ⟨x, qz⟩ := aa
        simp only at HC3 Hs3 hlj hz hown hx
        have Hlj := Lib.hid hlj
        clear hlj
        have hzW0 : Bx wr.drew w.heap.size 36 #[.int .u8 0, .int .u64 0, .int .u64 0, .string ⟨#[]⟩, .int .u64 0, .int .u8 0, .int .u64 0, .int .u64 0, .int .i64 0, .bool false, .bool false, .bool false, .int .u64 0, .slice none 0 0, .slice none 0 0, .slice a l.length c] := hz.drew
        have hxW0 : RdX wr.drew g q2 := hx.drew
        have hoW0 : OwnR 26 4 pxC wr.drew (w.heap.size + 1) (.slice a l.length c) l := hown
        have hSW0 : But g w wr.drew := hb.drew
        go_upto_region 23 with fail
        refine wp_region_held_drew (S := fun wx => But g w wx) (by kernel_rfl) hSW0 (fun _ => ?_)
        refine wpAnyH_take (i := 0) (v := ?_) rfl (by kernel_rfl) (by kernel_rfl) (by kernel_rfl) (fun _ _ _ h => h) (Or.inl ⟨by rfl, ?_⟩) hSW0 ?_
        rotate_left
        · intro wq hSw; go_simp; (try with_reducible rfl)
        simp only [Act.put, nrm]
        refine wpAnyH_take (i := 2) (v := ?_) rfl (by kernel_rfl) (by kernel_rfl) (by kernel_rfl) (fun _ _ _ h => h) (Or.inl ⟨by rfl, ?_⟩) hSW0 ?_
        rotate_left
        · intro wq hSw; go_simp; (try with_reducible rfl)
        simp only [Act.put, nrm]
        refine wpAnyH_two (i := 1) (j := 3) (by kernel_rfl) rfl rfl (fun K hK => ?_) (fun K hK => ?_)
        · simp only [nrm]
          have hq0 := hzW0.cell 15
          simp only [List.getElem?_toArray, List.getElem?_cons_succ, List.getElem?_cons_zero] at hq0
          go_simp
          refine hK.out _ _ hSW0 ?_
          clear hK K
          refine wpAnyH_one (i := 3) (by kernel_rfl) rfl (fun K hK => ?_)
          simp only [nrm]
          go_simp
          (with_reducible refine (HC3.out _ hxW0).mono ?_)
          rintro e W3 ⟨rfl, hxW3, hbW3⟩
          have hzW3 := hzW0.but hbW3 hne
          have hoW3 := hoW0.but hxW0 (by decide) hbW3
          have hSW3 := hSW0.trans hbW3
          refine hK.out _ _ hSW3 ?_
          clear hK K
          refine wpAnyH_one (i := 4) (by kernel_rfl) rfl (fun K hK => ?_)
          simp only [nrm]
          go_simp
          have hB1 := (Below.refl W3.heap.size W3).alloc (Nat.le_refl _) (.cells #[.int .u8 (x.a.fam : Nat), V64 x.a.hi, V64 x.a.lo, .int .i64 x.bits] 26)
          have hrow := rows_new 4 pxC pxC_len W3 [x] #[.int .u8 (x.a.fam : Nat), V64 x.a.hi, V64 x.a.lo, .int .i64 x.bits] 26 rfl
          have hzWB := hzW3.up hB1
          have hoWB := hoW3.up hB1
          have hxWB := Bx.up hxW3 hB1
          have hSWB := hSW3.up (Below.alloc (Below.refl _ _) hSW3.size (.cells #[.int .u8 (x.a.fam : Nat), V64 x.a.hi, V64 x.a.lo, .int .i64 x.bits] 26))
          refine hK.out _ _ hSWB ?_
          clear hK K
          refine wpAnyH_one (i := 5) (by kernel_rfl) rfl (fun K hK => ?_)
          simp only [nrm]
          rw [if_pos (by rfl)]
          obtain ⟨iE, e1, e2, e3, e4⟩ := info_parts infoPx3
          refine wp_appR _ _ _ (by rfl) iE _ _ Tryd.underlying34 e1 e2 e3 e4 rfl (by decide) pxC_len pxC_one [x] (by rfl) hoWB (by have := Hlj.out; simp only [List.length_singleton]; omega) (by decide) _ _ _ (by rfl) (by rfl) hrow (by have := hzWB.lt; omega) ?_
          intro v9 w9 hown9 hb9 hkt9
          obtain ⟨a9, c9, hv9, -, -⟩ := hown9.is pxC_len
          subst hv9
          have hz9 := hzWB.below hb9 (by omega)
          have hx9 : RdX w9 g qz := Bx.below hxWB hb9 (by omega)
          have hS9 := hSWB.up (hb9.mono (by omega))
          refine hK.out _ _ hS9 ?_
          simp only [Act.put, nrm]
          clear hK K
          refine wpAnyH_take (i := 6) (v := ?_) rfl (by kernel_rfl) (by kernel_rfl) (by kernel_rfl) (fun _ _ _ h => h) (Or.inl ⟨by rfl, ?_⟩) hS9 ?_
          rotate_left
          · intro wq hSw; go_simp; (try with_reducible rfl)
          simp only [Act.put, nrm]
          refine wpAnyH_one (i := 7) (by kernel_rfl) rfl (fun K hK => ?_)
          simp only [nrm]
          rw [if_pos (by rfl)]
          refine wp_stV _ _ _ (by rfl) hz9 _ _ (by rfl) (by rfl) (by rfl) (by rfl) 16 (by rfl) (by decide) infoSlP (by rfl) ?_
          intro w10 hz' hb10
          have hz10 : Bx w10 w.heap.size 36 #[.int .u8 0, .int .u64 0, .int .u64 0, .string ⟨#[]⟩, .int .u64 0, .int .u8 0, .int .u64 0, .int .u64 0, .int .i64 0, .bool false, .bool false, .bool false, .int .u64 0, .slice none 0 0, .slice none 0 0, .slice a9 (l ++ [x]).length c9] := hz'
          have hx10 : RdX w10 g qz := Bx.but hx9 hb10 (Ne.symm hne)
          have ho10 := hown9.but hz9 (by decide) hb10
          have hS10 := hS9.after hb10 (Nat.le_refl _)
          refine hK.out _ _ hS10 ?_
          simp only [Act.put, nrm]
          clear hK K
          refine wpAnyH_done (by kernel_rfl) ?_ _
          go_wp2_with fail
          go_roundw
          case rel => exact ⟨j + 1, a9, c9, by omega, by go_num, by rw [Hs3.out]; exact hz10, by rw [Hs3.out]; exact ho10, by rw [Hs3.out]; exact hx10, hS10⟩
          case measure => simp [intOf]; omega
        · simp only [nrm]
          go_simp
          (with_reducible refine (HC3.out _ hxW0).mono ?_)
          rintro e W3 ⟨rfl, hxW3, hbW3⟩
          have hzW3 := hzW0.but hbW3 hne
          have hoW3 := hoW0.but hxW0 (by decide) hbW3
          have hSW3 := hSW0.trans hbW3
          refine hK.out _ _ hSW3 ?_
          clear hK K
          refine wpAnyH_two (i := 1) (j := 4) (by kernel_rfl) rfl rfl (fun K hK => ?_) (fun K hK => ?_)
          · simp only [nrm]
            have hq0 := hzW3.cell 15
            simp only [List.getElem?_toArray, List.getElem?_cons_succ, List.getElem?_cons_zero] at hq0
            go_simp
            refine hK.out _ _ hSW3 ?_
            clear hK K
            refine wpAnyH_one (i := 4) (by kernel_rfl) rfl (fun K hK => ?_)
            simp only [nrm]
            go_simp
            have hB1 := (Below.refl W3.heap.size W3).alloc (Nat.le_refl _) (.cells #[.int .u8 (x.a.fam : Nat), V64 x.a.hi, V64 x.a.lo, .int .i64 x.bits] 26)
            have hrow := rows_new 4 pxC pxC_len W3 [x] #[.int .u8 (x.a.fam : Nat), V64 x.a.hi, V64 x.a.lo, .int .i64 x.bits] 26 rfl
            have hzWB := hzW3.up hB1
            have hoWB := hoW3.up hB1
            have hxWB := Bx.up hxW3 hB1
            have hSWB := hSW3.up (Below.alloc (Below.refl _ _) hSW3.size (.cells #[.int .u8 (x.a.fam : Nat), V64 x.a.hi, V64 x.a.lo, .int .i64 x.bits] 26))
            refine hK.out _ _ hSWB ?_
            clear hK K
            refine wpAnyH_one (i := 5) (by kernel_rfl) rfl (fun K hK => ?_)
            simp only [nrm]
            rw [if_pos (by rfl)]
            obtain ⟨iE, e1, e2, e3, e4⟩ := info_parts infoPx3
            refine wp_appR _ _ _ (by rfl) iE _ _ Tryd.underlying34 e1 e2 e3 e4 rfl (by decide) pxC_len pxC_one [x] (by rfl) hoWB (by have := Hlj.out; simp only [List.length_singleton]; omega) (by decide) _ _ _ (by rfl) (by rfl) hrow (by have := hzWB.lt; omega) ?_
            intro v9 w9 hown9 hb9 hkt9
            obtain ⟨a9, c9, hv9, -, -⟩ := hown9.is pxC_len
            subst hv9
            have hz9 := hzWB.below hb9 (by omega)
            have hx9 : RdX w9 g qz := Bx.below hxWB hb9 (by omega)
            have hS9 := hSWB.up (hb9.mono (by omega))
            refine hK.out _ _ hS9 ?_
            simp only [Act.put, nrm]
            clear hK K
            refine wpAnyH_take (i := 6) (v := ?_) rfl (by kernel_rfl) (by kernel_rfl) (by kernel_rfl) (fun _ _ _ h => h) (Or.inl ⟨by rfl, ?_⟩) hS9 ?_
            rotate_left
            · intro wq hSw; go_simp; (try with_reducible rfl)
            simp only [Act.put, nrm]
            refine wpAnyH_one (i := 7) (by kernel_rfl) rfl (fun K hK => ?_)
            simp only [nrm]
            rw [if_pos (by rfl)]
            refine wp_stV _ _ _ (by rfl) hz9 _ _ (by rfl) (by rfl) (by rfl) (by rfl) 16 (by rfl) (by decide) infoSlP (by rfl) ?_
            intro w10 hz' hb10
            have hz10 : Bx w10 w.heap.size 36 #[.int .u8 0, .int .u64 0, .int .u64 0, .string ⟨#[]⟩, .int .u64 0, .int .u8 0, .int .u64 0, .int .u64 0, .int .i64 0, .bool false, .bool false, .bool false, .int .u64 0, .slice none 0 0, .slice none 0 0, .slice a9 (l ++ [x]).length c9] := hz'
            have hx10 : RdX w10 g qz := Bx.but hx9 hb10 (Ne.symm hne)
            have ho10 := hown9.but hz9 (by decide) hb10
            have hS10 := hS9.after hb10 (Nat.le_refl _)
            refine hK.out _ _ hS10 ?_
            simp only [Act.put, nrm]
            clear hK K
            refine wpAnyH_done (by kernel_rfl) ?_ _
            go_wp2_with fail
            go_roundw
            case rel => exact ⟨j + 1, a9, c9, by omega, by go_num, by rw [Hs3.out]; exact hz10, by rw [Hs3.out]; exact ho10, by rw [Hs3.out]; exact hx10, hS10⟩
            case measure => simp [intOf]; omega
          · simp only [nrm]
            go_simp
            have hB1 := (Below.refl W3.heap.size W3).alloc (Nat.le_refl _) (.cells #[.int .u8 (x.a.fam : Nat), V64 x.a.hi, V64 x.a.lo, .int .i64 x.bits] 26)
            have hrow := rows_new 4 pxC pxC_len W3 [x] #[.int .u8 (x.a.fam : Nat), V64 x.a.hi, V64 x.a.lo, .int .i64 x.bits] 26 rfl
            have hzWB := hzW3.up hB1
            have hoWB := hoW3.up hB1
            have hxWB := Bx.up hxW3 hB1
            have hSWB := hSW3.up (Below.alloc (Below.refl _ _) hSW3.size (.cells #[.int .u8 (x.a.fam : Nat), V64 x.a.hi, V64 x.a.lo, .int .i64 x.bits] 26))
            refine hK.out _ _ hSWB ?_
            clear hK K
            refine wpAnyH_one (i := 1) (by kernel_rfl) rfl (fun K hK => ?_)
            simp only [nrm]
            have hq0 := hzWB.cell 15
            simp only [List.getElem?_toArray, List.getElem?_cons_succ, List.getElem?_cons_zero] at hq0
            go_simp
            refine hK.out _ _ hSWB ?_
            clear hK K
            refine wpAnyH_one (i := 5) (by kernel_rfl) rfl (fun K hK => ?_)
            simp only [nrm]
            rw [if_pos (by rfl)]
            obtain ⟨iE, e1, e2, e3, e4⟩ := info_parts infoPx3
            refine wp_appR _ _ _ (by rfl) iE _ _ Tryd.underlying34 e1 e2 e3 e4 rfl (by decide) pxC_len pxC_one [x] (by rfl) hoWB (by have := Hlj.out; simp only [List.length_singleton]; omega) (by decide) _ _ _ (by rfl) (by rfl) hrow (by have := hzWB.lt; omega) ?_
            intro v9 w9 hown9 hb9 hkt9
            obtain ⟨a9, c9, hv9, -, -⟩ := hown9.is pxC_len
            subst hv9
            have hz9 := hzWB.below hb9 (by omega)
            have hx9 : RdX w9 g qz := Bx.below hxWB hb9 (by omega)
            have hS9 := hSWB.up (hb9.mono (by omega))
            refine hK.out _ _ hS9 ?_
            simp only [Act.put, nrm]
            clear hK K
            refine wpAnyH_take (i := 6) (v := ?_) rfl (by kernel_rfl) (by kernel_rfl) (by kernel_rfl) (fun _ _ _ h => h) (Or.inl ⟨by rfl, ?_⟩) hS9 ?_
            rotate_left
            · intro wq hSw; go_simp; (try with_reducible rfl)
            simp only [Act.put, nrm]
            refine wpAnyH_one (i := 7) (by kernel_rfl) rfl (fun K hK => ?_)
            simp only [nrm]
            rw [if_pos (by rfl)]
            refine wp_stV _ _ _ (by rfl) hz9 _ _ (by rfl) (by rfl) (by rfl) (by rfl) 16 (by rfl) (by decide) infoSlP (by rfl) ?_
            intro w10 hz' hb10
            have hz10 : Bx w10 w.heap.size 36 #[.int .u8 0, .int .u64 0, .int .u64 0, .string ⟨#[]⟩, .int .u64 0, .int .u8 0, .int .u64 0, .int .u64 0, .int .i64 0, .bool false, .bool false, .bool false, .int .u64 0, .slice none 0 0, .slice none 0 0, .slice a9 (l ++ [x]).length c9] := hz'
            have hx10 : RdX w10 g qz := Bx.but hx9 hb10 (Ne.symm hne)
            have ho10 := hown9.but hz9 (by decide) hb10
            have hS10 := hS9.after hb10 (Nat.le_refl _)
            refine hK.out _ _ hS10 ?_
            simp only [Act.put, nrm]
            clear hK K
            refine wpAnyH_done (by kernel_rfl) ?_ _
            go_wp2_with fail
            go_roundw
            case rel => exact ⟨j + 1, a9, c9, by omega, by go_num, by rw [Hs3.out]; exact hz10, by rw [Hs3.out]; exact ho10, by rw [Hs3.out]; exact hx10, hS10⟩
            case measure => simp [intOf]; omega
      · have hji : decide ((j : Int) < (n : Int)) = false := decide_eq_false (by omega)
        obtain rfl : j = n := by omega
        clear Hsu Hle hqs
        generalize L j = st at *
        obtain ⟨l, q2⟩ := st
        go_wp2_with (first
          | (refine wpList_ldB (by rfl) _ _ (by rfl) hz (by rfl) structAns 16 infoAns (by rfl) ?_)
          | (refine wpList_stB (by rfl) _ _ _ (by rfl) hz _ _ (by rfl) (by rfl) 16 16 (by rfl) (by rfl) (by decide) infoAns (by rfl) (by rfl) ?_; intro w3 hz' hbw3; have hzw3 : Bx w3 w.heap.size 36 #[.int .u8 0, .int .u64 0, .int .u64 0, .string ⟨#[]⟩, .int .u64 0, .int .u8 0, .int .u64 0, .int .u64 0, .int .i64 0, .bool false, .bool false, .bool false, .int .u64 0, .slice none 0 0, .slice none 0 0, .slice a l.length c] := hz'; clear hz'; have hxw3 := Bx.but hx hbw3 (Ne.symm hne)))
        have ho3 := hown.but hz (by decide) hbw3
        exact bodyPost_ret (results_box rfl (by rfl) (loadB hzw3 structAns infoAns rfl)) rfl ⟨none, 0, none, 0, a, c, by rw [Hk.out]; rfl, by rw [Hk.out]; exact ⟨ownR_nil _ _, ownR_nil _ _, ho3.low (Nat.le_succ _)⟩, by rw [Hk.out]; exact hxw3, hb.after hbw3 (Nat.le_refl _)⟩
end Go.Proofs.YtcobfoiajdbahaaDoor
