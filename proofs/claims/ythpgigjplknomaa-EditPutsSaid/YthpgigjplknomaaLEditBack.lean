/- The walk of EditBack: it answers true. -/
import Derived.Test.YthpgigjplknomaaLEditOnly
namespace Go.Proofs.Ythpgigjplknomaa
open Go.RowKit
set_option linter.unusedVariables false
set_option linter.unusedSimpArgs false
attribute [local go_sem] str_take ByteArray.mk_append_mk

theorem P.encE_small {e : P.Ed} (hg : P.greatE e.add e.drop = false) (hm : P.mayB e = true) : (P.encE e).length ≤ 20000 := by
  obtain ⟨h1, h2, _⟩ := P.greatE_no hg
  obtain ⟨k1, _⟩ := P.may_iff hm
  have a := P.tabRows_len e.add k1
  have b := P.vars_len e.drop
  have c := P.vars_len [e.log, e.seq, e.next]
  have d := P.row_len9 e.add.length
  have f := P.row_len9 e.drop.length
  simp only [List.length_cons, List.length_nil] at c
  unfold P.encE
  simp only [List.length_append]
  omega
theorem P.eok_of {s : List UInt8} {e : P.Ed} (h : P.decE s = some e) : P.eok s = true ∧ P.edOf s = e := by
  unfold P.eok P.edOf
  rw [h]
  exact ⟨rfl, rfl⟩
theorem P.eok_no {s : List UInt8} (h : P.decE s = none) : P.eok s = false := by
  unfold P.eok
  rw [h]
  rfl
set_option maxRecDepth 100000 in
set_option maxHeartbeats 4000000 in
theorem law_back_great (e : P.Ed) (a b : Option Addr) (c d : Nat) (z : Int) (x : List UInt8) (w : World) (hl : e.add.length ≤ 9223372036854775807) (hk : e.drop.length ≤ 9223372036854775807) (hp : EdAt w a b e) (hx : x.length ≤ 9223372036854775807) (hg : P.greatE e.add e.drop = true ∨ 100 < x.length) :
    Calls Try.prog 9 #[edV a e.add.length c b e.drop.length d e.log e.seq e.next, .int .u16 z, S x] w fun e w' => e = .returned (.bool true) ∧ Below w.heap.size w w' := by
  have HG := Lib.hid (fun wx (hx : Below w.heap.size w wx) => great_any e.add e.drop a b e.add.length c e.drop.length d rfl rfl wx hl hk (RowsAt.up hp.1 hx) e.log e.seq e.next)
  have h0 := (Below.refl w.heap.size w).alloc (Nat.le_refl _) (.cells #[.slice a e.add.length c, .slice b e.drop.length d, V64 e.log, V64 e.seq, V64 e.next] 29)
  cases hgb : P.greatE e.add e.drop with
  | true =>
    rw [hgb] at HG
    clear hp hg hgb
    generalize e.add.length = n at *
    generalize e.drop.length = m at *
    go_enter Try.func9, Try.ntmps9
    go_wp2_with (first
      | (go_at_call 19; (with_reducible refine (HG.out _ h0).mono ?_); rintro e1 w1 ⟨rfl, hb1⟩)
      | (go_at_call 18; (with_reducible refine (awake_any _).mono ?_); rintro e1 w2 ⟨rfl, hb2⟩))
    go_ret
    exact ⟨rfl, Chain.up (Chain.up h0 hb1) hb2⟩
  | false =>
    have hbig : 100 < x.length := by
      rcases hg with h | h
      · rw [hgb] at h; cases h
      · exact h
    have hbi : (100 : Int) < (x.length : Int) := by omega
    rw [hgb] at HG
    clear hp hg hgb hbig
    generalize e.add.length = n at *
    generalize e.drop.length = m at *
    go_enter Try.func9, Try.ntmps9
    go_wp2_with (first
      | (go_at_call 19; (with_reducible refine (HG.out _ h0).mono ?_); rintro e1 w1 ⟨rfl, hb1⟩)
      | (go_at_call 18; (with_reducible refine (awake_any _).mono ?_); rintro e1 w2 ⟨rfl, hb2⟩))
    go_ret
    exact ⟨rfl, Chain.up (Chain.up h0 hb1) hb2⟩
set_option maxRecDepth 100000 in
set_option maxHeartbeats 4000000 in
theorem law_back_no (e : P.Ed) (a b : Option Addr) (c d : Nat) (z : Int) (x : List UInt8) (w : World) (hp : EdAt w a b e) (hty : P.tyE e) (hx : x.length ≤ 100) (hg : P.greatE e.add e.drop = false) (hno : P.mayB e = false) :
    Calls Try.prog 9 #[edV a e.add.length c b e.drop.length d e.log e.seq e.next, .int .u16 z, S x] w fun e w' => e = .returned (.bool true) ∧ Below w.heap.size w w' := by
  have hl : e.add.length ≤ 9223372036854775807 := by have := (P.greatE_no hg).1; omega
  have hk : e.drop.length ≤ 9223372036854775807 := by have := (P.greatE_no hg).2.1; omega
  have HG := Lib.hid (fun wx (hx : Below w.heap.size w wx) => great_any e.add e.drop a b e.add.length c e.drop.length d rfl rfl wx hl hk (RowsAt.up hp.1 hx) e.log e.seq e.next)
  have h0 := (Below.refl w.heap.size w).alloc (Nat.le_refl _) (.cells #[.slice a e.add.length c, .slice b e.drop.length d, V64 e.log, V64 e.seq, V64 e.next] 29)
  have hbx := Bx.fresh w 29 #[.slice a e.add.length c, .slice b e.drop.length d, V64 e.log, V64 e.seq, V64 e.next]
  have hxi : (x.length : Int) ≤ 100 := by omega
  have HE := Lib.hid (fun wx (hx : Below w.heap.size w wx) => encode_no e a b c d e.log e.seq e.next wx hl hk (hp.up hx) hno)
  have HC := Lib.hid (fun wx (hx : Below w.heap.size w wx) => check_any e a b e.add.length c e.drop.length d rfl rfl wx hl hk (hp.up hx) e.log e.seq e.next 1 (by unfold P.chkE; rw [hno]; rfl))
  rw [hg] at HG
  clear hp hg hno hty
  generalize e.add.length = n at *
  generalize e.drop.length = m at *
  go_enter Try.func9, Try.ntmps9
  go_wp2_with (first
    | (go_at_call 19; (with_reducible refine (HG.out _ h0).mono ?_); rintro e1 w1 ⟨rfl, hb1⟩; have hc1 := Chain.up h0 hb1; have hbx1 := hbx.up hb1; obtain ⟨p0, p1, p2, p3, p4⟩ := hbx1.five)
    | (go_at_call 11; (with_reducible refine (HE.out _ hc1).mono ?_); rintro e1 w2 ⟨rfl, hb2⟩; have hc2 := Chain.up hc1 hb2; have hbx2 := hbx1.up hb2; obtain ⟨q0, q1, q2, q3, q4⟩ := hbx2.five)
    | (go_at_call 13; (with_reducible refine (HC.out _ hc2).mono ?_); rintro e1 w3 ⟨rfl, hb3⟩; have hc3 := Chain.up hc2 hb3)
    | (go_at_call 18; (with_reducible refine (awake_any _).mono ?_); rintro e1 w4 ⟨rfl, hb4⟩))
  go_ret
  exact ⟨rfl, Chain.up hc3 hb4⟩
set_option maxRecDepth 100000 in
set_option maxHeartbeats 8000000 in
theorem law_back_ok (e : P.Ed) (a b : Option Addr) (c d : Nat) (z : Nat) (x : List UInt8) (w : World) (hp : EdAt w a b e) (hty : P.tyE e) (hx : x.length ≤ 100) (hg : P.greatE e.add e.drop = false) (hm : P.mayB e = true) (hz : z < 65536) :
    Calls Try.prog 9 #[edV a e.add.length c b e.drop.length d e.log e.seq e.next, .int .u16 (z : Int), S x] w fun e w' => e = .returned (.bool true) ∧ Below w.heap.size w w' := by
  have hl : e.add.length ≤ 9223372036854775807 := by have := (P.greatE_no hg).1; omega
  have hk : e.drop.length ≤ 9223372036854775807 := by have := (P.greatE_no hg).2.1; omega
  have HG := Lib.hid (fun wx (hx : Below w.heap.size w wx) => great_any e.add e.drop a b e.add.length c e.drop.length d rfl rfl wx hl hk (RowsAt.up hp.1 hx) e.log e.seq e.next)
  have h0 := (Below.refl w.heap.size w).alloc (Nat.le_refl _) (.cells #[.slice a e.add.length c, .slice b e.drop.length d, V64 e.log, V64 e.seq, V64 e.next] 29)
  have hbx := Bx.fresh w 29 #[.slice a e.add.length c, .slice b e.drop.length d, V64 e.log, V64 e.seq, V64 e.next]
  have hxi : (x.length : Int) ≤ 100 := by omega
  have hsl := P.encE_small hg hm
  have hs1 := P.encE_pos e
  have HE := Lib.hid (fun wx (hx : Below w.heap.size w wx) => encode_any e a b c d wx (by have := (P.greatE_no hg).1; omega) (by have := (P.greatE_no hg).2.1; omega) (hp.up hx) hty)
  rw [show P.resE e = (P.encE e, 0) by unfold P.resE; rw [if_pos hm, if_pos (by omega)]] at HE
  rw [hg] at HG
  have hmd : z % (P.encE e).length < (P.encE e).length := Nat.mod_lt _ (by omega)
  obtain ⟨d1, d2⟩ := P.eok_of (P.decE_enc e hm hty (by omega))
  have f1 := P.eok_no (P.decE_cut hm hty _ hmd)
  have g1 : P.eok (P.encE e ++ x) = (x == []) := by
    by_cases hx0 : x = []
    · subst hx0; rw [List.append_nil, d1]; rfl
    · rw [P.eok_no (P.decE_more hm hty x hx0)]; exact (beq_eq_false_iff_ne.2 hx0).symm
  have HD1 := Lib.hid (fun wx => decode_e (P.encE e) wx (by omega))
  rw [d1, d2] at HD1
  have HD2 := Lib.hid (fun wx => decode_e ((P.encE e).take (z % (P.encE e).length)) wx (by rw [List.length_take]; omega))
  rw [f1] at HD2
  have HD3 := Lib.hid (fun wx => decode_e (P.encE e ++ x) wx (by rw [List.length_append]; omega))
  rw [g1] at HD3
  have Hl := Lib.hid (P.greatE_no hg)
  clear hg hm d1 d2 f1 g1 hty
  generalize P.edOf (P.encE e ++ x) = e3 at *
  generalize P.edOf ((P.encE e).take (z % (P.encE e).length)) = e2 at *
  generalize P.encE e = s at *
  have hzz : (z : Int) % (s.length : Int) = ((z % s.length : Nat) : Int) := by omega
  have hadd : ¬ 9223372036854775807 < s.length + x.length := by omega
  have hzi : (z : Int) ≤ 65535 := by omega
  have hsi : (1 : Int) ≤ (s.length : Int) := by omega
  have hnb : ((s.length : Int) == 0) = false := beq_eq_false_iff_ne.2 (by omega)
  generalize z % s.length = m at *
  have Hp := Lib.hid hp
  clear hp
  go_enter Try.func9, Try.ntmps9
  go_wp2_with (first
    | (go_at_call 19; (with_reducible refine (HG.out _ h0).mono ?_); rintro e1 w1 ⟨rfl, hb1⟩; have hc1 := Chain.up h0 hb1; have hbx1 := hbx.up hb1; obtain ⟨p0, p1, p2, p3, p4⟩ := hbx1.five)
    | (go_at_call 11; (with_reducible refine (HE.out _ hc1).mono ?_); rintro e1 w2 ⟨rfl, hb2⟩; have hc2 := Chain.up hc1 hb2; have hbx2 := hbx1.up hb2)
    | (go_at_call 14; (with_reducible refine (HD1.out _).mono ?_); rintro e1 w3 ⟨⟨a3, c3, b3, d3, rfl, he3⟩, hb3⟩)
    | (go_at_call 14; (with_reducible refine (HD2.out _).mono ?_); rintro e1 w4 ⟨⟨a4, c4, b4, d4, rfl, _⟩, hb4⟩)
    | (go_at_call 14; (with_reducible refine (HD3.out _).mono ?_); rintro e1 w5 ⟨⟨a5, c5, b5, d5, rfl, _⟩, hb5⟩))
  have k3 := Chain.up hc2 hb3
  have k4 := below_call hb4
  have k5 := below_call hb5
  have k6 := (Below.refl w5.heap.size w5).alloc (Nat.le_refl _) (.cells #[.slice a5 e3.add.length c5, .slice b5 e3.drop.length d5, V64 e3.log, V64 e3.seq, V64 e3.next] 29)
  have k36 := Chain.up (Chain.up k4 k5) k6
  have he6 := he3.up k36
  have hc6 := Chain.up k3 k36
  have hbx6 := (hbx2.up hb3).up k36
  have hby6 := (((Bx.fresh w3 29 #[.slice a3 e.add.length c3, .slice b3 e.drop.length d3, V64 e.log, V64 e.seq, V64 e.next]).up hb4).up k5).up k6
  have hp6 := Hp.out.up hc6
  clear hb1 hb2 hb3 hb4 hb5 k3 k4 k5 k6 k36 he3 hbx hbx1 hbx2 hc1 hc2 h0 HD1 HD2 HD3 HE HG
  generalize w5.alloc (.cells #[.slice a5 e3.add.length c5, .slice b5 e3.drop.length d5, V64 e3.log, V64 e3.seq, V64 e3.next] 29) = w6 at *
  obtain ⟨y0, y1, y2, y3, y4⟩ := hbx6.five
  obtain ⟨z0, z1, z2, z3, z4⟩ := hby6.five
  have HS := Lib.hid (fun wx (hx : Below w6.heap.size w6 wx) => same_e e e.add.length e.drop.length rfl rfl a3 a b3 b c3 c d3 d wx (by have := Hl.out.1; omega) (by have := Hl.out.2.1; omega) (he6.up hx) (hp6.up hx))
  refine wp_region_held_drew (S := fun wx => Below w6.heap.size w6 wx) (by kernel_rfl) (Below.refl _ _).drew (fun hHeld => ?_)
  refine wpAnyH_take (i := 0) (v := ?_) rfl (by kernel_rfl) (by kernel_rfl) (by kernel_rfl) (fun _ _ _ h => h) (Or.inl ⟨by rfl, ?_⟩) hHeld ?_
  rotate_left
  · intro wq hSw; go_simp; (try with_reducible rfl)
  simp only [Act.put, List.getElem_toArray, List.getElem_cons_succ, List.getElem_cons_zero, List.setIfInBounds_toArray, List.set_cons_zero, List.set_cons_succ]
  refine wpAnyH_take (i := 1) (v := ?_) rfl (by kernel_rfl) (by kernel_rfl) (by kernel_rfl) (fun _ _ _ h => h) (Or.inl ⟨by rfl, ?_⟩) hHeld ?_
  rotate_left
  · intro wq hSw; go_simp; (try with_reducible rfl)
  simp only [Act.put, List.getElem_toArray, List.getElem_cons_succ, List.getElem_cons_zero, List.setIfInBounds_toArray, List.set_cons_zero, List.set_cons_succ]
  refine wpAnyH_take (i := 2) (v := ?_) rfl (by kernel_rfl) (by kernel_rfl) (by kernel_rfl) (fun _ _ _ h => h) (Or.inl ⟨by rfl, ?_⟩) hHeld ?_
  rotate_left
  · intro wq hSw; have q0 := cell_up hSw z0; have q1 := cell_up hSw z1; have q2 := cell_up hSw z2; have q3 := cell_up hSw z3; have q4 := cell_up hSw z4; go_simp; (try with_reducible rfl)
  simp only [Act.put, List.getElem_toArray, List.getElem_cons_succ, List.getElem_cons_zero, List.setIfInBounds_toArray, List.set_cons_zero, List.set_cons_succ]
  refine wpAnyH_take (i := 4) (v := ?_) rfl (by kernel_rfl) (by kernel_rfl) (by kernel_rfl) (fun _ _ _ h => h) (Or.inl ⟨by rfl, ?_⟩) hHeld ?_
  rotate_left
  · intro wq hSw; have q0 := cell_up hSw y0; have q1 := cell_up hSw y1; have q2 := cell_up hSw y2; have q3 := cell_up hSw y3; have q4 := cell_up hSw y4; go_simp; (try with_reducible rfl)
  simp only [Act.put, List.getElem_toArray, List.getElem_cons_succ, List.getElem_cons_zero, List.setIfInBounds_toArray, List.set_cons_zero, List.set_cons_succ]
  refine wpAnyH_one (i := 3) (by kernel_rfl) rfl (fun K hK => ?_)
  simp only [List.getElem_toArray, List.getElem_cons_succ, List.getElem_cons_zero]
  go_simp
  (with_reducible refine (given_any _ _ _ _ _ _ _ _ _ _).mono ?_)
  rintro e1 w7 ⟨rfl, hb7⟩
  have hc7 := Chain.up hHeld hb7
  refine hK.out _ _ hc7 ?_
  clear hK K
  refine wpAnyH_one (i := 5) (by kernel_rfl) rfl (fun K hK => ?_)
  simp only [List.getElem_toArray, List.getElem_cons_succ, List.getElem_cons_zero]
  go_simp
  (with_reducible refine (given_any _ _ _ _ _ _ _ _ _ _).mono ?_)
  rintro e1 w8 ⟨rfl, hb8⟩
  have hc8 := Chain.up hc7 hb8
  refine hK.out _ _ hc8 ?_
  clear hK K
  refine wpAnyH_one (i := 6) (by kernel_rfl) rfl (fun K hK => ?_)
  simp only [List.getElem_toArray, List.getElem_cons_succ, List.getElem_cons_zero]
  go_simp
  (with_reducible refine (HS.out _ hc8).mono ?_)
  rintro e1 w9 ⟨rfl, hb9⟩
  have hc9 := Chain.up hc8 hb9
  refine hK.out _ _ hc9 ?_
  clear hK K
  refine wpAnyH_take (i := 7) (v := ?_) rfl (by kernel_rfl) (by kernel_rfl) (by kernel_rfl) (fun _ _ _ h => h) (Or.inl ⟨by rfl, ?_⟩) hc9 ?_
  rotate_left
  · intro wq hSw; go_simp; (try with_reducible rfl)
  simp only [Act.put, List.getElem_toArray, List.getElem_cons_succ, List.getElem_cons_zero, List.setIfInBounds_toArray, List.set_cons_zero, List.set_cons_succ]
  refine wpAnyH_take (i := 8) (v := ?_) rfl (by kernel_rfl) (by kernel_rfl) (by kernel_rfl) (fun _ _ _ h => h) (Or.inl ⟨by rfl, ?_⟩) hc9 ?_
  rotate_left
  · intro wq hSw; go_simp; (try with_reducible rfl)
  simp only [Act.put, List.getElem_toArray, List.getElem_cons_succ, List.getElem_cons_zero, List.setIfInBounds_toArray, List.set_cons_zero, List.set_cons_succ]
  refine wpAnyH_take (i := 9) (v := ?_) rfl (by kernel_rfl) (by kernel_rfl) (by kernel_rfl) (fun _ _ _ h => h) (Or.inl ⟨by rfl, ?_⟩) hc9 ?_
  rotate_left
  · intro wq hSw; go_simp; (try with_reducible rfl)
  simp only [Act.put, List.getElem_toArray, List.getElem_cons_succ, List.getElem_cons_zero, List.setIfInBounds_toArray, List.set_cons_zero, List.set_cons_succ]
  refine wpAnyH_take (i := 10) (v := ?_) rfl (by kernel_rfl) (by kernel_rfl) (by kernel_rfl) (fun _ _ _ h => h) (Or.inl ⟨by rfl, ?_⟩) hc9 ?_
  rotate_left
  · intro wq hSw; go_simp; (try with_reducible rfl)
  simp only [Act.put, List.getElem_toArray, List.getElem_cons_succ, List.getElem_cons_zero, List.setIfInBounds_toArray, List.set_cons_zero, List.set_cons_succ]
  refine wpAnyH_take (i := 11) (v := ?_) rfl (by kernel_rfl) (by kernel_rfl) (by kernel_rfl) (fun _ _ _ h => h) (Or.inl ⟨by rfl, ?_⟩) hc9 ?_
  rotate_left
  · intro wq hSw; go_simp; (try with_reducible rfl)
  simp only [Act.put, List.getElem_toArray, List.getElem_cons_succ, List.getElem_cons_zero, List.setIfInBounds_toArray, List.set_cons_zero, List.set_cons_succ]
  refine wpAnyH_take (i := 12) (v := ?_) rfl (by kernel_rfl) (by kernel_rfl) (by kernel_rfl) (fun _ _ _ h => h) (Or.inl ⟨by rfl, ?_⟩) hc9 ?_
  rotate_left
  · intro wq hSw; go_simp; (try with_reducible rfl)
  simp only [Act.put, List.getElem_toArray, List.getElem_cons_succ, List.getElem_cons_zero, List.setIfInBounds_toArray, List.set_cons_zero, List.set_cons_succ]
  refine wpAnyH_take (i := 13) (v := ?_) rfl (by kernel_rfl) (by kernel_rfl) (by kernel_rfl) (fun _ _ _ h => h) (Or.inl ⟨by rfl, ?_⟩) hc9 ?_
  rotate_left
  · intro wq hSw; go_simp; (try with_reducible rfl)
  simp only [Act.put, List.getElem_toArray, List.getElem_cons_succ, List.getElem_cons_zero, List.setIfInBounds_toArray, List.set_cons_zero, List.set_cons_succ]
  refine wpAnyH_take (i := 14) (v := ?_) rfl (by kernel_rfl) (by kernel_rfl) (by kernel_rfl) (fun _ _ _ h => h) (Or.inl ⟨by rfl, ?_⟩) hc9 ?_
  rotate_left
  · intro wq hSw; go_simp; (try with_reducible rfl)
  simp only [Act.put, List.getElem_toArray, List.getElem_cons_succ, List.getElem_cons_zero, List.setIfInBounds_toArray, List.set_cons_zero, List.set_cons_succ]
  refine wpAnyH_take (i := 15) (v := ?_) rfl (by kernel_rfl) (by kernel_rfl) (by kernel_rfl) (fun _ _ _ h => h) (Or.inl ⟨by rfl, ?_⟩) hc9 ?_
  rotate_left
  · intro wq hSw; go_simp; (try with_reducible rfl)
  simp only [Act.put, List.getElem_toArray, List.getElem_cons_succ, List.getElem_cons_zero, List.setIfInBounds_toArray, List.set_cons_zero, List.set_cons_succ]
  refine wpAnyH_take (i := 16) (v := ?_) rfl (by kernel_rfl) (by kernel_rfl) (by kernel_rfl) (fun _ _ _ h => h) (Or.inl ⟨by rfl, ?_⟩) hc9 ?_
  rotate_left
  · intro wq hSw; go_simp; (try with_reducible rfl)
  simp only [Act.put, List.getElem_toArray, List.getElem_cons_succ, List.getElem_cons_zero, List.setIfInBounds_toArray, List.set_cons_zero, List.set_cons_succ]
  refine wpAnyH_take (i := 17) (v := ?_) rfl (by kernel_rfl) (by kernel_rfl) (by kernel_rfl) (fun _ _ _ h => h) (Or.inl ⟨by rfl, ?_⟩) hc9 ?_
  rotate_left
  · intro wq hSw; go_simp; (try with_reducible rfl)
  simp only [Act.put, List.getElem_toArray, List.getElem_cons_succ, List.getElem_cons_zero, List.setIfInBounds_toArray, List.set_cons_zero, List.set_cons_succ]
  refine wpAnyH_take (i := 18) (v := ?_) rfl (by kernel_rfl) (by kernel_rfl) (by kernel_rfl) (fun _ _ _ h => h) (Or.inl ⟨by rfl, ?_⟩) hc9 ?_
  rotate_left
  · intro wq hSw; go_simp; (try with_reducible rfl)
  simp only [Act.put, List.getElem_toArray, List.getElem_cons_succ, List.getElem_cons_zero, List.setIfInBounds_toArray, List.set_cons_zero, List.set_cons_succ]
  refine wpAnyH_one (i := 19) (by kernel_rfl) rfl (fun K hK => ?_)
  simp only [List.getElem_toArray, List.getElem_cons_succ, List.getElem_cons_zero]
  go_simp
  (with_reducible refine (awake_any _).mono ?_)
  rintro e1 w10 ⟨rfl, hb10⟩
  have hc10 := Chain.up hc9 hb10
  refine hK.out _ _ hc10 ?_
  clear hK K
  refine wpAnyH_take (i := 20) (v := ?_) rfl (by kernel_rfl) (by kernel_rfl) (by kernel_rfl) (fun _ _ _ h => h) (Or.inl ⟨by rfl, ?_⟩) hc10 ?_
  rotate_left
  · intro wq hSw; go_simp; (try with_reducible rfl)
  simp only [Act.put, List.getElem_toArray, List.getElem_cons_succ, List.getElem_cons_zero, List.setIfInBounds_toArray, List.set_cons_zero, List.set_cons_succ]
  refine wpAnyH_take (i := 21) (v := ?_) rfl (by kernel_rfl) (by kernel_rfl) (by kernel_rfl) (fun _ _ _ h => h) (Or.inl ⟨by rfl, ?_⟩) hc10 ?_
  rotate_left
  · intro wq hSw; go_simp; (try with_reducible rfl)
  simp only [Act.put, List.getElem_toArray, List.getElem_cons_succ, List.getElem_cons_zero, List.setIfInBounds_toArray, List.set_cons_zero, List.set_cons_succ]
  refine wpAnyH_done (by kernel_rfl) ?_ _
  go_wp2_with fail
  go_ret
  exact ⟨rfl, Chain.up hc6 hc10⟩
theorem law_back (e : P.Ed) (a b : Option Addr) (c d : Nat) (z : Int) (x : List UInt8) (w : World) (hl : e.add.length ≤ 9223372036854775807) (hk : e.drop.length ≤ 9223372036854775807) (hp : EdAt w a b e) (hty : P.tyE e) (hz : (Lit.int .u16 z).wf = true) (hx : x.length ≤ 9223372036854775807) :
    Calls Try.prog 9 #[edV a e.add.length c b e.drop.length d e.log e.seq e.next, .int .u16 z, S x] w fun e w' => e = .returned (.bool true) ∧ Below w.heap.size w w' := by
  have hzb := u16_bd hz
  by_cases hg : P.greatE e.add e.drop = true ∨ 100 < x.length
  · exact law_back_great e a b c d z x w hl hk hp hx hg
  · have hgn : P.greatE e.add e.drop = false := by
      cases h : P.greatE e.add e.drop with
      | false => rfl
      | true => exact absurd (.inl h) hg
    have hxl : x.length ≤ 100 := Nat.le_of_not_lt (fun h => hg (.inr h))
    cases hm : P.mayB e with
    | true =>
      obtain ⟨m, rfl⟩ : ∃ m : Nat, z = (m : Int) := ⟨z.toNat, by omega⟩
      exact law_back_ok e a b c d m x w hp hty hxl hgn hm (by omega)
    | false => exact law_back_no e a b c d z x w hp hty hxl hgn hm
end Go.Proofs.Ythpgigjplknomaa
