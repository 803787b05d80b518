/- The walk of EditPuts: it answers true. -/
import Derived.Test.YthpgigjplknomaaLEditBack
import Derived.Test.YthpgigjplknomaaWRefEncE
namespace Go.Proofs.Ythpgigjplknomaa
open Go.RowKit
set_option linter.unusedVariables false
set_option linter.unusedSimpArgs false

theorem P.chk_may (e : P.Ed) : (((P.chkE e : Nat) : Int) == 0) = P.mayB e := by
  unfold P.chkE
  cases P.mayB e <;> rfl
set_option maxRecDepth 100000 in
set_option maxHeartbeats 4000000 in
theorem law_puts_great (e : P.Ed) (a b : Option Addr) (c d : Nat) (w : World) (hl : e.add.length ≤ 9223372036854775807) (hk : e.drop.length ≤ 9223372036854775807) (hp : EdAt w a b e) (hg : P.greatE e.add e.drop = true) :
    Calls Try.prog 5 #[edV a e.add.length c b e.drop.length d e.log e.seq e.next] w fun e w' => e = .returned (.bool true) ∧ Below w.heap.size w w' := by
  have HG := Lib.hid (fun wx (hx : Below w.heap.size w wx) => great_any e.add e.drop a b e.add.length c e.drop.length d rfl rfl wx hl hk (RowsAt.up hp.1 hx) e.log e.seq e.next)
  have h0 := (Below.refl w.heap.size w).alloc (Nat.le_refl _) (.cells #[.slice a e.add.length c, .slice b e.drop.length d, V64 e.log, V64 e.seq, V64 e.next] 29)
  rw [hg] at HG
  clear hp hg
  generalize e.add.length = n at *
  generalize e.drop.length = m at *
  go_enter Try.func5, Try.ntmps5
  go_wp2_with (first
    | (go_at_call 19; (with_reducible refine (HG.out _ h0).mono ?_); rintro e1 w1 ⟨rfl, hb1⟩)
    | (go_at_call 18; (with_reducible refine (awake_any _).mono ?_); rintro e1 w2 ⟨rfl, hb2⟩))
  go_ret
  exact ⟨rfl, Chain.up (Chain.up h0 hb1) hb2⟩
set_option maxRecDepth 100000 in
set_option maxHeartbeats 8000000 in
theorem law_puts_ok (e : P.Ed) (a b : Option Addr) (c d : Nat) (w : World) (hp : EdAt w a b e) (hty : P.tyE e) (hg : P.greatE e.add e.drop = false) :
    Calls Try.prog 5 #[edV a e.add.length c b e.drop.length d e.log e.seq e.next] w fun e w' => e = .returned (.bool true) ∧ Below w.heap.size w w' := by
  have hl60 := (P.greatE_no hg).1
  have hk60 := (P.greatE_no hg).2.1
  have HG := Lib.hid (fun wx (hx : Below w.heap.size w wx) => great_any e.add e.drop a b e.add.length c e.drop.length d rfl rfl wx (by omega) (by omega) (RowsAt.up hp.1 hx) e.log e.seq e.next)
  have h0 := (Below.refl w.heap.size w).alloc (Nat.le_refl _) (.cells #[.slice a e.add.length c, .slice b e.drop.length d, V64 e.log, V64 e.seq, V64 e.next] 29)
  have hbx := Bx.fresh w 29 #[.slice a e.add.length c, .slice b e.drop.length d, V64 e.log, V64 e.seq, V64 e.next]
  have HE := Lib.hid (fun wx (hx : Below w.heap.size w wx) => encode_any e a b c d wx (by omega) (by omega) (hp.up hx) hty)
  have HRE := Lib.hid (fun wx (hx : Below w.heap.size w wx) => refEncE_any e a b c d wx hl60 hk60 (hp.up hx) hty (fun hm => by have := P.encE_small hg hm; omega))
  have HC := Lib.hid (fun wx (hx : Below w.heap.size w wx) => check_any e a b e.add.length c e.drop.length d rfl rfl wx (by omega) (by omega) (hp.up hx) e.log e.seq e.next _ rfl)
  have HM := Lib.hid (fun wx (hx : Below w.heap.size w wx) => may_any e a b e.add.length c e.drop.length d rfl rfl wx (by omega) (by omega) (hp.up hx) e.log e.seq e.next _ rfl)
  have hcm := P.chk_may e
  rw [hg] at HG
  clear hp hg hty hl60 hk60
  generalize ((P.chkE e : Nat) : Int) = ck at *
  generalize P.mayB e = mb at *
  generalize (P.resE e).1 = s at *
  generalize (((P.resE e).2 : Nat) : Int) = er at *
  generalize e.add.length = n at *
  generalize e.drop.length = m at *
  go_enter Try.func5, Try.ntmps5
  go_wp2_with (first
    | (go_at_call 19; (with_reducible refine (HG.out _ h0).mono ?_); rintro e1 w1 ⟨rfl, hb1⟩; have hc1 := Chain.up h0 hb1; have hbx1 := hbx.up hb1; obtain ⟨p0, p1, p2, p3, p4⟩ := hbx1.five)
    | (go_at_call 11; (with_reducible refine (HE.out _ hc1).mono ?_); rintro e1 w2 ⟨rfl, hb2⟩; have hc2 := Chain.up hc1 hb2; have hbx2 := hbx1.up hb2; obtain ⟨r0, r1, r2, r3, r4⟩ := hbx2.five)
    | (go_at_call 16; (with_reducible refine (given_any _ _ _ _ _ _ _ _ _ _).mono ?_); rintro e1 w3 ⟨rfl, hb3⟩; have hc3 := Chain.up hc2 hb3)
    | (go_at_call 20; (with_reducible refine (HRE.out _ hc3).mono ?_); rintro e1 w4 ⟨rfl, hb4⟩; have hc4 := Chain.up hc3 hb4))
  have hbx5 := (hbx2.up hb3).up hb4
  obtain ⟨y0, y1, y2, y3, y4⟩ := hbx5.five
  have hc5 := hc4
  clear p0 p1 p2 p3 p4 r0 r1 r2 r3 r4 hbx hbx1 hbx2 hb1 hb2 hb3 hb4 hc1 hc2 hc3 HG HE HRE h0
  refine wp_region_held_drew (S := fun wx => Below w4.heap.size w4 wx) (by kernel_rfl) (Below.refl _ _).drew (fun hHeld => ?_)
  refine wpAnyH_take (i := 0) (v := ?_) rfl (by kernel_rfl) (by kernel_rfl) (by kernel_rfl) (fun _ _ _ h => h) (Or.inl ⟨by rfl, ?_⟩) hHeld ?_
  rotate_left
  · intro wq hSw; go_simp; (try with_reducible rfl)
  simp only [Act.put, List.getElem_toArray, List.getElem_cons_succ, List.getElem_cons_zero, List.setIfInBounds_toArray, List.set_cons_zero, List.set_cons_succ]
  refine wpAnyH_take (i := 1) (v := ?_) rfl (by kernel_rfl) (by kernel_rfl) (by kernel_rfl) (fun _ _ _ h => h) (Or.inl ⟨by rfl, ?_⟩) hHeld ?_
  rotate_left
  · intro wq hSw; go_simp; (try with_reducible rfl)
  simp only [Act.put, List.getElem_toArray, List.getElem_cons_succ, List.getElem_cons_zero, List.setIfInBounds_toArray, List.set_cons_zero, List.set_cons_succ]
  refine wpAnyH_take (i := 2) (v := ?_) rfl (by kernel_rfl) (by kernel_rfl) (by kernel_rfl) (fun _ _ _ h => h) (Or.inl ⟨by rfl, ?_⟩) hHeld ?_
  rotate_left
  · intro wq hSw; go_simp; (try with_reducible rfl)
  simp only [Act.put, List.getElem_toArray, List.getElem_cons_succ, List.getElem_cons_zero, List.setIfInBounds_toArray, List.set_cons_zero, List.set_cons_succ]
  refine wpAnyH_take (i := 3) (v := ?_) rfl (by kernel_rfl) (by kernel_rfl) (by kernel_rfl) (fun _ _ _ h => h) (Or.inl ⟨by rfl, ?_⟩) hHeld ?_
  rotate_left
  · intro wq hSw; go_simp; (try with_reducible rfl)
  simp only [Act.put, List.getElem_toArray, List.getElem_cons_succ, List.getElem_cons_zero, List.setIfInBounds_toArray, List.set_cons_zero, List.set_cons_succ]
  refine wpAnyH_take (i := 4) (v := ?_) rfl (by kernel_rfl) (by kernel_rfl) (by kernel_rfl) (fun _ _ _ h => h) (Or.inl ⟨by rfl, ?_⟩) hHeld ?_
  rotate_left
  · intro wq hSw; go_simp; (try with_reducible rfl)
  simp only [Act.put, List.getElem_toArray, List.getElem_cons_succ, List.getElem_cons_zero, List.setIfInBounds_toArray, List.set_cons_zero, List.set_cons_succ]
  refine wpAnyH_take (i := 5) (v := ?_) rfl (by kernel_rfl) (by kernel_rfl) (by kernel_rfl) (fun _ _ _ h => h) (Or.inl ⟨by rfl, ?_⟩) hHeld ?_
  rotate_left
  · intro wq hSw; go_simp; (try with_reducible rfl)
  simp only [Act.put, List.getElem_toArray, List.getElem_cons_succ, List.getElem_cons_zero, List.setIfInBounds_toArray, List.set_cons_zero, List.set_cons_succ]
  refine wpAnyH_take (i := 6) (v := ?_) rfl (by kernel_rfl) (by kernel_rfl) (by kernel_rfl) (fun _ _ _ h => h) (Or.inl ⟨by rfl, ?_⟩) hHeld ?_
  rotate_left
  · intro wq hSw; go_simp; (try with_reducible rfl)
  simp only [Act.put, List.getElem_toArray, List.getElem_cons_succ, List.getElem_cons_zero, List.setIfInBounds_toArray, List.set_cons_zero, List.set_cons_succ]
  refine wpAnyH_take (i := 7) (v := ?_) rfl (by kernel_rfl) (by kernel_rfl) (by kernel_rfl) (fun _ _ _ h => h) (Or.inl ⟨by rfl, ?_⟩) hHeld ?_
  rotate_left
  · intro wq hSw; go_simp; (try with_reducible rfl)
  simp only [Act.put, List.getElem_toArray, List.getElem_cons_succ, List.getElem_cons_zero, List.setIfInBounds_toArray, List.set_cons_zero, List.set_cons_succ]
  refine wpAnyH_take (i := 8) (v := ?_) rfl (by kernel_rfl) (by kernel_rfl) (by kernel_rfl) (fun _ _ _ h => h) (Or.inl ⟨by rfl, ?_⟩) hHeld ?_
  rotate_left
  · intro wq hSw; go_simp; (try with_reducible rfl)
  simp only [Act.put, List.getElem_toArray, List.getElem_cons_succ, List.getElem_cons_zero, List.setIfInBounds_toArray, List.set_cons_zero, List.set_cons_succ]
  refine wpAnyH_take (i := 9) (v := ?_) rfl (by kernel_rfl) (by kernel_rfl) (by kernel_rfl) (fun _ _ _ h => h) (Or.inl ⟨by rfl, ?_⟩) hHeld ?_
  rotate_left
  · intro wq hSw; have q0 := cell_up hSw y0; have q1 := cell_up hSw y1; have q2 := cell_up hSw y2; have q3 := cell_up hSw y3; have q4 := cell_up hSw y4; go_simp; (try with_reducible rfl)
  simp only [Act.put, List.getElem_toArray, List.getElem_cons_succ, List.getElem_cons_zero, List.setIfInBounds_toArray, List.set_cons_zero, List.set_cons_succ]
  refine wpAnyH_take (i := 12) (v := ?_) rfl (by kernel_rfl) (by kernel_rfl) (by kernel_rfl) (fun _ _ _ h => h) (Or.inl ⟨by rfl, ?_⟩) hHeld ?_
  rotate_left
  · intro wq hSw; have q0 := cell_up hSw y0; have q1 := cell_up hSw y1; have q2 := cell_up hSw y2; have q3 := cell_up hSw y3; have q4 := cell_up hSw y4; go_simp; (try with_reducible rfl)
  simp only [Act.put, List.getElem_toArray, List.getElem_cons_succ, List.getElem_cons_zero, List.setIfInBounds_toArray, List.set_cons_zero, List.set_cons_succ]
  refine wpAnyH_one (i := 10) (by kernel_rfl) rfl (fun K hK => ?_)
  simp only [List.getElem_toArray, List.getElem_cons_succ, List.getElem_cons_zero]
  go_simp
  (with_reducible refine (HC.out _ (Chain.up hc5 hHeld)).mono ?_)
  rintro e1 w7 ⟨rfl, hb7⟩
  have hc7 := Chain.up hHeld hb7
  refine hK.out _ _ hc7 ?_
  clear hK K
  refine wpAnyH_take (i := 11) (v := ?_) rfl (by kernel_rfl) (by kernel_rfl) (by kernel_rfl) (fun _ _ _ h => h) (Or.inl ⟨by rfl, ?_⟩) hc7 ?_
  rotate_left
  · intro wq hSw; go_simp; (try with_reducible rfl)
  simp only [Act.put, List.getElem_toArray, List.getElem_cons_succ, List.getElem_cons_zero, List.setIfInBounds_toArray, List.set_cons_zero, List.set_cons_succ]
  refine wpAnyH_one (i := 13) (by kernel_rfl) rfl (fun K hK => ?_)
  simp only [List.getElem_toArray, List.getElem_cons_succ, List.getElem_cons_zero]
  go_simp
  (with_reducible refine (given_any _ _ _ _ _ _ _ _ _ _).mono ?_)
  rintro e1 w8 ⟨rfl, hb8⟩
  have hc8 := Chain.up hc7 hb8
  refine hK.out _ _ hc8 ?_
  clear hK K
  refine wpAnyH_one (i := 14) (by kernel_rfl) rfl (fun K hK => ?_)
  simp only [List.getElem_toArray, List.getElem_cons_succ, List.getElem_cons_zero]
  go_simp
  (with_reducible refine (HM.out _ (Chain.up hc5 hc8)).mono ?_)
  rintro e1 w9 ⟨rfl, hb9⟩
  have hc9 := Chain.up hc8 hb9
  refine hK.out _ _ hc9 ?_
  clear hK K
  refine wpAnyH_take (i := 15) (v := ?_) rfl (by kernel_rfl) (by kernel_rfl) (by kernel_rfl) (fun _ _ _ h => h) (Or.inl ⟨by rfl, ?_⟩) hc9 ?_
  rotate_left
  · intro wq hSw; go_simp; (try with_reducible rfl)
  simp only [Act.put, List.getElem_toArray, List.getElem_cons_succ, List.getElem_cons_zero, List.setIfInBounds_toArray, List.set_cons_zero, List.set_cons_succ]
  refine wpAnyH_take (i := 16) (v := ?_) rfl (by kernel_rfl) (by kernel_rfl) (by kernel_rfl) (fun _ _ _ h => h) (Or.inl ⟨by rfl, ?_⟩) hc9 ?_
  rotate_left
  · intro wq hSw; go_simp; (try with_reducible rfl)
  simp only [Act.put, List.getElem_toArray, List.getElem_cons_succ, List.getElem_cons_zero, List.setIfInBounds_toArray, List.set_cons_zero, List.set_cons_succ]
  refine wpAnyH_take (i := 17) (v := ?_) rfl (by kernel_rfl) (by kernel_rfl) (by kernel_rfl) (fun _ _ _ h => h) (Or.inl ⟨by rfl, ?_⟩) hc9 ?_
  rotate_left
  · intro wq hSw; go_simp; (try with_reducible rfl)
  simp only [Act.put, List.getElem_toArray, List.getElem_cons_succ, List.getElem_cons_zero, List.setIfInBounds_toArray, List.set_cons_zero, List.set_cons_succ]
  refine wpAnyH_one (i := 18) (by kernel_rfl) rfl (fun K hK => ?_)
  simp only [List.getElem_toArray, List.getElem_cons_succ, List.getElem_cons_zero]
  go_simp
  (with_reducible refine (awake_any _).mono ?_)
  rintro e1 w10 ⟨rfl, hb10⟩
  have hc10 := Chain.up hc9 hb10
  refine hK.out _ _ hc10 ?_
  clear hK K
  refine wpAnyH_take (i := 19) (v := ?_) rfl (by kernel_rfl) (by kernel_rfl) (by kernel_rfl) (fun _ _ _ h => h) (Or.inl ⟨by rfl, ?_⟩) hc10 ?_
  rotate_left
  · intro wq hSw; go_simp; (try with_reducible rfl)
  simp only [Act.put, List.getElem_toArray, List.getElem_cons_succ, List.getElem_cons_zero, List.setIfInBounds_toArray, List.set_cons_zero, List.set_cons_succ]
  refine wpAnyH_take (i := 20) (v := ?_) rfl (by kernel_rfl) (by kernel_rfl) (by kernel_rfl) (fun _ _ _ h => h) (Or.inl ⟨by rfl, ?_⟩) hc10 ?_
  rotate_left
  · intro wq hSw; go_simp; (try with_reducible rfl)
  simp only [Act.put, List.getElem_toArray, List.getElem_cons_succ, List.getElem_cons_zero, List.setIfInBounds_toArray, List.set_cons_zero, List.set_cons_succ]
  refine wpAnyH_done (by kernel_rfl) ?_ _
  go_wp2_with fail
  go_ret
  exact ⟨rfl, Chain.up hc5 hc10⟩
theorem law_puts (e : P.Ed) (a b : Option Addr) (c d : Nat) (w : World) (hl : e.add.length ≤ 9223372036854775807) (hk : e.drop.length ≤ 9223372036854775807) (hp : EdAt w a b e) (hty : P.tyE e) :
    Calls Try.prog 5 #[edV a e.add.length c b e.drop.length d e.log e.seq e.next] w fun e w' => e = .returned (.bool true) ∧ Below w.heap.size w w' := by
  cases hg : P.greatE e.add e.drop with
  | true => exact law_puts_great e a b c d w hl hk hp hg
  | false => exact law_puts_ok e a b c d w hp hty hg
end Go.Proofs.Ythpgigjplknomaa
