/- The walk of EditReads: it answers true. -/
import Derived.Test.YthpgigjplknomaaWAwakeE
import Derived.Test.YthpgigjplknomaaWRefDecE
namespace Go.Proofs.Ythpgigjplknomaa
open Go.RowKit
set_option linter.unusedVariables false
set_option linter.unusedSimpArgs false

theorem refDecode_e (s : List UInt8) (w : World) (hs : s.length ≤ 90000) :
    Calls Try.prog 22 #[S s] w fun e w' => EdB (P.edOf s) (P.eok s) e w' ∧ Below w.heap.size w w' :=
  (refDecE_any s w hs).mono fun e w' ⟨h, hb⟩ => ⟨edB_of h, hb⟩
theorem P.edOf_len (s : List UInt8) (hs : s.length ≤ 90000) : (P.edOf s).add.length ≤ 100000 ∧ (P.edOf s).drop.length ≤ 100000 := by
  cases h : P.eok s with
  | false => rw [(P.eok_none h).2]; simp [P.noE]
  | true =>
    obtain ⟨_, h2, _, _⟩ := P.decE_some (P.eok_some h)
    have := P.encE_count (P.edOf s)
    rw [h2] at this
    omega
theorem P.sameE_self (x : P.Ed) : P.sameE x x = true := decide_eq_true rfl
theorem same_e (x : P.Ed) (n m : Nat) (hn : n = x.add.length) (hm : m = x.drop.length) (a1 a2 b1 b2 : Option Addr) (c1 c2 d1 d2 : Nat) (w : World) (h1 : x.add.length ≤ 100000) (h2 : x.drop.length ≤ 100000) (hp1 : EdAt w a1 b1 x) (hp2 : EdAt w a2 b2 x) :
    Calls Try.prog 15 #[edV a1 n c1 b1 m d1 x.log x.seq x.next, edV a2 n c2 b2 m d2 x.log x.seq x.next] w fun e w' => e = .returned (.bool true) ∧ Below w.heap.size w w' := by
  have h := same_any x x a1 a2 b1 b2 c1 c2 d1 d2 n n m m hn hn hm hm w h1 h2 hp1 hp2 x.log x.seq x.next x.log x.seq x.next rfl rfl rfl rfl rfl rfl
  rwa [P.sameE_self] at h
attribute [local go_sem] str_take

set_option maxRecDepth 100000 in
set_option maxHeartbeats 4000000 in
theorem law_reads0 (s : List UInt8) (w : World) (hs : s.length ≤ 9000) :
    Calls Try.prog 6 #[S s] w fun e w' => e = .returned (.bool true) ∧ Below w.heap.size w w' := by
  have HD := Lib.hid (fun wx => decode_e s wx (by omega))
  have HR := Lib.hid (fun wx => refDecode_e s wx (by omega))
  have hl := P.edOf_len s (by omega)
  generalize P.eok s = ok at *
  generalize P.edOf s = x at *
  have hsi : (s.length : Int) ≤ 9000 := by omega
  go_enter Try.func6, Try.ntmps6
  go_wp2_with (first
    | (go_at_call 14; (with_reducible refine (HD.out _).mono ?_); rintro e w1 ⟨⟨a1, c1, b1, d1, rfl, he1⟩, hb1⟩)
    | (go_at_call 22; (with_reducible refine (HR.out _).mono ?_); rintro e w2 ⟨⟨a2, c2, b2, d2, rfl, he2⟩, hb2⟩))
  have ha1 := (Below.refl w1.heap.size w1).alloc (Nat.le_refl _) (.cells #[.slice a1 x.add.length c1, .slice b1 x.drop.length d1, V64 x.log, V64 x.seq, V64 x.next] 29)
  have ha2 := (Below.refl w2.heap.size w2).alloc (Nat.le_refl _) (.cells #[.slice a2 x.add.length c2, .slice b2 x.drop.length d2, V64 x.log, V64 x.seq, V64 x.next] 38)
  have hx3 := ((Bx.fresh w1 29 #[.slice a1 x.add.length c1, .slice b1 x.drop.length d1, V64 x.log, V64 x.seq, V64 x.next]).up hb2).up ha2
  have hx5 := Bx.fresh w2 38 #[.slice a2 x.add.length c2, .slice b2 x.drop.length d2, V64 x.log, V64 x.seq, V64 x.next]
  have hcF := Chain.up (Chain.up (Chain.up hb1 ha1) hb2) ha2
  have hE1 := ((he1.up ha1).up hb2).up ha2
  have hE2 := he2.up ha2
  obtain ⟨x0, x1, x2, x3, x4⟩ := hx3.five
  obtain ⟨z0, z1, z2, z3, z4⟩ := hx5.five
  clear hb1 hb2 he1 he2 hx3 hx5 ha1 ha2
  generalize w2.alloc (.cells #[.slice a2 x.add.length c2, .slice b2 x.drop.length d2, V64 x.log, V64 x.seq, V64 x.next] 38) = w3 at *
  have HS := Lib.hid (fun wx (hx : Below w3.heap.size w3 wx) => same_e x x.add.length x.drop.length rfl rfl a1 a2 b1 b2 c1 c2 d1 d2 wx hl.1 hl.2 (hE1.up hx) (hE2.up hx))
  clear hE1 hE2 hl
  generalize x.add.length = na at *
  generalize x.drop.length = nd at *
  refine wp_region_held_drew (S := fun wx => Below w3.heap.size w3 wx) (by kernel_rfl) (Below.refl _ _).drew (fun hHeld => ?_)
  refine wpAnyH_take (i := 0) (v := ?_) rfl (by kernel_rfl) (by kernel_rfl) (by kernel_rfl) (fun _ _ _ h => h) (Or.inl ⟨by rfl, ?_⟩) hHeld ?_
  rotate_left
  · intro wq hSw; go_simp; (try with_reducible rfl)
  simp only [Act.put, List.getElem_toArray, List.getElem_cons_succ, List.getElem_cons_zero, List.setIfInBounds_toArray, List.set_cons_zero, List.set_cons_succ]
  refine wpAnyH_take (i := 1) (v := ?_) rfl (by kernel_rfl) (by kernel_rfl) (by kernel_rfl) (fun _ _ _ h => h) (Or.inl ⟨by rfl, ?_⟩) hHeld ?_
  rotate_left
  · intro wq hSw; go_simp; (try with_reducible rfl)
  simp only [Act.put, List.getElem_toArray, List.getElem_cons_succ, List.getElem_cons_zero, List.setIfInBounds_toArray, List.set_cons_zero, List.set_cons_succ]
  refine wpAnyH_take (i := 2) (v := ?_) rfl (by kernel_rfl) (by kernel_rfl) (by kernel_rfl) (fun _ _ _ h => h) (Or.inl ⟨by rfl, ?_⟩) hHeld ?_
  rotate_left
  · intro wq hSw; go_simp; (try with_reducible rfl)
  simp only [Act.put, List.getElem_toArray, List.getElem_cons_succ, List.getElem_cons_zero, List.setIfInBounds_toArray, List.set_cons_zero, List.set_cons_succ]
  refine wpAnyH_take (i := 3) (v := ?_) rfl (by kernel_rfl) (by kernel_rfl) (by kernel_rfl) (fun _ _ _ h => h) (Or.inl ⟨by rfl, ?_⟩) hHeld ?_
  rotate_left
  · intro wq hSw; go_simp; (try with_reducible rfl)
  simp only [Act.put, List.getElem_toArray, List.getElem_cons_succ, List.getElem_cons_zero, List.setIfInBounds_toArray, List.set_cons_zero, List.set_cons_succ]
  refine wpAnyH_take (i := 4) (v := ?_) rfl (by kernel_rfl) (by kernel_rfl) (by kernel_rfl) (fun _ _ _ h => h) (Or.inl ⟨by rfl, ?_⟩) hHeld ?_
  rotate_left
  · intro wq hSw; have q0 := cell_up hSw x0; have q1 := cell_up hSw x1; have q2 := cell_up hSw x2; have q3 := cell_up hSw x3; have q4 := cell_up hSw x4; go_simp; (try with_reducible rfl)
  simp only [Act.put, List.getElem_toArray, List.getElem_cons_succ, List.getElem_cons_zero, List.setIfInBounds_toArray, List.set_cons_zero, List.set_cons_succ]
  refine wpAnyH_take (i := 6) (v := ?_) rfl (by kernel_rfl) (by kernel_rfl) (by kernel_rfl) (fun _ _ _ h => h) (Or.inl ⟨by rfl, ?_⟩) hHeld ?_
  rotate_left
  · intro wq hSw; have q0 := cell_up hSw z0; have q1 := cell_up hSw z1; have q2 := cell_up hSw z2; have q3 := cell_up hSw z3; have q4 := cell_up hSw z4; go_simp; (try with_reducible rfl)
  simp only [Act.put, List.getElem_toArray, List.getElem_cons_succ, List.getElem_cons_zero, List.setIfInBounds_toArray, List.set_cons_zero, List.set_cons_succ]
  refine wpAnyH_one (i := 5) (by kernel_rfl) rfl (fun K hK => ?_)
  simp only [List.getElem_toArray, List.getElem_cons_succ, List.getElem_cons_zero]
  go_simp
  (with_reducible refine (given_any _ _ _ _ _ _ _ _ _ _).mono ?_)
  rintro e w5 ⟨rfl, hb5⟩
  have hc5 := Chain.up hHeld hb5
  refine hK.out _ _ hc5 ?_
  clear hK K
  refine wpAnyH_one (i := 7) (by kernel_rfl) rfl (fun K hK => ?_)
  simp only [List.getElem_toArray, List.getElem_cons_succ, List.getElem_cons_zero]
  go_simp
  (with_reducible refine (HS.out _ hc5).mono ?_)
  rintro e w6 ⟨rfl, hb6⟩
  have hc6 := Chain.up hc5 hb6
  refine hK.out _ _ hc6 ?_
  clear hK K
  refine wpAnyH_take (i := 8) (v := ?_) rfl (by kernel_rfl) (by kernel_rfl) (by kernel_rfl) (fun _ _ _ h => h) (Or.inl ⟨by rfl, ?_⟩) hc6 ?_
  rotate_left
  · intro wq hSw; go_simp; (try with_reducible rfl)
  simp only [Act.put, List.getElem_toArray, List.getElem_cons_succ, List.getElem_cons_zero, List.setIfInBounds_toArray, List.set_cons_zero, List.set_cons_succ]
  refine wpAnyH_take (i := 9) (v := ?_) rfl (by kernel_rfl) (by kernel_rfl) (by kernel_rfl) (fun _ _ _ h => h) (Or.inl ⟨by rfl, ?_⟩) hc6 ?_
  rotate_left
  · intro wq hSw; go_simp; (try with_reducible rfl)
  simp only [Act.put, List.getElem_toArray, List.getElem_cons_succ, List.getElem_cons_zero, List.setIfInBounds_toArray, List.set_cons_zero, List.set_cons_succ]
  refine wpAnyH_one (i := 10) (by kernel_rfl) rfl (fun K hK => ?_)
  simp only [List.getElem_toArray, List.getElem_cons_succ, List.getElem_cons_zero]
  go_simp
  (with_reducible refine (awake_any _).mono ?_)
  rintro e w7 ⟨rfl, hb7⟩
  have hc7 := Chain.up hc6 hb7
  refine hK.out _ _ hc7 ?_
  clear hK K
  refine wpAnyH_take (i := 11) (v := ?_) rfl (by kernel_rfl) (by kernel_rfl) (by kernel_rfl) (fun _ _ _ h => h) (Or.inl ⟨by rfl, ?_⟩) hc7 ?_
  rotate_left
  · intro wq hSw; go_simp; (try with_reducible rfl)
  simp only [Act.put, List.getElem_toArray, List.getElem_cons_succ, List.getElem_cons_zero, List.setIfInBounds_toArray, List.set_cons_zero, List.set_cons_succ]
  refine wpAnyH_take (i := 12) (v := ?_) rfl (by kernel_rfl) (by kernel_rfl) (by kernel_rfl) (fun _ _ _ h => h) (Or.inl ⟨by rfl, ?_⟩) hc7 ?_
  rotate_left
  · intro wq hSw; go_simp; (try with_reducible rfl)
  simp only [Act.put, List.getElem_toArray, List.getElem_cons_succ, List.getElem_cons_zero, List.setIfInBounds_toArray, List.set_cons_zero, List.set_cons_succ]
  refine wpAnyH_done (by kernel_rfl) ?_ _
  go_wp2_with fail
  go_ret
  exact ⟨rfl, Chain.up hcF hc7⟩
set_option maxRecDepth 100000 in
set_option maxHeartbeats 4000000 in
theorem law_reads1 (s s0 : List UInt8) (w : World) (hbig : 9000 < s0.length) (hqs : s0.take 9000 = s) (hs : s.length ≤ 9000) :
    Calls Try.prog 6 #[S s0] w fun e w' => e = .returned (.bool true) ∧ Below w.heap.size w w' := by
  have HD := Lib.hid (fun wx => decode_e s wx (by omega))
  have HR := Lib.hid (fun wx => refDecode_e s wx (by omega))
  have hl := P.edOf_len s (by omega)
  generalize P.eok s = ok at *
  generalize P.edOf s = x at *
  have hsi : (9000 : Int) < (s0.length : Int) := by omega
  have hbi : 9000 ≤ s0.length := by omega
  go_enter Try.func6, Try.ntmps6
  go_wp2_with (first
    | (go_at_call 14; (with_reducible refine (HD.out _).mono ?_); rintro e w1 ⟨⟨a1, c1, b1, d1, rfl, he1⟩, hb1⟩)
    | (go_at_call 22; (with_reducible refine (HR.out _).mono ?_); rintro e w2 ⟨⟨a2, c2, b2, d2, rfl, he2⟩, hb2⟩))
  have ha1 := (Below.refl w1.heap.size w1).alloc (Nat.le_refl _) (.cells #[.slice a1 x.add.length c1, .slice b1 x.drop.length d1, V64 x.log, V64 x.seq, V64 x.next] 29)
  have ha2 := (Below.refl w2.heap.size w2).alloc (Nat.le_refl _) (.cells #[.slice a2 x.add.length c2, .slice b2 x.drop.length d2, V64 x.log, V64 x.seq, V64 x.next] 38)
  have hx3 := ((Bx.fresh w1 29 #[.slice a1 x.add.length c1, .slice b1 x.drop.length d1, V64 x.log, V64 x.seq, V64 x.next]).up hb2).up ha2
  have hx5 := Bx.fresh w2 38 #[.slice a2 x.add.length c2, .slice b2 x.drop.length d2, V64 x.log, V64 x.seq, V64 x.next]
  have hcF := Chain.up (Chain.up (Chain.up hb1 ha1) hb2) ha2
  have hE1 := ((he1.up ha1).up hb2).up ha2
  have hE2 := he2.up ha2
  obtain ⟨x0, x1, x2, x3, x4⟩ := hx3.five
  obtain ⟨z0, z1, z2, z3, z4⟩ := hx5.five
  clear hb1 hb2 he1 he2 hx3 hx5 ha1 ha2
  generalize w2.alloc (.cells #[.slice a2 x.add.length c2, .slice b2 x.drop.length d2, V64 x.log, V64 x.seq, V64 x.next] 38) = w3 at *
  have HS := Lib.hid (fun wx (hx : Below w3.heap.size w3 wx) => same_e x x.add.length x.drop.length rfl rfl a1 a2 b1 b2 c1 c2 d1 d2 wx hl.1 hl.2 (hE1.up hx) (hE2.up hx))
  clear hE1 hE2 hl
  generalize x.add.length = na at *
  generalize x.drop.length = nd at *
  refine wp_region_held_drew (S := fun wx => Below w3.heap.size w3 wx) (by kernel_rfl) (Below.refl _ _).drew (fun hHeld => ?_)
  refine wpAnyH_take (i := 0) (v := ?_) rfl (by kernel_rfl) (by kernel_rfl) (by kernel_rfl) (fun _ _ _ h => h) (Or.inl ⟨by rfl, ?_⟩) hHeld ?_
  rotate_left
  · intro wq hSw; go_simp; (try with_reducible rfl)
  simp only [Act.put, List.getElem_toArray, List.getElem_cons_succ, List.getElem_cons_zero, List.setIfInBounds_toArray, List.set_cons_zero, List.set_cons_succ]
  refine wpAnyH_take (i := 1) (v := ?_) rfl (by kernel_rfl) (by kernel_rfl) (by kernel_rfl) (fun _ _ _ h => h) (Or.inl ⟨by rfl, ?_⟩) hHeld ?_
  rotate_left
  · intro wq hSw; go_simp; (try with_reducible rfl)
  simp only [Act.put, List.getElem_toArray, List.getElem_cons_succ, List.getElem_cons_zero, List.setIfInBounds_toArray, List.set_cons_zero, List.set_cons_succ]
  refine wpAnyH_take (i := 2) (v := ?_) rfl (by kernel_rfl) (by kernel_rfl) (by kernel_rfl) (fun _ _ _ h => h) (Or.inl ⟨by rfl, ?_⟩) hHeld ?_
  rotate_left
  · intro wq hSw; go_simp; (try with_reducible rfl)
  simp only [Act.put, List.getElem_toArray, List.getElem_cons_succ, List.getElem_cons_zero, List.setIfInBounds_toArray, List.set_cons_zero, List.set_cons_succ]
  refine wpAnyH_take (i := 3) (v := ?_) rfl (by kernel_rfl) (by kernel_rfl) (by kernel_rfl) (fun _ _ _ h => h) (Or.inl ⟨by rfl, ?_⟩) hHeld ?_
  rotate_left
  · intro wq hSw; go_simp; (try with_reducible rfl)
  simp only [Act.put, List.getElem_toArray, List.getElem_cons_succ, List.getElem_cons_zero, List.setIfInBounds_toArray, List.set_cons_zero, List.set_cons_succ]
  refine wpAnyH_take (i := 4) (v := ?_) rfl (by kernel_rfl) (by kernel_rfl) (by kernel_rfl) (fun _ _ _ h => h) (Or.inl ⟨by rfl, ?_⟩) hHeld ?_
  rotate_left
  · intro wq hSw; have q0 := cell_up hSw x0; have q1 := cell_up hSw x1; have q2 := cell_up hSw x2; have q3 := cell_up hSw x3; have q4 := cell_up hSw x4; go_simp; (try with_reducible rfl)
  simp only [Act.put, List.getElem_toArray, List.getElem_cons_succ, List.getElem_cons_zero, List.setIfInBounds_toArray, List.set_cons_zero, List.set_cons_succ]
  refine wpAnyH_take (i := 6) (v := ?_) rfl (by kernel_rfl) (by kernel_rfl) (by kernel_rfl) (fun _ _ _ h => h) (Or.inl ⟨by rfl, ?_⟩) hHeld ?_
  rotate_left
  · intro wq hSw; have q0 := cell_up hSw z0; have q1 := cell_up hSw z1; have q2 := cell_up hSw z2; have q3 := cell_up hSw z3; have q4 := cell_up hSw z4; go_simp; (try with_reducible rfl)
  simp only [Act.put, List.getElem_toArray, List.getElem_cons_succ, List.getElem_cons_zero, List.setIfInBounds_toArray, List.set_cons_zero, List.set_cons_succ]
  refine wpAnyH_one (i := 5) (by kernel_rfl) rfl (fun K hK => ?_)
  simp only [List.getElem_toArray, List.getElem_cons_succ, List.getElem_cons_zero]
  go_simp
  (with_reducible refine (given_any _ _ _ _ _ _ _ _ _ _).mono ?_)
  rintro e w5 ⟨rfl, hb5⟩
  have hc5 := Chain.up hHeld hb5
  refine hK.out _ _ hc5 ?_
  clear hK K
  refine wpAnyH_one (i := 7) (by kernel_rfl) rfl (fun K hK => ?_)
  simp only [List.getElem_toArray, List.getElem_cons_succ, List.getElem_cons_zero]
  go_simp
  (with_reducible refine (HS.out _ hc5).mono ?_)
  rintro e w6 ⟨rfl, hb6⟩
  have hc6 := Chain.up hc5 hb6
  refine hK.out _ _ hc6 ?_
  clear hK K
  refine wpAnyH_take (i := 8) (v := ?_) rfl (by kernel_rfl) (by kernel_rfl) (by kernel_rfl) (fun _ _ _ h => h) (Or.inl ⟨by rfl, ?_⟩) hc6 ?_
  rotate_left
  · intro wq hSw; go_simp; (try with_reducible rfl)
  simp only [Act.put, List.getElem_toArray, List.getElem_cons_succ, List.getElem_cons_zero, List.setIfInBounds_toArray, List.set_cons_zero, List.set_cons_succ]
  refine wpAnyH_take (i := 9) (v := ?_) rfl (by kernel_rfl) (by kernel_rfl) (by kernel_rfl) (fun _ _ _ h => h) (Or.inl ⟨by rfl, ?_⟩) hc6 ?_
  rotate_left
  · intro wq hSw; go_simp; (try with_reducible rfl)
  simp only [Act.put, List.getElem_toArray, List.getElem_cons_succ, List.getElem_cons_zero, List.setIfInBounds_toArray, List.set_cons_zero, List.set_cons_succ]
  refine wpAnyH_one (i := 10) (by kernel_rfl) rfl (fun K hK => ?_)
  simp only [List.getElem_toArray, List.getElem_cons_succ, List.getElem_cons_zero]
  go_simp
  (with_reducible refine (awake_any _).mono ?_)
  rintro e w7 ⟨rfl, hb7⟩
  have hc7 := Chain.up hc6 hb7
  refine hK.out _ _ hc7 ?_
  clear hK K
  refine wpAnyH_take (i := 11) (v := ?_) rfl (by kernel_rfl) (by kernel_rfl) (by kernel_rfl) (fun _ _ _ h => h) (Or.inl ⟨by rfl, ?_⟩) hc7 ?_
  rotate_left
  · intro wq hSw; go_simp; (try with_reducible rfl)
  simp only [Act.put, List.getElem_toArray, List.getElem_cons_succ, List.getElem_cons_zero, List.setIfInBounds_toArray, List.set_cons_zero, List.set_cons_succ]
  refine wpAnyH_take (i := 12) (v := ?_) rfl (by kernel_rfl) (by kernel_rfl) (by kernel_rfl) (fun _ _ _ h => h) (Or.inl ⟨by rfl, ?_⟩) hc7 ?_
  rotate_left
  · intro wq hSw; go_simp; (try with_reducible rfl)
  simp only [Act.put, List.getElem_toArray, List.getElem_cons_succ, List.getElem_cons_zero, List.setIfInBounds_toArray, List.set_cons_zero, List.set_cons_succ]
  refine wpAnyH_done (by kernel_rfl) ?_ _
  go_wp2_with fail
  go_ret
  exact ⟨rfl, Chain.up hcF hc7⟩
theorem law_reads (s : List UInt8) (w : World) (_hs : s.length ≤ 9223372036854775807) :
    Calls Try.prog 6 #[S s] w fun e w' => e = .returned (.bool true) ∧ Below w.heap.size w w' := by
  by_cases h : s.length ≤ 9000
  · exact law_reads0 s w h
  · exact law_reads1 (s.take 9000) s w (by omega) rfl (by rw [List.length_take]; omega)
end Go.Proofs.Ythpgigjplknomaa
