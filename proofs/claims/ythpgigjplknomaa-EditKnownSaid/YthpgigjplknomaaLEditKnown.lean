/- The walk of EditKnown: it answers true. -/
import Derived.Test.YthpgigjplknomaaLEditOnly
namespace Go.Proofs.Ythpgigjplknomaa
open Go.RowKit
set_option linter.unusedVariables false
set_option linter.unusedSimpArgs false

def P.tabL : P.Tab := ⟨3, 4, 2, 40, [97], [98], 5, 9⟩
def P.tabR : P.Tab := ⟨3, 1, 2, 40, [99], [98], 5, 9⟩
def P.tabM : P.Tab := ⟨3, 1, 2, 40, [97], [98], 10, 9⟩
def P.tabN : P.Tab := ⟨3, 1, 0, 40, [97], [98], 5, 9⟩
def P.badL : List P.Ed := [⟨[], [0], 0, 0, 0⟩, ⟨[], [1099511627777], 0, 0, 0⟩, ⟨[P.tabL], [], 0, 0, 0⟩, ⟨[P.tabR], [], 0, 0, 0⟩, ⟨[P.tabM], [], 0, 0, 0⟩, ⟨[P.tab0, P.tabN], [], 0, 0, 0⟩]
theorem P.badL_all : (P.badL.all fun x => !P.mayB x && (decide (x.add.length ≤ 60) && decide (x.drop.length ≤ 60))) = true := by kernel_rfl
theorem P.badL_ok (k : Nat) (h : k < P.badL.length) : P.mayB P.badL[k] = false ∧ P.badL[k].add.length ≤ 60 ∧ P.badL[k].drop.length ≤ 60 := by
  have := (List.all_eq_true.1 P.badL_all) _ (List.getElem_mem h)
  simpa only [Bool.and_eq_true, decide_eq_true_eq, Bool.not_eq_true'] using this
theorem eds_six (w : World) (a0 b0 a1 b1 a2 b2 a3 b3 a4 b4 a5 b5 : Option Addr) (c0 d0 c1 d1 c2 d2 c3 d3 c4 d4 c5 d5 : Nat) (p0 : EdAt w a0 b0 (P.badL[0]'(by decide))) (p1 : EdAt w a1 b1 (P.badL[1]'(by decide))) (p2 : EdAt w a2 b2 (P.badL[2]'(by decide))) (p3 : EdAt w a3 b3 (P.badL[3]'(by decide))) (p4 : EdAt w a4 b4 (P.badL[4]'(by decide))) (p5 : EdAt w a5 b5 (P.badL[5]'(by decide))) (A : Array Value) (hA : A = #[.slice a0 0 c0, .slice b0 1 d0, .int .u64 0, .int .u64 0, .int .u64 0, .slice a1 0 c1, .slice b1 1 d1, .int .u64 0, .int .u64 0, .int .u64 0, .slice a2 1 c2, .slice b2 0 d2, .int .u64 0, .int .u64 0, .int .u64 0, .slice a3 1 c3, .slice b3 0 d3, .int .u64 0, .int .u64 0, .int .u64 0, .slice a4 1 c4, .slice b4 0 d4, .int .u64 0, .int .u64 0, .int .u64 0, .slice a5 2 c5, .slice b5 0 d5, .int .u64 0, .int .u64 0, .int .u64 0]) :
    EdsAt (w.alloc (.cells A 29)) (some ⟨w.heap.size, 0, none⟩) P.badL := by
  subst hA
  have hb := (Below.refl w.heap.size w).alloc (Nat.le_refl _) (.cells #[.slice a0 0 c0, .slice b0 1 d0, .int .u64 0, .int .u64 0, .int .u64 0, .slice a1 0 c1, .slice b1 1 d1, .int .u64 0, .int .u64 0, .int .u64 0, .slice a2 1 c2, .slice b2 0 d2, .int .u64 0, .int .u64 0, .int .u64 0, .slice a3 1 c3, .slice b3 0 d3, .int .u64 0, .int .u64 0, .int .u64 0, .slice a4 1 c4, .slice b4 0 d4, .int .u64 0, .int .u64 0, .int .u64 0, .slice a5 2 c5, .slice b5 0 d5, .int .u64 0, .int .u64 0, .int .u64 0] 29)
  have hx := fun i => (Bx.fresh w 29 #[.slice a0 0 c0, .slice b0 1 d0, .int .u64 0, .int .u64 0, .int .u64 0, .slice a1 0 c1, .slice b1 1 d1, .int .u64 0, .int .u64 0, .int .u64 0, .slice a2 1 c2, .slice b2 0 d2, .int .u64 0, .int .u64 0, .int .u64 0, .slice a3 1 c3, .slice b3 0 d3, .int .u64 0, .int .u64 0, .int .u64 0, .slice a4 1 c4, .slice b4 0 d4, .int .u64 0, .int .u64 0, .int .u64 0, .slice a5 2 c5, .slice b5 0 d5, .int .u64 0, .int .u64 0, .int .u64 0]).cell i
  intro i hi
  match i, hi with
  | 0, _ => exact ⟨w.heap.size, 0, rfl, by simp, a0, c0, b0, d0, hx 0, hx 1, hx 2, hx 3, hx 4, p0.up hb⟩
  | 1, _ => exact ⟨w.heap.size, 0, rfl, by simp, a1, c1, b1, d1, hx 5, hx 6, hx 7, hx 8, hx 9, p1.up hb⟩
  | 2, _ => exact ⟨w.heap.size, 0, rfl, by simp, a2, c2, b2, d2, hx 10, hx 11, hx 12, hx 13, hx 14, p2.up hb⟩
  | 3, _ => exact ⟨w.heap.size, 0, rfl, by simp, a3, c3, b3, d3, hx 15, hx 16, hx 17, hx 18, hx 19, p3.up hb⟩
  | 4, _ => exact ⟨w.heap.size, 0, rfl, by simp, a4, c4, b4, d4, hx 20, hx 21, hx 22, hx 23, hx 24, p4.up hb⟩
  | 5, _ => exact ⟨w.heap.size, 0, rfl, by simp, a5, c5, b5, d5, hx 25, hx 26, hx 27, hx 28, hx 29, p5.up hb⟩
  | i + 6, h => exact absurd h (by simp [P.badL])
/-- What a slot of the table's making holds. -/
inductive K13t where
  | nums (l : List Nat)
  | tabs (l : List P.Tab)
  | ed (x : P.Ed)
  | one
  | rows
  | any
def K13t.holds : K13t → Value → World → Prop
  | .nums l, v, w => ∃ a c, v = .slice a l.length c ∧ NumsAt w a l
  | .tabs l, v, w => ∃ a c, v = .slice a l.length c ∧ TabsAt w a l
  | .ed x, v, w => ∃ a c b d, v = edV a x.add.length c b x.drop.length d x.log x.seq x.next ∧ EdAt w a b x
  | .one, v, _ => v = tab0V
  | .rows, v, w => ∃ g, v = .slice (some ⟨g, 0, none⟩) 6 6 ∧ EdsAt w (some ⟨g, 0, none⟩) P.badL
  | .any, _, _ => True
def spec13 : Nat → K13t
  | 0 => .nums [0]
  | 1 => .ed ⟨[], [0], 0, 0, 0⟩
  | 2 => .nums [1099511627777]
  | 3 => .ed ⟨[], [1099511627777], 0, 0, 0⟩
  | 5 => .tabs [P.tabL]
  | 6 => .ed ⟨[P.tabL], [], 0, 0, 0⟩
  | 8 => .tabs [P.tabR]
  | 9 => .ed ⟨[P.tabR], [], 0, 0, 0⟩
  | 11 => .tabs [P.tabM]
  | 12 => .ed ⟨[P.tabM], [], 0, 0, 0⟩
  | 13 => .one
  | 15 => .tabs [P.tab0, P.tabN]
  | 16 => .ed ⟨[P.tab0, P.tabN], [], 0, 0, 0⟩
  | 17 => .rows
  | 18 => .rows
  | _ => .any
def K13 (i : Nat) (v : Value) (w : World) : Prop := (spec13 i).holds v w
theorem K13_up (i : Nat) (v : Value) (w w' : World) (h : K13 i v w) (hb : Below w.heap.size w w') : K13 i v w' := by
  unfold K13 at *
  generalize spec13 i = s at *
  cases s with
  | nums l => obtain ⟨a, c, h1, h2⟩ := h; exact ⟨a, c, h1, NumsAt.below h2 hb⟩
  | tabs l => obtain ⟨a, c, h1, h2⟩ := h; exact ⟨a, c, h1, RowsAt.up h2 hb⟩
  | ed x => obtain ⟨a, c, b, d, h1, h2⟩ := h; exact ⟨a, c, b, d, h1, h2.up hb⟩
  | one => exact h
  | rows => obtain ⟨g, h1, h2⟩ := h; exact ⟨g, h1, h2.up hb⟩
  | any => trivial
theorem encode_zero (w : World) :
    Calls Try.prog 11 #[.agg #[.slice none 0 0, .slice none 0 0, .int .u64 0, .int .u64 0, .int .u64 0]] w fun e w' => e = .returned (.tuple #[S [0, 0, 0, 0, 0], .int .i64 0]) ∧ Below w.heap.size w w' := by
  have h := encode_any P.noE none none 0 0 w (by decide) (by decide) ⟨tabs_none _ _, nums_none _ _⟩ ⟨fun t ht => by simp [P.noE] at ht, by decide, by decide, fun n hn => by simp [P.noE] at hn, by decide, by decide, by decide⟩
  rw [show P.resE P.noE = ([0, 0, 0, 0, 0], 0) by decide] at h
  exact h
def P.edS : P.Ed := ⟨[], [7], 1, 9, 4⟩
theorem P.edS_add : ∀ n ∈ P.edS.drop, n < 2 ^ 64 := by
  intro n hn
  obtain rfl : n = 7 := by simpa [P.edS] using hn
  decide
theorem encode_seven (a : Option Addr) (c : Nat) (w : World) (hp : NumsAt w a [7]) :
    Calls Try.prog 11 #[.agg #[.slice none 0 0, .slice a 1 c, .int .u64 1, .int .u64 9, .int .u64 4]] w fun e w' => e = .returned (.tuple #[S [0, 1, 7, 1, 9, 4], .int .i64 0]) ∧ Below w.heap.size w w' := by
  have h := encode_any P.edS none a 0 c w (by decide) (by decide) ⟨tabs_none _ _, hp⟩ ⟨fun t ht => by simp [P.edS] at ht, by decide, by decide, P.edS_add, by decide, by decide, by decide⟩
  rw [show P.resE P.edS = ([0, 1, 7, 1, 9, 4], 0) by decide] at h
  exact h
theorem P.ed0_cut : P.eok [1, 3, 1, 2, 40, 5, 9, 1, 97, 1, 98, 0, 0, 0] = false := by
  unfold P.eok
  have := P.decE_cut P.ed0_may P.ed0_ty 14 (by rw [P.ed0_enc]; decide)
  rw [P.ed0_enc] at this
  rw [show ([1, 3, 1, 2, 40, 5, 9, 1, 97, 1, 98, 0, 0, 0] : List UInt8) = ed0B.take 14 from rfl, this]
  rfl
theorem P.ed0_more : P.eok [1, 3, 1, 2, 40, 5, 9, 1, 97, 1, 98, 0, 0, 0, 0, 0] = false := by
  unfold P.eok
  have := P.decE_more P.ed0_may P.ed0_ty [0] (by decide)
  rw [P.ed0_enc] at this
  rw [show ([1, 3, 1, 2, 40, 5, 9, 1, 97, 1, 98, 0, 0, 0, 0, 0] : List UInt8) = ed0B ++ [0] from rfl, this]
  rfl
theorem join_none (w : World) :
    Calls Try.prog 17 #[.slice none 0 0] w fun e w' => (∃ a c b d, e = .returned (.agg #[.slice a 0 c, .slice b 0 d, .int .u64 0, .int .u64 0, .int .u64 0])) ∧ Below w.heap.size w w' := by
  refine (join_list [] none 0 0 rfl w ⟨by simp, fun e he => by simp at he⟩ (fun i hi => by simp at hi)).mono ?_
  rintro e w' ⟨va, vb, rfl, h1, h2, hb⟩
  obtain ⟨a1, c1, rfl, _, _⟩ := h1.is tabCells_len
  obtain ⟨a2, c2, rfl, _, _⟩ := h2.is numCells_len
  exact ⟨⟨a1, c1, a2, c2, rfl⟩, hb⟩
theorem four_bx (w : World) (A B C D : Array Value) (t u v x : TypeId) :
    Bx ((((w.alloc (.cells A t)).alloc (.cells B u)).alloc (.cells C v)).alloc (.cells D x)) w.heap.size t A ∧ Bx ((((w.alloc (.cells A t)).alloc (.cells B u)).alloc (.cells C v)).alloc (.cells D x)) (w.heap.size + 1) u B ∧
      Bx ((((w.alloc (.cells A t)).alloc (.cells B u)).alloc (.cells C v)).alloc (.cells D x)) (w.heap.size + 1 + 1) v C ∧ Bx ((((w.alloc (.cells A t)).alloc (.cells B u)).alloc (.cells C v)).alloc (.cells D x)) (w.heap.size + 1 + 1 + 1) x D ∧
      Below w.heap.size w ((((w.alloc (.cells A t)).alloc (.cells B u)).alloc (.cells C v)).alloc (.cells D x)) := by
  obtain ⟨h0, h1, h2, h3⟩ := three_boxes w A B C t u v
  have hz : (((w.alloc (.cells A t)).alloc (.cells B u)).alloc (.cells C v)).heap.size = w.heap.size + 1 + 1 + 1 := by simp
  generalize ((w.alloc (.cells A t)).alloc (.cells B u)).alloc (.cells C v) = w3 at *
  have hb := (Below.refl w3.heap.size w3).alloc (Nat.le_refl _) (.cells D x)
  have h4 := Bx.fresh w3 x D
  rw [hz] at h4
  exact ⟨h0.up hb, h1.up hb, h2.up hb, h4, h3.trans (hb.mono h3.size)⟩
attribute [local go_sem] str_take str_app

set_option maxRecDepth 100000 in
set_option maxHeartbeats 8000000 in
theorem law_known (w : World) :
    Calls Try.prog 3 #[] w fun e w' => e = .returned (.bool true) ∧ Below w.heap.size w w' := by
  go_enter Try.func3, Try.ntmps3
  go_wp2_with (first
    | (go_at_call 11; (with_reducible refine (encode_zero _).mono ?_); rintro e w1 ⟨rfl, hb1⟩)
    | (go_at_call 11; (with_reducible refine (encode_seven _ _ _ ?h).mono ?_); (case h => exact NumsAt.of (rows_new 1 numCells numCells_len w1 [7] _ _ rfl)); rintro e w2 ⟨rfl, hb2⟩; have hc2 := Chain.up (Chain.up hb1 ((Below.refl _ _).alloc (Nat.le_refl _) _)) hb2)
    | (go_at_call 12; (with_reducible refine (tab_law _).mono ?_); rintro e wt ⟨rfl, hbt⟩))
  rename_i wa hba wb hbb wc hbc K0 hK0
  have hcT := Chain.up (Chain.up (Chain.up (Chain.up hc2 hba) hbb) hbc) hbt
  obtain ⟨hx5, hx6, hx7, hx8, hbw⟩ := four_bx wt #[.int .u64 3, .int .i64 4, .int .i64 2, .int .i64 40, .string ⟨#[97]⟩, .string ⟨#[98]⟩, .int .u64 5, .int .u64 9] #[.int .u64 3, .int .i64 1, .int .i64 2, .int .i64 40, .string ⟨#[99]⟩, .string ⟨#[98]⟩, .int .u64 5, .int .u64 9] #[.int .u64 3, .int .i64 1, .int .i64 2, .int .i64 40, .string ⟨#[97]⟩, .string ⟨#[98]⟩, .int .u64 10, .int .u64 9] #[.int .u64 3, .int .i64 1, .int .i64 0, .int .i64 40, .string ⟨#[97]⟩, .string ⟨#[98]⟩, .int .u64 5, .int .u64 9] 31 31 31 31
  have hc8 := Chain.up hcT hbw
  clear hb1 hb2 hc2 hba hbb hbc hbt hcT
  generalize (((wt.alloc (.cells #[.int .u64 3, .int .i64 4, .int .i64 2, .int .i64 40, .string ⟨#[97]⟩, .string ⟨#[98]⟩, .int .u64 5, .int .u64 9] 31)).alloc (.cells #[.int .u64 3, .int .i64 1, .int .i64 2, .int .i64 40, .string ⟨#[99]⟩, .string ⟨#[98]⟩, .int .u64 5, .int .u64 9] 31)).alloc (.cells #[.int .u64 3, .int .i64 1, .int .i64 2, .int .i64 40, .string ⟨#[97]⟩, .string ⟨#[98]⟩, .int .u64 10, .int .u64 9] 31)).alloc (.cells #[.int .u64 3, .int .i64 1, .int .i64 0, .int .i64 40, .string ⟨#[97]⟩, .string ⟨#[98]⟩, .int .u64 5, .int .u64 9] 31) = w8 at *
  clear hbw
  generalize wt.heap.size = gt at *
  refine wp_region_held_drew (S := fun wx => Below w8.heap.size w8 wx) (by kernel_rfl) (Below.refl _ _).drew (fun hHeld => ?_)
  refine wpAnyH_take (i := 4) (v := ?_) rfl (by kernel_rfl) (by kernel_rfl) (by kernel_rfl) (fun _ _ _ h => h) (Or.inl ⟨by rfl, ?_⟩) hHeld ?_
  rotate_left
  · intro wq hSw; obtain ⟨⟨e0, e1, e2, e3⟩, e4, e5, e6, e7⟩ := Bx.eight (hx5.up hSw); go_simp; (try with_reducible rfl)
  simp only [Act.put, List.getElem_toArray, List.getElem_cons_succ, List.getElem_cons_zero, List.setIfInBounds_toArray, List.set_cons_zero, List.set_cons_succ]
  refine wpAnyH_take (i := 7) (v := ?_) rfl (by kernel_rfl) (by kernel_rfl) (by kernel_rfl) (fun _ _ _ h => h) (Or.inl ⟨by rfl, ?_⟩) hHeld ?_
  rotate_left
  · intro wq hSw; obtain ⟨⟨e0, e1, e2, e3⟩, e4, e5, e6, e7⟩ := Bx.eight (hx6.up hSw); go_simp; (try with_reducible rfl)
  simp only [Act.put, List.getElem_toArray, List.getElem_cons_succ, List.getElem_cons_zero, List.setIfInBounds_toArray, List.set_cons_zero, List.set_cons_succ]
  refine wpAnyH_take (i := 10) (v := ?_) rfl (by kernel_rfl) (by kernel_rfl) (by kernel_rfl) (fun _ _ _ h => h) (Or.inl ⟨by rfl, ?_⟩) hHeld ?_
  rotate_left
  · intro wq hSw; obtain ⟨⟨e0, e1, e2, e3⟩, e4, e5, e6, e7⟩ := Bx.eight (hx7.up hSw); go_simp; (try with_reducible rfl)
  simp only [Act.put, List.getElem_toArray, List.getElem_cons_succ, List.getElem_cons_zero, List.setIfInBounds_toArray, List.set_cons_zero, List.set_cons_succ]
  refine wpAnyH_take (i := 14) (v := ?_) rfl (by kernel_rfl) (by kernel_rfl) (by kernel_rfl) (fun _ _ _ h => h) (Or.inl ⟨by rfl, ?_⟩) hHeld ?_
  rotate_left
  · intro wq hSw; obtain ⟨⟨e0, e1, e2, e3⟩, e4, e5, e6, e7⟩ := Bx.eight (hx8.up hSw); go_simp; (try with_reducible rfl)
  simp only [Act.put, List.getElem_toArray, List.getElem_cons_succ, List.getElem_cons_zero, List.setIfInBounds_toArray, List.set_cons_zero, List.set_cons_succ]
  refine wpAnyH_by K13 (fun wx wy => Below wx.heap.size wx wy) [(0, some 38), (1, some 39), (2, some 40), (3, some 41), (5, some 43), (6, some 44), (8, some 46), (9, some 47), (11, some 49), (12, some 50), (13, some 51), (15, some 53), (16, some 54), (17, some 55), (18, some 9)] 0 rfl (by kernel_rfl) (by kernel_rfl) (by kernel_rfl) (by kernel_rfl) (by kernel_rfl) (by kernel_rfl) (by kernel_rfl) K13_up hHeld ?_ ?_
  · skip
    refine StepsI.cons (fun vals wx hS hd K hK => ?_) ?_
    · simp only [fillA, Act.put, List.setIfInBounds_toArray, List.set_cons_zero, List.set_cons_succ] at hK ⊢
      go_simp
      exact hK.out _ _ ⟨_, _, rfl, NumsAt.of (rows_new 1 numCells numCells_len wx [0] _ _ rfl)⟩ (hS.alloc hS.size _) ((Below.refl _ _).alloc (Nat.le_refl _) _)
    refine StepsI.cons (fun vals wx hS hd K hK => ?_) ?_
    · simp only [fillA, Act.put, List.setIfInBounds_toArray, List.set_cons_zero, List.set_cons_succ] at hK ⊢
      obtain ⟨a1, c1, h1, p1⟩ := hd 0 (some 38) (by decide) (by kernel_rfl)
      simp only [h1] at hK ⊢
      go_simp
      exact hK.out _ _ ⟨none, 0, a1, c1, rfl, tabs_none _ _, p1⟩ hS (Below.refl _ _)
    refine StepsI.cons (fun vals wx hS hd K hK => ?_) ?_
    · simp only [fillA, Act.put, List.setIfInBounds_toArray, List.set_cons_zero, List.set_cons_succ] at hK ⊢
      go_simp
      exact hK.out _ _ ⟨_, _, rfl, NumsAt.of (rows_new 1 numCells numCells_len wx [1099511627777] _ _ rfl)⟩ (hS.alloc hS.size _) ((Below.refl _ _).alloc (Nat.le_refl _) _)
    refine StepsI.cons (fun vals wx hS hd K hK => ?_) ?_
    · simp only [fillA, Act.put, List.setIfInBounds_toArray, List.set_cons_zero, List.set_cons_succ] at hK ⊢
      obtain ⟨a1, c1, h1, p1⟩ := hd 2 (some 40) (by decide) (by kernel_rfl)
      simp only [h1] at hK ⊢
      go_simp
      exact hK.out _ _ ⟨none, 0, a1, c1, rfl, tabs_none _ _, p1⟩ hS (Below.refl _ _)
    refine StepsI.skip (by kernel_rfl) ?_
    refine StepsI.cons (fun vals wx hS hd K hK => ?_) ?_
    · simp only [fillA, Act.put, List.setIfInBounds_toArray, List.set_cons_zero, List.set_cons_succ] at hK ⊢
      go_simp
      exact hK.out _ _ ⟨_, _, rfl, rows_new 8 tabCells tabCells_len wx [P.tabL] _ _ rfl⟩ (hS.alloc hS.size _) ((Below.refl _ _).alloc (Nat.le_refl _) _)
    refine StepsI.cons (fun vals wx hS hd K hK => ?_) ?_
    · simp only [fillA, Act.put, List.setIfInBounds_toArray, List.set_cons_zero, List.set_cons_succ] at hK ⊢
      obtain ⟨a1, c1, h1, p1⟩ := hd 5 (some 43) (by decide) (by kernel_rfl)
      simp only [h1] at hK ⊢
      go_simp
      exact hK.out _ _ ⟨a1, c1, none, 0, rfl, p1, nums_none _ _⟩ hS (Below.refl _ _)
    refine StepsI.skip (by kernel_rfl) ?_
    refine StepsI.cons (fun vals wx hS hd K hK => ?_) ?_
    · simp only [fillA, Act.put, List.setIfInBounds_toArray, List.set_cons_zero, List.set_cons_succ] at hK ⊢
      go_simp
      exact hK.out _ _ ⟨_, _, rfl, rows_new 8 tabCells tabCells_len wx [P.tabR] _ _ rfl⟩ (hS.alloc hS.size _) ((Below.refl _ _).alloc (Nat.le_refl _) _)
    refine StepsI.cons (fun vals wx hS hd K hK => ?_) ?_
    · simp only [fillA, Act.put, List.setIfInBounds_toArray, List.set_cons_zero, List.set_cons_succ] at hK ⊢
      obtain ⟨a1, c1, h1, p1⟩ := hd 8 (some 46) (by decide) (by kernel_rfl)
      simp only [h1] at hK ⊢
      go_simp
      exact hK.out _ _ ⟨a1, c1, none, 0, rfl, p1, nums_none _ _⟩ hS (Below.refl _ _)
    refine StepsI.skip (by kernel_rfl) ?_
    refine StepsI.cons (fun vals wx hS hd K hK => ?_) ?_
    · simp only [fillA, Act.put, List.setIfInBounds_toArray, List.set_cons_zero, List.set_cons_succ] at hK ⊢
      go_simp
      exact hK.out _ _ ⟨_, _, rfl, rows_new 8 tabCells tabCells_len wx [P.tabM] _ _ rfl⟩ (hS.alloc hS.size _) ((Below.refl _ _).alloc (Nat.le_refl _) _)
    refine StepsI.cons (fun vals wx hS hd K hK => ?_) ?_
    · simp only [fillA, Act.put, List.setIfInBounds_toArray, List.set_cons_zero, List.set_cons_succ] at hK ⊢
      obtain ⟨a1, c1, h1, p1⟩ := hd 11 (some 49) (by decide) (by kernel_rfl)
      simp only [h1] at hK ⊢
      go_simp
      exact hK.out _ _ ⟨a1, c1, none, 0, rfl, p1, nums_none _ _⟩ hS (Below.refl _ _)
    refine StepsI.cons (fun vals wx hS hd K hK => ?_) ?_
    · simp only [fillA, Act.put, List.setIfInBounds_toArray, List.set_cons_zero, List.set_cons_succ] at hK ⊢
      go_simp
      (with_reducible refine (tab_law _).mono ?_)
      rintro e1 w6 ⟨rfl, hb6⟩
      exact hK.out _ _ rfl (Chain.up hS hb6) hb6
    refine StepsI.skip (by kernel_rfl) ?_
    refine StepsI.cons (fun vals wx hS hd K hK => ?_) ?_
    · simp only [fillA, Act.put, List.setIfInBounds_toArray, List.set_cons_zero, List.set_cons_succ] at hK ⊢
      have h1 : vals 13 = tab0V := hd 13 (some 51) (by decide) (by kernel_rfl)
      simp only [h1] at hK ⊢
      go_simp
      exact hK.out _ _ ⟨_, _, rfl, rows_new 8 tabCells tabCells_len wx [P.tab0, P.tabN] _ _ rfl⟩ (hS.alloc hS.size _) ((Below.refl _ _).alloc (Nat.le_refl _) _)
    refine StepsI.cons (fun vals wx hS hd K hK => ?_) ?_
    · simp only [fillA, Act.put, List.setIfInBounds_toArray, List.set_cons_zero, List.set_cons_succ] at hK ⊢
      obtain ⟨a1, c1, h1, p1⟩ := hd 15 (some 53) (by decide) (by kernel_rfl)
      simp only [h1] at hK ⊢
      go_simp
      exact hK.out _ _ ⟨a1, c1, none, 0, rfl, p1, nums_none _ _⟩ hS (Below.refl _ _)
    refine StepsI.cons (fun vals wx hS hd K hK => ?_) ?_
    · simp only [fillA, Act.put, List.setIfInBounds_toArray, List.set_cons_zero, List.set_cons_succ] at hK ⊢
      obtain ⟨a0, c0, b0, d0, h0, p0⟩ := hd 1 (some 39) (by decide) (by kernel_rfl)
      obtain ⟨a1, c1, b1, d1, h1, p1⟩ := hd 3 (some 41) (by decide) (by kernel_rfl)
      obtain ⟨a2, c2, b2, d2, h2, p2⟩ := hd 6 (some 44) (by decide) (by kernel_rfl)
      obtain ⟨a3, c3, b3, d3, h3, p3⟩ := hd 9 (some 47) (by decide) (by kernel_rfl)
      obtain ⟨a4, c4, b4, d4, h4, p4⟩ := hd 12 (some 50) (by decide) (by kernel_rfl)
      obtain ⟨a5, c5, b5, d5, h5, p5⟩ := hd 16 (some 54) (by decide) (by kernel_rfl)
      simp only [h0, h1, h2, h3, h4, h5] at hK ⊢
      go_simp
      exact hK.out _ _ ⟨_, rfl, eds_six wx a0 b0 a1 b1 a2 b2 a3 b3 a4 b4 a5 b5 c0 d0 c1 d1 c2 d2 c3 d3 c4 d4 c5 d5 p0 p1 p2 p3 p4 p5 _ rfl⟩ (hS.alloc hS.size _) ((Below.refl _ _).alloc (Nat.le_refl _) _)
    refine StepsI.cons (fun vals wx hS hd K hK => ?_) ?_
    · simp only [fillA, Act.put, List.setIfInBounds_toArray, List.set_cons_zero, List.set_cons_succ] at hK ⊢
      obtain ⟨g, h1, p1⟩ := hd 17 (some 55) (by decide) (by kernel_rfl)
      simp only [h1] at hK ⊢
      go_simp
      exact hK.out _ _ ⟨g, rfl, p1⟩ hS (Below.refl _ _)
    exact StepsI.nil
  · intro vals wx hS hR
    obtain ⟨g, hg, hT⟩ : ∃ g, vals 18 = .slice (some ⟨g, 0, none⟩) 6 6 ∧ EdsAt wx (some ⟨g, 0, none⟩) P.badL := hR (18, some 9) (by decide)
    refine wpAnyH_done (by kernel_rfl) ?_ _
    simp only [fillA, Act.put, List.setIfInBounds_toArray, List.set_cons_zero, List.set_cons_succ, hg]
    clear hR hg
    generalize vals 0 = x0
    generalize vals 1 = x1
    generalize vals 2 = x2
    generalize vals 3 = x3
    generalize vals 5 = x5
    generalize vals 6 = x6
    generalize vals 8 = x8
    generalize vals 9 = x9
    generalize vals 11 = x11
    generalize vals 12 = x12
    generalize vals 13 = x13
    generalize vals 15 = x15
    generalize vals 16 = x16
    generalize vals 17 = x17

    clear hx5 hx6 hx7 hx8 hHeld
    go_wp2_with fail
    go_loopw [10] (fun i wr => ∃ k : Nat, k ≤ 6 ∧ i = .int .i64 k ∧ Below wx.heap.size wx wr) (fun i _ => 6 - (intOf i).toNat)
    case atStart => exact ⟨0, by omega, rfl, Below.refl _ _⟩
    case round =>
      obtain ⟨k, hk, rfl, hb⟩ := hrel
      by_cases hlt : k < 6
      · have hltl : k < P.badL.length := hlt
        obtain ⟨bb, o, hgo, hbb, aa, ca, ab, cb, c0, c1, c2, c3, c4, hed⟩ := (hT.up hb) k hltl
        cases hgo
        obtain ⟨hno, hl1, hl2⟩ := P.badL_ok k hltl
        simp only [Nat.zero_add] at c0 c1 c2 c3 c4
        generalize P.badL[k] = x at *
        have HE := Lib.hid (fun wz (hz : Below wr.heap.size wr wz) => encode_no x aa ab ca cb x.log x.seq x.next wz (by omega) (by omega) (hed.up hz) hno)
        have HC := Lib.hid (fun wz (hz : Below wr.heap.size wr wz) => check_any x aa ab x.add.length ca x.drop.length cb rfl rfl wz (by omega) (by omega) (hed.up hz) x.log x.seq x.next 1 (by unfold P.chkE; rw [hno]; rfl))
        have hki : (k : Int) < 6 := by omega
        have hki0 : (0 : Int) ≤ (k : Int) := by omega
        clear hno hl1 hl2 hed hT
        generalize x.add.length = n at *
        generalize x.drop.length = m at *
        generalize x.log = xl at *
        generalize x.seq = xs at *
        generalize x.next = xn at *
        go_wp2_with (first
          | (go_at_call 11; (with_reducible refine (HE.out _ (Below.refl _ _)).mono ?_); rintro e w2 ⟨rfl, hb2⟩; have y0 := cell_up hb2 c0; have y1 := cell_up hb2 c1; have y2 := cell_up hb2 c2; have y3 := cell_up hb2 c3; have y4 := cell_up hb2 c4; have hw2 := Chain.up hb hb2)
          | (go_at_call 13; (with_reducible refine (HC.out _ hb2).mono ?_); rintro e w3 ⟨rfl, hb3⟩; have hw3 := Chain.up hw2 hb3))
        go_roundw
        case rel => exact ⟨k + 1, by omega, by go_num, hw3⟩
        case measure => simp [intOf]; omega
      · obtain rfl : k = 6 := by omega
        clear hlt hk hT
        have hc1 := Chain.up (Chain.up hc8 hS) hb
        go_wp2_with (first
          | (go_at_call 12; (with_reducible refine (tab_law _).mono ?_); rintro e wa ⟨rfl, hba⟩)
          | (go_at_call 11; (with_reducible refine (encode_ed0 _ _ _ ?h).mono ?_); (case h => exact tabs_one _ P.tab0 _ rfl); rintro e wb ⟨rfl, hbb⟩; have hc2 := Chain.up (Chain.up (Chain.up hc1 hba) ((Below.refl _ _).alloc (Nat.le_refl _) _)) hbb)
          | (go_at_call 14; (with_reducible refine (decode_no [1, 3, 1, 2, 40, 5, 9, 1, 97, 1, 98, 0, 0, 0] P.ed0_cut _ (by decide)).mono ?_); rintro e w4 ⟨⟨a4, c4, b4, d4, rfl⟩, hb4⟩; have hc4 := (Chain.up hc2 hb4).alloc (Chain.up hc2 hb4).size (.cells #[.slice a4 0 c4, .slice b4 0 d4, .int .u64 0, .int .u64 0, .int .u64 0] 29))
          | (go_at_call 14; (with_reducible refine (decode_no [1, 3, 1, 2, 40, 5, 9, 1, 97, 1, 98, 0, 0, 0, 0, 0] P.ed0_more _ (by decide)).mono ?_); rintro e w5 ⟨⟨a5, c5, b5, d5, rfl⟩, hb5⟩; have hc5 := (Chain.up hc4 hb5).alloc (Chain.up hc4 hb5).size (.cells #[.slice a5 0 c5, .slice b5 0 d5, .int .u64 0, .int .u64 0, .int .u64 0] 29))
          | (go_at_call 17; (with_reducible refine (join_none _).mono ?_); rintro e w6 ⟨⟨a6, c6, b6, d6, rfl⟩, hb6⟩; have hc6 := Chain.up hc5 hb6)
          | (go_at_call 16; (with_reducible refine (given_zero _ _ _ _ _).mono ?_); rintro e w7 ⟨rfl, hb7⟩; have hc7 := Chain.up hc6 hb7)
          | (go_at_call 15; (with_reducible refine (same_zero _ _ _ _ _).mono ?_); rintro e w8 ⟨rfl, hb8⟩; have hc9 := Chain.up hc7 hb8)
          | (go_at_call 18; (with_reducible refine (awake_any _).mono ?_); rintro e w9 ⟨rfl, hb9⟩))
        go_ret
        exact ⟨rfl, Chain.up hc9 hb9⟩
end Go.Proofs.Ythpgigjplknomaa
