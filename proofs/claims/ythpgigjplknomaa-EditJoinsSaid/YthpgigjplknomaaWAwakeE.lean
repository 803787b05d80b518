/- The walk of the edit laws' awake; what is read, in one form; contracts at later worlds. -/
import Derived.Test.YthpgigjplknomaaWEdJoins
import Derived.Test.YthpgigjplknomaaWEdEnc
import Derived.Test.YthpgigjplknomaaWEdSame
import Derived.Test.YthpgigjplknomaaWEdGreat
import Derived.Test.YthpgigjplknomaaPEdit4
namespace Go.Proofs.Ythpgigjplknomaa
open Go.RowKit
set_option linter.unusedVariables false
set_option linter.unusedSimpArgs false

/-! ### What is read, in one form -/
def P.edOf (s : List UInt8) : P.Ed := (P.decE s).getD P.noE
def P.eok (s : List UInt8) : Bool := (P.decE s).isSome
theorem P.eok_some {s : List UInt8} (h : P.eok s = true) : P.decE s = some (P.edOf s) := by
  unfold P.eok at h
  unfold P.edOf
  cases hd : P.decE s with
  | none => rw [hd] at h; cases h
  | some q => rfl
theorem P.eok_none {s : List UInt8} (h : P.eok s = false) : P.decE s = none ∧ P.edOf s = P.noE := by
  unfold P.eok at h
  unfold P.edOf
  cases hd : P.decE s with
  | none => exact ⟨rfl, rfl⟩
  | some q => rw [hd] at h; cases h
/-- An edit and a bool that are given back. -/
def EdB (x : P.Ed) (b : Bool) (e : Ending) (w : World) : Prop := ∃ a c b' d, e = .returned (.tuple #[edV a x.add.length c b' x.drop.length d x.log x.seq x.next, .bool b]) ∧ EdAt w a b' x
theorem edB_of {s : List UInt8} {e : Ending} {w : World} (h : DecE (P.decE s) e w) : EdB (P.edOf s) (P.eok s) e w := by
  cases hk : P.eok s with
  | false =>
    obtain ⟨h1, h2⟩ := P.eok_none hk
    rw [h1] at h
    rw [h2]
    exact ⟨none, 0, none, 0, h, fun i hi => by simp [P.noE] at hi, fun i hi => by simp [P.noE] at hi⟩
  | true =>
    rw [P.eok_some hk] at h
    exact h
theorem decode_e (s : List UInt8) (w : World) (hs : s.length ≤ 90000) :
    Calls Try.prog 14 #[S s] w fun e w' => EdB (P.edOf s) (P.eok s) e w' ∧ Below w.heap.size w w' :=
  (decode_main s w hs).mono fun e w' ⟨h, hb⟩ => ⟨edB_of h, hb⟩

theorem P.edOf_len (s : List UInt8) (hs : s.length ≤ 90000) : (P.edOf s).add.length ≤ 100000 ∧ (P.edOf s).drop.length ≤ 100000 := by
  cases h : P.eok s with
  | false => rw [(P.eok_none h).2]; simp [P.noE]
  | true =>
    obtain ⟨_, h2, _, _⟩ := P.decE_some (P.eok_some h)
    have := P.encE_count (P.edOf s)
    rw [h2] at this
    omega
theorem P.sameE_self (x : P.Ed) : P.sameE x x = true := decide_eq_true rfl
theorem same_e (x : P.Ed) (n m : Nat) (hn : n = x.add.length) (hm : m = x.drop.length) (a1 a2 b1 b2 : Option Addr) (c1 c2 d1 d2 : Nat) (w : World) (h1 : x.add.length ≤ 100000) (h2 : x.drop.length ≤ 100000) (hp1 : EdAt w a1 b1 x) (hp2 : EdAt w a2 b2 x) :
    Calls Try.prog 15 #[edV a1 n c1 b1 m d1 x.log x.seq x.next, edV a2 n c2 b2 m d2 x.log x.seq x.next] w fun e w' => e = .returned (.bool true) ∧ Below w.heap.size w w' := by
  have h := same_any x x a1 a2 b1 b2 c1 c2 d1 d2 n n m m hn hn hm hm w h1 h2 hp1 hp2 x.log x.seq x.next x.log x.seq x.next rfl rfl rfl rfl rfl rfl
  rwa [P.sameE_self] at h

/-! ### The chapter's table, and awake -/
def P.tab0 : P.Tab := ⟨3, 1, 2, 40, [97], [98], 5, 9⟩
abbrev tab0V : Value := .agg #[.int .u64 3, .int .i64 1, .int .i64 2, .int .i64 40, S [97], S [98], .int .u64 5, .int .u64 9]
set_option maxRecDepth 100000 in
set_option maxHeartbeats 2000000 in
theorem tab_law (w : World) :
    Calls Try.prog 12 #[] w fun e w' => e = .returned tab0V ∧ Below w.heap.size w w' := by
  go_enter Try.func12, Try.ntmps12
  go_wp2_with fail
  exact bodyPost_ret (v := tab0V) (by simp [results, Try.results12, go_sem]) rfl ⟨rfl, (Below.refl _ _).alloc (Nat.le_refl _) _⟩
def P.ed0 : P.Ed := ⟨[P.tab0], [], 0, 0, 0⟩
abbrev ed0B : List UInt8 := [1, 3, 1, 2, 40, 5, 9, 1, 97, 1, 98, 0, 0, 0, 0]
theorem P.ed0_enc : P.encE P.ed0 = ed0B := by decide
theorem P.ed0_may : P.mayB P.ed0 = true := by decide
theorem P.ed0_ty : P.tyE P.ed0 := by
  refine ⟨fun t ht => ?_, by decide, by decide, fun n hn => ?_, by decide, by decide, by decide⟩
  · have h : t = P.tab0 := by simpa [P.ed0] using ht
    subst h
    exact ⟨by decide, by decide, by decide, by decide, by decide, by decide⟩
  · simp [P.ed0] at hn
theorem P.ed0_res : P.resE P.ed0 = (ed0B, 0) := by decide
theorem P.ed0_dec : P.decE ed0B = some P.ed0 := by rw [← P.ed0_enc]; exact P.decE_enc _ P.ed0_may P.ed0_ty (by decide)
/-- A slice of one table, made here. -/
theorem tabs_one (w : World) (t : P.Tab) (A : Array Value) (hA : A = (tabCells t).toArray) : TabsAt (w.alloc (.cells A 31)) (some ⟨w.heap.size, 0, none⟩) [t] := rows_new 8 tabCells tabCells_len w [t] A _ (by simpa using hA)
theorem nums_none (w : World) (a : Option Addr) : NumsAt w a [] := fun i hi => by simp at hi
theorem tabs_none (w : World) (a : Option Addr) : TabsAt w a [] := fun i hi => by simp at hi
theorem encode_ed0 (a : Option Addr) (c : Nat) (w : World) (hp : TabsAt w a [P.tab0]) :
    Calls Try.prog 11 #[.agg #[.slice a 1 c, .slice none 0 0, .int .u64 0, .int .u64 0, .int .u64 0]] w fun e w' => e = .returned (.tuple #[S ed0B, .int .i64 0]) ∧ Below w.heap.size w w' := by
  have h := encode_any P.ed0 a none c 0 w (by decide) (by decide) ⟨hp, nums_none _ _⟩ P.ed0_ty
  rw [P.ed0_res] at h
  exact h
theorem decode_ed0 (w : World) :
    Calls Try.prog 14 #[S ed0B] w fun e w' => (∃ b o c d c', e = .returned (.tuple #[.agg #[.slice (some ⟨b, o, none⟩) 1 c, .slice d 0 c', .int .u64 0, .int .u64 0, .int .u64 0], .bool true]) ∧ TabsAt w' (some ⟨b, o, none⟩) [P.tab0]) ∧ Below w.heap.size w w' := by
  refine (decode_main ed0B w (by decide)).mono ?_
  rintro e w' ⟨h, hb⟩
  rw [P.ed0_dec] at h
  obtain ⟨a, c, b, d, rfl, h1, h2⟩ := h
  obtain ⟨bb, o, rfl, _⟩ := h1 0 (by decide)
  exact ⟨⟨bb, o, c, b, d, rfl, h1⟩, hb⟩
def P.edA : P.Ed := ⟨[P.tab0], [], 0, 0, 4⟩
def P.edC : P.Ed := ⟨[], [3, 7], 0, 0, 2⟩
theorem P.joinAC : P.joinL [P.edA, P.edC] = ⟨[], [7], 0, 0, 4⟩ := by decide
theorem P.fewAC : P.few [P.edA, P.edC] := ⟨by decide, fun e he => by
  rcases List.mem_cons.1 he with rfl | he
  · decide
  · obtain rfl := List.mem_singleton.1 he; decide⟩
/-- Two edits, made here. -/
theorem eds_two (w : World) (a1 : Option Addr) (c1 : Nat) (a2 : Option Addr) (c2 : Nat) (h1 : TabsAt w a1 [P.tab0]) (h2 : NumsAt w a2 [3, 7]) (A : Array Value) (hA : A = #[.slice a1 1 c1, .slice none 0 0, .int .u64 0, .int .u64 0, .int .u64 4, .slice none 0 0, .slice a2 2 c2, .int .u64 0, .int .u64 0, .int .u64 2]) :
    EdsAt (w.alloc (.cells A 29)) (some ⟨w.heap.size, 0, none⟩) [P.edA, P.edC] := by
  subst hA
  have hb := (Below.refl w.heap.size w).alloc (Nat.le_refl _) (.cells #[.slice a1 1 c1, .slice none 0 0, .int .u64 0, .int .u64 0, .int .u64 4, .slice none 0 0, .slice a2 2 c2, .int .u64 0, .int .u64 0, .int .u64 2] 29)
  have hx := fun i => (Bx.fresh w 29 #[.slice a1 1 c1, .slice none 0 0, .int .u64 0, .int .u64 0, .int .u64 4, .slice none 0 0, .slice a2 2 c2, .int .u64 0, .int .u64 0, .int .u64 2]).cell i
  intro i hi
  match i, hi with
  | 0, _ => exact ⟨w.heap.size, 0, rfl, by simp, a1, c1, none, 0, hx 0, hx 1, hx 2, hx 3, hx 4, EdAt.up ⟨h1, nums_none _ _⟩ hb⟩
  | 1, _ => exact ⟨w.heap.size, 0, rfl, by simp, none, 0, a2, c2, hx 5, hx 6, hx 7, hx 8, hx 9, EdAt.up ⟨tabs_none _ _, h2⟩ hb⟩
  | i + 2, h => exact absurd h (by simp)
theorem join_AC (a : Option Addr) (c : Nat) (w : World) (hp : EdsAt w a [P.edA, P.edC]) :
    Calls Try.prog 17 #[.slice a 2 c] w fun e w' => (∃ a1 c1 b o c2, e = .returned (.agg #[.slice a1 0 c1, .slice (some ⟨b, o, none⟩) 1 c2, .int .u64 0, .int .u64 0, .int .u64 4]) ∧ w'.cell? ⟨b, o, none⟩ = some (.int .u64 7)) ∧ Below w.heap.size w w' := by
  refine (join_list [P.edA, P.edC] a 2 c rfl w P.fewAC hp).mono ?_
  rintro e w' ⟨va, vb, rfl, h1, h2, hb⟩
  rw [P.joinAC] at h1 h2 ⊢
  obtain ⟨a1, c1, rfl, _, _⟩ := h1.is tabCells_len
  obtain ⟨a2, c2, rfl, hr, _⟩ := h2.is numCells_len
  obtain ⟨b, o, rfl, _, hc⟩ := NumsAt.of hr 0 (by decide)
  exact ⟨⟨a1, c1, b, o, c2, rfl, hc⟩, hb⟩

/-- The same behind the makings of its parts. -/
theorem eds_new (w : World) : EdsAt (((w.alloc (.cells #[.int .u64 3, .int .i64 1, .int .i64 2, .int .i64 40, S [97], S [98], .int .u64 5, .int .u64 9] 31)).alloc (.cells #[.int .u64 3, .int .u64 7] 27)).alloc (.cells #[.slice (some ⟨w.heap.size, 0, none⟩) 1 1, .slice none 0 0, .int .u64 0, .int .u64 0, .int .u64 4, .slice none 0 0, .slice (some ⟨w.heap.size + 1, 0, none⟩) 2 2, .int .u64 0, .int .u64 0, .int .u64 2] 29)) (some ⟨w.heap.size + 1 + 1, 0, none⟩) [P.edA, P.edC] := by
  have h1 : TabsAt (w.alloc (.cells #[.int .u64 3, .int .i64 1, .int .i64 2, .int .i64 40, S [97], S [98], .int .u64 5, .int .u64 9] 31)) (some ⟨w.heap.size, 0, none⟩) [P.tab0] := tabs_one w P.tab0 _ rfl
  have h2 := NumsAt.of (rows_new 1 numCells numCells_len (w.alloc (.cells #[.int .u64 3, .int .i64 1, .int .i64 2, .int .i64 40, S [97], S [98], .int .u64 5, .int .u64 9] 31)) [3, 7] #[.int .u64 3, .int .u64 7] 27 rfl)
  have h3 := eds_two _ _ 1 _ 2 (RowsAt.up h1 ((Below.refl _ _).alloc (Nat.le_refl _) (.cells #[.int .u64 3, .int .u64 7] 27))) h2 _ rfl
  rw [show ((w.alloc (.cells #[.int .u64 3, .int .i64 1, .int .i64 2, .int .i64 40, S [97], S [98], .int .u64 5, .int .u64 9] 31)).alloc (.cells #[.int .u64 3, .int .u64 7] 27)).heap.size = w.heap.size + 1 + 1 by simp, show (w.alloc (.cells #[.int .u64 3, .int .i64 1, .int .i64 2, .int .i64 40, S [97], S [98], .int .u64 5, .int .u64 9] 31)).heap.size = w.heap.size + 1 by simp] at h3
  exact h3
theorem P.tabEq_tab0 : P.tabEq 3 1 2 40 [97] [98] 5 9 3 1 2 40 [97] [98] 5 9 = true := by decide
attribute [local go_sem high] eq_tab guardTab
set_option maxRecDepth 100000 in
set_option maxHeartbeats 8000000 in
theorem awake_any (w : World) :
    Calls Try.prog 18 #[] w fun e w' => e = .returned (.bool true) ∧ Below w.heap.size w w' := by
  have k1 := P.tabEq_tab0
  go_enter Try.func18, Try.ntmps18
  go_wp2_with (first
    | (go_at_call 12; (with_reducible refine (tab_law _).mono ?_); rintro e w1 ⟨rfl, hb1⟩)
    | (go_at_call 11; (with_reducible refine (encode_ed0 _ _ _ ?h).mono ?_); (case h => exact tabs_one _ P.tab0 _ rfl); rintro e w2 ⟨rfl, hb2⟩; have hc2 := Chain.up (Chain.up hb1 ((Below.refl _ _).alloc (Nat.le_refl _) _)) hb2)
    | (go_at_call 14; (with_reducible refine (decode_ed0 _).mono ?_); rintro e w3 ⟨⟨b3, o3, c3, d3, c3', rfl, ht3⟩, hb3⟩; have hc3 := Chain.up hc2 hb3; have hx3 := Bx.fresh w3 29 #[.slice (some ⟨b3, o3, none⟩) 1 c3, .slice d3 0 c3', .int .u64 0, .int .u64 0, .int .u64 0]; have ha3 := (Below.refl w3.heap.size w3).alloc (Nat.le_refl _) (.cells #[.slice (some ⟨b3, o3, none⟩) 1 c3, .slice d3 0 c3', .int .u64 0, .int .u64 0, .int .u64 0] 29))
    | (go_at_call 17; (with_reducible refine (join_AC _ _ _ (eds_new _)).mono ?_); rintro e w7 ⟨⟨a7, c7, b7, o7, c7', rfl, g7⟩, hb7⟩; have hc7 := Chain.up (Chain.up (Chain.up (Chain.up hb1 ((Below.refl _ _).alloc (Nat.le_refl _) _)) ((Below.refl _ _).alloc (Nat.le_refl _) _)) ((Below.refl _ _).alloc (Nat.le_refl _) _)) hb7))
  have ha7 := (Below.refl w7.heap.size w7).alloc (Nat.le_refl _) (.cells #[.slice a7 0 c7, .slice (some ⟨b7, o7, none⟩) 1 c7', .int .u64 0, .int .u64 0, .int .u64 4] 29)
  have hx5 := Bx.fresh w7 29 #[.slice a7 0 c7, .slice (some ⟨b7, o7, none⟩) 1 c7', .int .u64 0, .int .u64 0, .int .u64 4]
  have g7 := cell_up ha7 g7
  have hc8 := Chain.up hc7 ha7
  obtain ⟨e0, e1, e2, e3, e4⟩ := (hx3.up hc8).five
  obtain ⟨f0, f1, f2, f3, f4⟩ := hx5.five
  obtain ⟨bb, oo, hbo, _, t0, t1, t2, t3, t4, t5, t6, t7⟩ := tab_at (RowsAt.up (RowsAt.up ht3 ha3) hc8) 0 (by decide)
  injection hbo with hbo
  injection hbo with h1 h2
  subst h1 h2
  rw [Nat.zero_mul, Nat.add_zero] at t0 t1 t2 t3 t4 t5 t6 t7
  have t0 : _ = (some (.int .u64 3) : Option Value) := t0
  have t1 : _ = (some (.int .i64 1) : Option Value) := t1
  have t2 : _ = (some (.int .i64 2) : Option Value) := t2
  have t3 : _ = (some (.int .i64 40) : Option Value) := t3
  have t4 : _ = (some (S [97]) : Option Value) := t4
  have t5 : _ = (some (S [98]) : Option Value) := t5
  have t6 : _ = (some (.int .u64 5) : Option Value) := t6
  have t7 : _ = (some (.int .u64 9) : Option Value) := t7
  have hcF := Chain.up (Chain.up hc3 ha3) hc8
  generalize w7.alloc (.cells #[.slice a7 0 c7, .slice (some ⟨b7, o7, none⟩) 1 c7', .int .u64 0, .int .u64 0, .int .u64 4] 29) = w8 at *
  refine wp_region_held_drew (S := fun wx => Below w8.heap.size w8 wx) (by kernel_rfl) (Below.refl _ _).drew (fun hHeld => ?_)
  -- REGION 4
  refine wpAnyH_take (i := 0) (v := ?_) rfl (by kernel_rfl) (by kernel_rfl) (by kernel_rfl) (fun _ _ _ h => h) (Or.inl ⟨by rfl, ?_⟩) hHeld ?_
  rotate_left
  · intro wq hSw; go_simp; (try with_reducible rfl)
  simp only [Act.put, List.getElem_toArray, List.getElem_cons_succ, List.getElem_cons_zero, List.setIfInBounds_toArray, List.set_cons_zero, List.set_cons_succ]
  refine wpAnyH_take (i := 1) (v := ?_) rfl (by kernel_rfl) (by kernel_rfl) (by kernel_rfl) (fun _ _ _ h => h) (Or.inl ⟨by rfl, ?_⟩) hHeld ?_
  rotate_left
  · intro wq hSw; go_simp; (try with_reducible rfl)
  simp only [Act.put, List.getElem_toArray, List.getElem_cons_succ, List.getElem_cons_zero, List.setIfInBounds_toArray, List.set_cons_zero, List.set_cons_succ]
  refine wpAnyH_take (i := 2) (v := ?_) rfl (by kernel_rfl) (by kernel_rfl) (by kernel_rfl) (fun _ _ _ h => h) (Or.inl ⟨by rfl, ?_⟩) hHeld ?_
  rotate_left
  · intro wq hSw; go_simp; (try with_reducible rfl)
  simp only [Act.put, List.getElem_toArray, List.getElem_cons_succ, List.getElem_cons_zero, List.setIfInBounds_toArray, List.set_cons_zero, List.set_cons_succ]
  refine wpAnyH_take (i := 3) (v := ?_) rfl (by kernel_rfl) (by kernel_rfl) (by kernel_rfl) (fun _ _ _ h => h) (Or.inl ⟨by rfl, ?_⟩) hHeld ?_
  rotate_left
  · intro wq hSw; go_simp; (try with_reducible rfl)
  simp only [Act.put, List.getElem_toArray, List.getElem_cons_succ, List.getElem_cons_zero, List.setIfInBounds_toArray, List.set_cons_zero, List.set_cons_succ]
  refine wpAnyH_take (i := 4) (v := ?_) rfl (by kernel_rfl) (by kernel_rfl) (by kernel_rfl) (fun _ _ _ h => h) (Or.inl ⟨by rfl, ?_⟩) hHeld ?_
  rotate_left
  · intro wq hSw; go_simp; (try with_reducible rfl)
  simp only [Act.put, List.getElem_toArray, List.getElem_cons_succ, List.getElem_cons_zero, List.setIfInBounds_toArray, List.set_cons_zero, List.set_cons_succ]
  refine wpAnyH_take (i := 5) (v := ?_) rfl (by kernel_rfl) (by kernel_rfl) (by kernel_rfl) (fun _ _ _ h => h) (Or.inl ⟨by rfl, ?_⟩) hHeld ?_
  rotate_left
  · intro wq hSw; go_simp; (try with_reducible rfl)
  simp only [Act.put, List.getElem_toArray, List.getElem_cons_succ, List.getElem_cons_zero, List.setIfInBounds_toArray, List.set_cons_zero, List.set_cons_succ]
  refine wpAnyH_take (i := 6) (v := ?_) rfl (by kernel_rfl) (by kernel_rfl) (by kernel_rfl) (fun _ _ _ h => h) (Or.inl ⟨by rfl, ?_⟩) hHeld ?_
  rotate_left
  · intro wq hSw; go_simp; (try with_reducible rfl)
  simp only [Act.put, List.getElem_toArray, List.getElem_cons_succ, List.getElem_cons_zero, List.setIfInBounds_toArray, List.set_cons_zero, List.set_cons_succ]
  refine wpAnyH_take (i := 7) (v := ?_) rfl (by kernel_rfl) (by kernel_rfl) (by kernel_rfl) (fun _ _ _ h => h) (Or.inl ⟨by rfl, ?_⟩) hHeld ?_
  rotate_left
  · intro wq hSw; go_simp; (try with_reducible rfl)
  simp only [Act.put, List.getElem_toArray, List.getElem_cons_succ, List.getElem_cons_zero, List.setIfInBounds_toArray, List.set_cons_zero, List.set_cons_succ]
  refine wpAnyH_take (i := 8) (v := ?_) rfl (by kernel_rfl) (by kernel_rfl) (by kernel_rfl) (fun _ _ _ h => h) (Or.inl ⟨by rfl, ?_⟩) hHeld ?_
  rotate_left
  · intro wq hSw; go_simp; (try with_reducible rfl)
  simp only [Act.put, List.getElem_toArray, List.getElem_cons_succ, List.getElem_cons_zero, List.setIfInBounds_toArray, List.set_cons_zero, List.set_cons_succ]
  refine wpAnyH_take (i := 9) (v := ?_) rfl (by kernel_rfl) (by kernel_rfl) (by kernel_rfl) (fun _ _ _ h => h) (Or.inl ⟨by rfl, ?_⟩) hHeld ?_
  rotate_left
  · intro wq hSw; go_simp; (try with_reducible rfl)
  simp only [Act.put, List.getElem_toArray, List.getElem_cons_succ, List.getElem_cons_zero, List.setIfInBounds_toArray, List.set_cons_zero, List.set_cons_succ]
  refine wpAnyH_take (i := 10) (v := ?_) rfl (by kernel_rfl) (by kernel_rfl) (by kernel_rfl) (fun _ _ _ h => h) (Or.inl ⟨by rfl, ?_⟩) hHeld ?_
  rotate_left
  · intro wq hSw; go_simp; (try with_reducible rfl)
  simp only [Act.put, List.getElem_toArray, List.getElem_cons_succ, List.getElem_cons_zero, List.setIfInBounds_toArray, List.set_cons_zero, List.set_cons_succ]
  refine wpAnyH_take (i := 11) (v := ?_) rfl (by kernel_rfl) (by kernel_rfl) (by kernel_rfl) (fun _ _ _ h => h) (Or.inl ⟨by rfl, ?_⟩) hHeld ?_
  rotate_left
  · intro wq hSw; have q0 := cell_up hSw e0; go_simp; (try with_reducible rfl)
  simp only [Act.put, List.getElem_toArray, List.getElem_cons_succ, List.getElem_cons_zero, List.setIfInBounds_toArray, List.set_cons_zero, List.set_cons_succ]
  refine wpAnyH_take (i := 12) (v := ?_) rfl (by kernel_rfl) (by kernel_rfl) (by kernel_rfl) (fun _ _ _ h => h) (Or.inl ⟨by rfl, ?_⟩) hHeld ?_
  rotate_left
  · intro wq hSw; go_simp; (try with_reducible rfl)
  simp only [Act.put, List.getElem_toArray, List.getElem_cons_succ, List.getElem_cons_zero, List.setIfInBounds_toArray, List.set_cons_zero, List.set_cons_succ]
  refine wpAnyH_take (i := 13) (v := ?_) rfl (by kernel_rfl) (by kernel_rfl) (by kernel_rfl) (fun _ _ _ h => h) (Or.inl ⟨by rfl, ?_⟩) hHeld ?_
  rotate_left
  · intro wq hSw; go_simp; (try with_reducible rfl)
  simp only [Act.put, List.getElem_toArray, List.getElem_cons_succ, List.getElem_cons_zero, List.setIfInBounds_toArray, List.set_cons_zero, List.set_cons_succ]
  refine wpAnyH_take (i := 14) (v := ?_) rfl (by kernel_rfl) (by kernel_rfl) (by kernel_rfl) (fun _ _ _ h => h) (Or.inl ⟨by rfl, ?_⟩) hHeld ?_
  rotate_left
  · intro wq hSw; go_simp; (try with_reducible rfl)
  simp only [Act.put, List.getElem_toArray, List.getElem_cons_succ, List.getElem_cons_zero, List.setIfInBounds_toArray, List.set_cons_zero, List.set_cons_succ]
  refine wpAnyH_take (i := 15) (v := ?_) rfl (by kernel_rfl) (by kernel_rfl) (by kernel_rfl) (fun _ _ _ h => h) (Or.inl ⟨by rfl, ?_⟩) hHeld ?_
  rotate_left
  · intro wq hSw; go_simp; (try with_reducible rfl)
  simp only [Act.put, List.getElem_toArray, List.getElem_cons_succ, List.getElem_cons_zero, List.setIfInBounds_toArray, List.set_cons_zero, List.set_cons_succ]
  refine wpAnyH_take (i := 16) (v := ?_) rfl (by kernel_rfl) (by kernel_rfl) (by kernel_rfl) (fun _ _ _ h => h) (Or.inl ⟨by rfl, ?_⟩) hHeld ?_
  rotate_left
  · intro wq hSw; go_simp; (try with_reducible rfl)
  simp only [Act.put, List.getElem_toArray, List.getElem_cons_succ, List.getElem_cons_zero, List.setIfInBounds_toArray, List.set_cons_zero, List.set_cons_succ]
  refine wpAnyH_take (i := 17) (v := ?_) rfl (by kernel_rfl) (by kernel_rfl) (by kernel_rfl) (fun _ _ _ h => h) (Or.inl ⟨by rfl, ?_⟩) hHeld ?_
  rotate_left
  · intro wq hSw; have q0 := cell_up hSw e0; go_simp; (try with_reducible rfl)
  simp only [Act.put, List.getElem_toArray, List.getElem_cons_succ, List.getElem_cons_zero, List.setIfInBounds_toArray, List.set_cons_zero, List.set_cons_succ]
  refine wpAnyH_take (i := 18) (v := ?_) rfl (by kernel_rfl) (by kernel_rfl) (by kernel_rfl) (fun _ _ _ h => h) (Or.inl ⟨by rfl, ?_⟩) hHeld ?_
  rotate_left
  · intro wq hSw; go_simp; (try with_reducible rfl)
  simp only [Act.put, List.getElem_toArray, List.getElem_cons_succ, List.getElem_cons_zero, List.setIfInBounds_toArray, List.set_cons_zero, List.set_cons_succ]
  refine wpAnyH_take (i := 19) (v := ?_) rfl (by kernel_rfl) (by kernel_rfl) (by kernel_rfl) (fun _ _ _ h => h) (Or.inl ⟨by rfl, ?_⟩) hHeld ?_
  rotate_left
  · intro wq hSw; have s0 := cell_up hSw t0; have s1 := cell_up hSw t1; have s2 := cell_up hSw t2; have s3 := cell_up hSw t3; have s4 := cell_up hSw t4; have s5 := cell_up hSw t5; have s6 := cell_up hSw t6; have s7 := cell_up hSw t7; go_simp; (try with_reducible rfl)
  simp only [Act.put, List.getElem_toArray, List.getElem_cons_succ, List.getElem_cons_zero, List.setIfInBounds_toArray, List.set_cons_zero, List.set_cons_succ]
  refine wpAnyH_one (i := 20) (by kernel_rfl) rfl (fun K hK => ?_)
  simp only [List.getElem_toArray, List.getElem_cons_succ, List.getElem_cons_zero]
  go_simp
  (with_reducible refine (tab_law _).mono ?_)
  rintro e wt ⟨rfl, hbt⟩
  have hbt1 := Chain.up hHeld hbt
  refine hK.out _ _ hbt1 ?_
  clear hK K
  refine wpAnyH_take (i := 21) (v := ?_) rfl (by kernel_rfl) (by kernel_rfl) (by kernel_rfl) (fun _ _ _ h => h) (Or.inl ⟨by rfl, ?_⟩) hbt1 ?_
  rotate_left
  · intro wq hSw; go_simp; (try with_reducible rfl)
  simp only [Act.put, List.getElem_toArray, List.getElem_cons_succ, List.getElem_cons_zero, List.setIfInBounds_toArray, List.set_cons_zero, List.set_cons_succ]
  refine wpAnyH_take (i := 22) (v := ?_) rfl (by kernel_rfl) (by kernel_rfl) (by kernel_rfl) (fun _ _ _ h => h) (Or.inl ⟨by rfl, ?_⟩) hbt1 ?_
  rotate_left
  · intro wq hSw; go_simp; (try with_reducible rfl)
  simp only [Act.put, List.getElem_toArray, List.getElem_cons_succ, List.getElem_cons_zero, List.setIfInBounds_toArray, List.set_cons_zero, List.set_cons_succ]
  refine wpAnyH_take (i := 23) (v := ?_) rfl (by kernel_rfl) (by kernel_rfl) (by kernel_rfl) (fun _ _ _ h => h) (Or.inl ⟨by rfl, ?_⟩) hbt1 ?_
  rotate_left
  · intro wq hSw; go_simp; (try with_reducible rfl)
  simp only [Act.put, List.getElem_toArray, List.getElem_cons_succ, List.getElem_cons_zero, List.setIfInBounds_toArray, List.set_cons_zero, List.set_cons_succ]
  refine wpAnyH_take (i := 24) (v := ?_) rfl (by kernel_rfl) (by kernel_rfl) (by kernel_rfl) (fun _ _ _ h => h) (Or.inl ⟨by rfl, ?_⟩) hbt1 ?_
  rotate_left
  · intro wq hSw; go_simp; (try with_reducible rfl)
  simp only [Act.put, List.getElem_toArray, List.getElem_cons_succ, List.getElem_cons_zero, List.setIfInBounds_toArray, List.set_cons_zero, List.set_cons_succ]
  refine wpAnyH_take (i := 25) (v := ?_) rfl (by kernel_rfl) (by kernel_rfl) (by kernel_rfl) (fun _ _ _ h => h) (Or.inl ⟨by rfl, ?_⟩) hbt1 ?_
  rotate_left
  · intro wq hSw; have r0 := cell_up hSw f0; have r1 := cell_up hSw f1; have r4 := cell_up hSw f4; go_simp; (try with_reducible rfl)
  simp only [Act.put, List.getElem_toArray, List.getElem_cons_succ, List.getElem_cons_zero, List.setIfInBounds_toArray, List.set_cons_zero, List.set_cons_succ]
  refine wpAnyH_take (i := 26) (v := ?_) rfl (by kernel_rfl) (by kernel_rfl) (by kernel_rfl) (fun _ _ _ h => h) (Or.inl ⟨by rfl, ?_⟩) hbt1 ?_
  rotate_left
  · intro wq hSw; go_simp; (try with_reducible rfl)
  simp only [Act.put, List.getElem_toArray, List.getElem_cons_succ, List.getElem_cons_zero, List.setIfInBounds_toArray, List.set_cons_zero, List.set_cons_succ]
  refine wpAnyH_take (i := 27) (v := ?_) rfl (by kernel_rfl) (by kernel_rfl) (by kernel_rfl) (fun _ _ _ h => h) (Or.inl ⟨by rfl, ?_⟩) hbt1 ?_
  rotate_left
  · intro wq hSw; go_simp; (try with_reducible rfl)
  simp only [Act.put, List.getElem_toArray, List.getElem_cons_succ, List.getElem_cons_zero, List.setIfInBounds_toArray, List.set_cons_zero, List.set_cons_succ]
  refine wpAnyH_take (i := 28) (v := ?_) rfl (by kernel_rfl) (by kernel_rfl) (by kernel_rfl) (fun _ _ _ h => h) (Or.inl ⟨by rfl, ?_⟩) hbt1 ?_
  rotate_left
  · intro wq hSw; go_simp; (try with_reducible rfl)
  simp only [Act.put, List.getElem_toArray, List.getElem_cons_succ, List.getElem_cons_zero, List.setIfInBounds_toArray, List.set_cons_zero, List.set_cons_succ]
  refine wpAnyH_take (i := 29) (v := ?_) rfl (by kernel_rfl) (by kernel_rfl) (by kernel_rfl) (fun _ _ _ h => h) (Or.inl ⟨by rfl, ?_⟩) hbt1 ?_
  rotate_left
  · intro wq hSw; go_simp; (try with_reducible rfl)
  simp only [Act.put, List.getElem_toArray, List.getElem_cons_succ, List.getElem_cons_zero, List.setIfInBounds_toArray, List.set_cons_zero, List.set_cons_succ]
  refine wpAnyH_take (i := 30) (v := ?_) rfl (by kernel_rfl) (by kernel_rfl) (by kernel_rfl) (fun _ _ _ h => h) (Or.inl ⟨by rfl, ?_⟩) hbt1 ?_
  rotate_left
  · intro wq hSw; go_simp; (try with_reducible rfl)
  simp only [Act.put, List.getElem_toArray, List.getElem_cons_succ, List.getElem_cons_zero, List.setIfInBounds_toArray, List.set_cons_zero, List.set_cons_succ]
  refine wpAnyH_take (i := 31) (v := ?_) rfl (by kernel_rfl) (by kernel_rfl) (by kernel_rfl) (fun _ _ _ h => h) (Or.inl ⟨by rfl, ?_⟩) hbt1 ?_
  rotate_left
  · intro wq hSw; have r0 := cell_up hSw f0; have r1 := cell_up hSw f1; have r4 := cell_up hSw f4; go_simp; (try with_reducible rfl)
  simp only [Act.put, List.getElem_toArray, List.getElem_cons_succ, List.getElem_cons_zero, List.setIfInBounds_toArray, List.set_cons_zero, List.set_cons_succ]
  refine wpAnyH_take (i := 32) (v := ?_) rfl (by kernel_rfl) (by kernel_rfl) (by kernel_rfl) (fun _ _ _ h => h) (Or.inl ⟨by rfl, ?_⟩) hbt1 ?_
  rotate_left
  · intro wq hSw; go_simp; (try with_reducible rfl)
  simp only [Act.put, List.getElem_toArray, List.getElem_cons_succ, List.getElem_cons_zero, List.setIfInBounds_toArray, List.set_cons_zero, List.set_cons_succ]
  refine wpAnyH_take (i := 33) (v := ?_) rfl (by kernel_rfl) (by kernel_rfl) (by kernel_rfl) (fun _ _ _ h => h) (Or.inl ⟨by rfl, ?_⟩) hbt1 ?_
  rotate_left
  · intro wq hSw; go_simp; (try with_reducible rfl)
  simp only [Act.put, List.getElem_toArray, List.getElem_cons_succ, List.getElem_cons_zero, List.setIfInBounds_toArray, List.set_cons_zero, List.set_cons_succ]
  refine wpAnyH_take (i := 34) (v := ?_) rfl (by kernel_rfl) (by kernel_rfl) (by kernel_rfl) (fun _ _ _ h => h) (Or.inl ⟨by rfl, ?_⟩) hbt1 ?_
  rotate_left
  · intro wq hSw; go_simp; (try with_reducible rfl)
  simp only [Act.put, List.getElem_toArray, List.getElem_cons_succ, List.getElem_cons_zero, List.setIfInBounds_toArray, List.set_cons_zero, List.set_cons_succ]
  refine wpAnyH_take (i := 35) (v := ?_) rfl (by kernel_rfl) (by kernel_rfl) (by kernel_rfl) (fun _ _ _ h => h) (Or.inl ⟨by rfl, ?_⟩) hbt1 ?_
  rotate_left
  · intro wq hSw; go_simp; (try with_reducible rfl)
  simp only [Act.put, List.getElem_toArray, List.getElem_cons_succ, List.getElem_cons_zero, List.setIfInBounds_toArray, List.set_cons_zero, List.set_cons_succ]
  refine wpAnyH_take (i := 36) (v := ?_) rfl (by kernel_rfl) (by kernel_rfl) (by kernel_rfl) (fun _ _ _ h => h) (Or.inl ⟨by rfl, ?_⟩) hbt1 ?_
  rotate_left
  · intro wq hSw; go_simp; (try with_reducible rfl)
  simp only [Act.put, List.getElem_toArray, List.getElem_cons_succ, List.getElem_cons_zero, List.setIfInBounds_toArray, List.set_cons_zero, List.set_cons_succ]
  refine wpAnyH_take (i := 37) (v := ?_) rfl (by kernel_rfl) (by kernel_rfl) (by kernel_rfl) (fun _ _ _ h => h) (Or.inl ⟨by rfl, ?_⟩) hbt1 ?_
  rotate_left
  · intro wq hSw; have r0 := cell_up hSw f0; have r1 := cell_up hSw f1; have r4 := cell_up hSw f4; go_simp; (try with_reducible rfl)
  simp only [Act.put, List.getElem_toArray, List.getElem_cons_succ, List.getElem_cons_zero, List.setIfInBounds_toArray, List.set_cons_zero, List.set_cons_succ]
  refine wpAnyH_take (i := 38) (v := ?_) rfl (by kernel_rfl) (by kernel_rfl) (by kernel_rfl) (fun _ _ _ h => h) (Or.inl ⟨by rfl, ?_⟩) hbt1 ?_
  rotate_left
  · intro wq hSw; go_simp; (try with_reducible rfl)
  simp only [Act.put, List.getElem_toArray, List.getElem_cons_succ, List.getElem_cons_zero, List.setIfInBounds_toArray, List.set_cons_zero, List.set_cons_succ]
  refine wpAnyH_take (i := 39) (v := ?_) rfl (by kernel_rfl) (by kernel_rfl) (by kernel_rfl) (fun _ _ _ h => h) (Or.inl ⟨by rfl, ?_⟩) hbt1 ?_
  rotate_left
  · intro wq hSw; have u0 := cell_up hSw g7; go_simp; (try with_reducible rfl)
  simp only [Act.put, List.getElem_toArray, List.getElem_cons_succ, List.getElem_cons_zero, List.setIfInBounds_toArray, List.set_cons_zero, List.set_cons_succ]
  refine wpAnyH_take (i := 40) (v := ?_) rfl (by kernel_rfl) (by kernel_rfl) (by kernel_rfl) (fun _ _ _ h => h) (Or.inl ⟨by rfl, ?_⟩) hbt1 ?_
  rotate_left
  · intro wq hSw; go_simp; (try with_reducible rfl)
  simp only [Act.put, List.getElem_toArray, List.getElem_cons_succ, List.getElem_cons_zero, List.setIfInBounds_toArray, List.set_cons_zero, List.set_cons_succ]
  refine wpAnyH_take (i := 41) (v := ?_) rfl (by kernel_rfl) (by kernel_rfl) (by kernel_rfl) (fun _ _ _ h => h) (Or.inl ⟨by rfl, ?_⟩) hbt1 ?_
  rotate_left
  · intro wq hSw; go_simp; (try with_reducible rfl)
  simp only [Act.put, List.getElem_toArray, List.getElem_cons_succ, List.getElem_cons_zero, List.setIfInBounds_toArray, List.set_cons_zero, List.set_cons_succ]
  refine wpAnyH_take (i := 42) (v := ?_) rfl (by kernel_rfl) (by kernel_rfl) (by kernel_rfl) (fun _ _ _ h => h) (Or.inl ⟨by rfl, ?_⟩) hbt1 ?_
  rotate_left
  · intro wq hSw; go_simp; (try with_reducible rfl)
  simp only [Act.put, List.getElem_toArray, List.getElem_cons_succ, List.getElem_cons_zero, List.setIfInBounds_toArray, List.set_cons_zero, List.set_cons_succ]
  refine wpAnyH_take (i := 43) (v := ?_) rfl (by kernel_rfl) (by kernel_rfl) (by kernel_rfl) (fun _ _ _ h => h) (Or.inl ⟨by rfl, ?_⟩) hbt1 ?_
  rotate_left
  · intro wq hSw; go_simp; (try with_reducible rfl)
  simp only [Act.put, List.getElem_toArray, List.getElem_cons_succ, List.getElem_cons_zero, List.setIfInBounds_toArray, List.set_cons_zero, List.set_cons_succ]
  refine wpAnyH_take (i := 44) (v := ?_) rfl (by kernel_rfl) (by kernel_rfl) (by kernel_rfl) (fun _ _ _ h => h) (Or.inl ⟨by rfl, ?_⟩) hbt1 ?_
  rotate_left
  · intro wq hSw; have r0 := cell_up hSw f0; have r1 := cell_up hSw f1; have r4 := cell_up hSw f4; go_simp; (try with_reducible rfl)
  simp only [Act.put, List.getElem_toArray, List.getElem_cons_succ, List.getElem_cons_zero, List.setIfInBounds_toArray, List.set_cons_zero, List.set_cons_succ]
  refine wpAnyH_take (i := 45) (v := ?_) rfl (by kernel_rfl) (by kernel_rfl) (by kernel_rfl) (fun _ _ _ h => h) (Or.inl ⟨by rfl, ?_⟩) hbt1 ?_
  rotate_left
  · intro wq hSw; go_simp; (try with_reducible rfl)
  simp only [Act.put, List.getElem_toArray, List.getElem_cons_succ, List.getElem_cons_zero, List.setIfInBounds_toArray, List.set_cons_zero, List.set_cons_succ]
  refine wpAnyH_take (i := 46) (v := ?_) rfl (by kernel_rfl) (by kernel_rfl) (by kernel_rfl) (fun _ _ _ h => h) (Or.inl ⟨by rfl, ?_⟩) hbt1 ?_
  rotate_left
  · intro wq hSw; go_simp; (try with_reducible rfl)
  simp only [Act.put, List.getElem_toArray, List.getElem_cons_succ, List.getElem_cons_zero, List.setIfInBounds_toArray, List.set_cons_zero, List.set_cons_succ]
  refine wpAnyH_take (i := 47) (v := ?_) rfl (by kernel_rfl) (by kernel_rfl) (by kernel_rfl) (fun _ _ _ h => h) (Or.inl ⟨by rfl, ?_⟩) hbt1 ?_
  rotate_left
  · intro wq hSw; go_simp; (try with_reducible rfl)
  simp only [Act.put, List.getElem_toArray, List.getElem_cons_succ, List.getElem_cons_zero, List.setIfInBounds_toArray, List.set_cons_zero, List.set_cons_succ]
  refine wpAnyH_done (by kernel_rfl) ?_ _
  -- END REGION 4
  go_wp2_with fail
  go_ret
  exact ⟨rfl, Chain.up hcF hbt1⟩
end Go.Proofs.Ythpgigjplknomaa
