/- The walk of EditLong: it answers true. -/
import Derived.Test.YthpgigjplknomaaWAwakeE
import Derived.Test.YthpgigjplknomaaWMade
namespace Go.Proofs.Ythpgigjplknomaa
open Go.RowKit
set_option linter.unusedVariables false
set_option linter.unusedSimpArgs false

/-- While the tables are laid: k of n are there. -/
def P.layT (n k : Nat) : List P.Tab := List.replicate k P.tab0 ++ List.replicate (n - k) ⟨0, 0, 0, 0, [], [], 0, 0⟩
theorem P.layT_len (n k : Nat) (h : k ≤ n) : (P.layT n k).length = n := by simp [P.layT]; omega
theorem P.layT_next (n k : Nat) (h : k < n) : (P.layT n k).set k P.tab0 = P.layT n (k + 1) := by
  unfold P.layT
  rw [List.set_append_right k _ (by simp), List.length_replicate, Nat.sub_self, show n - k = (n - (k + 1)) + 1 by omega, List.replicate_succ, List.set_cons_zero, List.replicate_succ', List.append_assoc]
  rfl
theorem P.layT_full (n : Nat) : P.layT n n = List.replicate n P.tab0 := by simp [P.layT]
def P.manyE (n : Nat) : P.Ed := ⟨List.replicate n P.tab0, [], 0, 0, 0⟩
theorem P.manyE_may (n : Nat) : P.mayB (P.manyE n) = true := by
  have h : P.wrongB P.tab0 = false := by decide
  unfold P.mayB P.manyE
  simp [List.any_replicate, h]
theorem P.manyE_rows (n : Nat) : (P.tabRows (List.replicate n P.tab0)).length = 10 * n := by
  induction n with
  | zero => simp [P.tabRows]
  | succ n ih =>
    rw [List.replicate_succ, P.tabRows_cons, List.length_append, ih]
    have : (P.tabRow P.tab0).length = 10 := by decide
    omega
theorem P.manyE_len (n : Nat) : (P.encE (P.manyE n)).length = (P.row n).length + 10 * n + 4 := by
  unfold P.encE P.manyE
  simp only [List.length_append, List.length_replicate, P.manyE_rows, List.length_nil]
  have h1 : (P.row 0).length = 1 := by decide
  have h2 : (P.vars [0, 0, 0]).length = 3 := by decide
  have h3 : (P.vars []).length = 0 := by decide
  omega
theorem P.manyE_ty (n : Nat) (h : n < 18446744073709551616) : P.tyE (P.manyE n) := by
  refine ⟨fun t ht => ?_, by show (List.replicate n P.tab0).length < _; rw [List.length_replicate]; exact h, by show (0 : Nat) < _; decide, fun q hq => ?_, by show (0 : Nat) < _; decide, by show (0 : Nat) < _; decide, by show (0 : Nat) < _; decide⟩
  · obtain rfl := List.eq_of_mem_replicate ht
    exact ⟨by decide, by decide, by decide, by decide, by decide, by decide⟩
  · simp [P.manyE] at hq
theorem encode_few (a : Option Addr) (c : Nat) (w : World) (hp : TabsAt w a (List.replicate 1000 P.tab0)) :
    Calls Try.prog 11 #[.agg #[.slice a 1000 c, .slice none 0 0, .int .u64 0, .int .u64 0, .int .u64 0]] w fun e w' => (∃ s, s.length = 10007 ∧ e = .returned (.tuple #[S s, .int .i64 0])) ∧ Below w.heap.size w w' := by
  have hl : (P.encE (P.manyE 1000)).length = 10007 := by rw [P.manyE_len]; decide
  have h := encode_any (P.manyE 1000) a none c 0 w (by show (List.replicate 1000 P.tab0).length ≤ _; rw [List.length_replicate]; omega) (by show (0 : Nat) ≤ _; omega) ⟨hp, nums_none _ _⟩ (P.manyE_ty 1000 (by decide))
  rw [show P.resE (P.manyE 1000) = (P.encE (P.manyE 1000), 0) by unfold P.resE; rw [if_pos (P.manyE_may _), if_pos (by omega)]] at h
  have hn : (P.manyE 1000).add.length = 1000 := List.length_replicate
  rw [hn] at h
  exact h.mono fun e w' ⟨he, hb⟩ => ⟨⟨_, hl, he⟩, hb⟩
theorem encode_many (a : Option Addr) (c : Nat) (w : World) (hp : TabsAt w a (List.replicate 60000 P.tab0)) :
    Calls Try.prog 11 #[.agg #[.slice a 60000 c, .slice none 0 0, .int .u64 0, .int .u64 0, .int .u64 0]] w fun e w' => e = .returned (.tuple #[S [], .int .i64 3]) ∧ Below w.heap.size w w' := by
  have hl := P.manyE_len 60000
  have h := encode_any (P.manyE 60000) a none c 0 w (by show (List.replicate 60000 P.tab0).length ≤ _; rw [List.length_replicate]; omega) (by show (0 : Nat) ≤ _; omega) ⟨hp, nums_none _ _⟩ (P.manyE_ty 60000 (by decide))
  rw [show P.resE (P.manyE 60000) = ([], 3) by unfold P.resE; rw [if_pos (P.manyE_may _), if_neg (by omega)]] at h
  have hn : (P.manyE 60000).add.length = 60000 := List.length_replicate
  rw [hn] at h
  exact h
theorem own_made (w : World) (n : Nat) (hn : n ≤ maxLen) : OwnG (w.alloc (.cells (madeCells #[Value.int .u8 0] n) 5)) w.heap.size (.slice (some ⟨w.heap.size, 0, none⟩) n n) (List.replicate n 0) := by
  have hx := Bx.fresh w 5 (madeCells #[Value.int .u8 0] n)
  have hc : ∀ j, j < n → (w.alloc (.cells (madeCells #[Value.int .u8 0] n) 5)).cell? ⟨w.heap.size, j, none⟩ = some (u8V 0) := fun j hj => by
    rw [hx.cell]
    simp [madeCells, hj, Nat.mod_one, u8V]
  exact ⟨w.heap.size, n, by rw [List.length_replicate], Nat.le_refl _, hx.lt, by rw [List.length_replicate]; exact Nat.le_refl _, hn, ⟨_, _, hx⟩, fun j hj => by rw [hc j (by simpa using hj)]; simp, fun j hj => by rw [hc j hj]; rfl, fun j hj => hx.frozen j⟩
attribute [local go_sem] str_app

set_option maxRecDepth 100000 in
set_option maxHeartbeats 8000000 in
theorem law_long (w : World) :
    Calls Try.prog 4 #[] w fun e w' => e = .returned (.bool true) ∧ Below w.heap.size w w' := by
  have hmk : (Instr.makeSlice 25 (.int .i64 60000) (.int .i64 60000)).run Try.prog w = .ok (.slice (some ⟨w.heap.size, 0, none⟩) 60000 60000) (w.alloc (.cells ((P.layT 60000 0).flatMap tabCells).toArray 31)) := by
    have h := run_make_S 25 31 _ 8 80 Try.underlying25 infoTab 60000 (by omega) (by omega) w
    have e : madeCells (Value.agg #[.int .u64 0, .int .i64 0, .int .i64 0, .int .i64 0, .string ByteArray.empty, .string ByteArray.empty, .int .u64 0, .int .u64 0]).cells (60000 * 8) = ((P.layT 60000 0).flatMap tabCells).toArray := made_flat tabCells_len (by omega) (⟨0, 0, 0, 0, [], [], 0, 0⟩ : P.Tab) 60000
    rw [e] at h
    exact h
  have hbk0 := Bx.fresh w 31 ((P.layT 60000 0).flatMap tabCells).toArray
  have ha0 := (Below.refl w.heap.size w).alloc (Nat.le_refl _) (.cells ((P.layT 60000 0).flatMap tabCells).toArray 31)
  have hln := P.layT_len 60000
  have Hnx := Lib.hid (P.layT_next 60000)
  have Hfull := Lib.hid (P.layT_full 60000)
  have Hln := Lib.hid hln
  clear hln
  generalize P.layT 60000 = lay at *
  generalize hW : w.alloc (.cells ((lay 0).flatMap tabCells).toArray 31) = w1 at *
  have hz1 : w1.heap.size = w.heap.size + 1 := by rw [← hW]; simp
  have hxe0 := Bx.fresh w1 29 #[.slice (some ⟨w.heap.size, 0, none⟩) 60000 60000, .slice none 0 0, .int .u64 0, .int .u64 0, .int .u64 0]
  have ha1 := (Below.refl w1.heap.size w1).alloc (Nat.le_refl _) (.cells #[.slice (some ⟨w.heap.size, 0, none⟩) 60000 60000, .slice none 0 0, .int .u64 0, .int .u64 0, .int .u64 0] 29)
  have hc1 := Chain.up ha0 ha1
  have hbk1 := hbk0.up ha1
  rw [hz1] at hxe0
  have Hz1 := Lib.hid hz1
  clear hW ha0 ha1 hbk0 hz1
  go_enter Try.func4, Try.ntmps4
  go_wp2_with fail
  rw [Hz1.out]
  clear hmk
  go_loopw [2] (fun i wr => ∃ k : Nat, k ≤ 60000 ∧ i = .int .i64 k ∧ Bx wr w.heap.size 31 ((lay k).flatMap tabCells).toArray ∧ Bx wr (w.heap.size + 1) 29 #[.slice (some ⟨w.heap.size, 0, none⟩) 60000 60000, .slice none 0 0, .int .u64 0, .int .u64 0, .int .u64 0] ∧ Below w.heap.size w wr) (fun i _ => 60000 - (intOf i).toNat)
  case atStart => exact ⟨0, by omega, rfl, hbk1, hxe0, hc1⟩
  case round =>
    clear hbk1 hxe0 hc1
    obtain ⟨k, hk, rfl, hbk, hxe, hb⟩ := hrel
    obtain ⟨p0, p1, p2, p3, p4⟩ := hxe.five
    by_cases hlt : k < 60000
    · have hki : (k : Int) < 60000 := by omega
      have hlen : k < (lay k).length := by rw [Hln.out k hk]; exact hlt
      have Hset := Lib.hid (Hnx.out k hlt)
      have hcells : ∀ j, j < 8 → ∃ u, wr.cell? ⟨w.heap.size, k * 8 + j, none⟩ = some u := fun j hj => by
        rw [hbk.cell]
        have hsz : ((lay k).flatMap tabCells).toArray.size = 60000 * 8 := by rw [List.size_toArray, flat_len 8 tabCells tabCells_len, Hln.out k hk]
        exact ⟨_, Array.getElem?_eq_getElem (by rw [hsz]; omega)⟩
      go_wp2_with fail
      refine wp_region_held_drew (S := fun wx => Bx wx (w.heap.size + 1) 29 #[.slice (some ⟨w.heap.size, 0, none⟩) 60000 60000, .slice none 0 0, .int .u64 0, .int .u64 0, .int .u64 0]) (by kernel_rfl) hxe.drew (fun hHeld => ?_)
      refine wpAnyH_take (i := 0) (v := ?_) rfl (by kernel_rfl) (by kernel_rfl) (by kernel_rfl) (fun _ _ _ h => h) (Or.inl ⟨by rfl, ?_⟩) hHeld ?_
      rotate_left
      · intro wq hSw; go_simp; (try with_reducible rfl)
      simp only [Act.put, List.getElem_toArray, List.getElem_cons_succ, List.getElem_cons_zero, List.setIfInBounds_toArray, List.set_cons_zero, List.set_cons_succ]
      refine wpAnyH_take (i := 1) (v := ?_) rfl (by kernel_rfl) (by kernel_rfl) (by kernel_rfl) (fun _ _ _ h => h) (Or.inl ⟨by rfl, ?_⟩) hHeld ?_
      rotate_left
      · intro wq hSw; obtain ⟨qa, qb, qc, qd, qe⟩ := Bx.five hSw; go_simp; (try with_reducible rfl)
      simp only [Act.put, List.getElem_toArray, List.getElem_cons_succ, List.getElem_cons_zero, List.setIfInBounds_toArray, List.set_cons_zero, List.set_cons_succ]
      refine wpAnyH_take (i := 2) (v := ?_) rfl (by kernel_rfl) (by kernel_rfl) (by kernel_rfl) (fun _ _ _ h => h) (Or.inl ⟨by rfl, ?_⟩) hHeld ?_
      rotate_left
      · intro wq hSw; go_simp; (try with_reducible rfl)
      simp only [Act.put, List.getElem_toArray, List.getElem_cons_succ, List.getElem_cons_zero, List.setIfInBounds_toArray, List.set_cons_zero, List.set_cons_succ]
      refine wpAnyH_one (i := 3) (by kernel_rfl) rfl (fun K hK => ?_)
      simp only [List.getElem_toArray, List.getElem_cons_succ, List.getElem_cons_zero]
      go_simp
      (with_reducible refine (tab_law _).mono ?_)
      rintro e1 w7 ⟨rfl, hb7⟩
      have hx7 := hxe.drew.up hb7
      refine hK.out _ _ hx7 ?_
      clear hK K
      refine wpAnyH_take (i := 4) (v := ?_) rfl (by kernel_rfl) (by kernel_rfl) (by kernel_rfl) (fun _ _ _ h => h) (Or.inl ⟨by rfl, ?_⟩) hx7 ?_
      rotate_left
      · intro wq hSw; go_simp; (try with_reducible rfl)
      simp only [Act.put, List.getElem_toArray, List.getElem_cons_succ, List.getElem_cons_zero, List.setIfInBounds_toArray, List.set_cons_zero, List.set_cons_succ]
      have hbk7 := hbk.drew.up hb7
      have hcells7 : ∀ j, j < 8 → ∃ u, w7.cell? ⟨w.heap.size, k * 8 + j, none⟩ = some u := fun j hj => by
        obtain ⟨u, hu⟩ := hcells j hj
        exact ⟨u, cell_up hb7 hu⟩
      have f0 := hbk7.frozen (k * 8)
      have f1 := hbk7.frozen (k * 8 + 1)
      have f2 := hbk7.frozen (k * 8 + 2)
      have f3 := hbk7.frozen (k * 8 + 3)
      have f4 := hbk7.frozen (k * 8 + 4)
      have f5 := hbk7.frozen (k * 8 + 5)
      have f6 := hbk7.frozen (k * 8 + 6)
      have f7 := hbk7.frozen (k * 8 + 7)
      obtain ⟨u0, hu0⟩ : ∃ u, w7.cell? ⟨w.heap.size, k * 8, none⟩ = some u := hcells7 0 (by omega)
      obtain ⟨u1, hu1⟩ : ∃ u, w7.cell? ⟨w.heap.size, k * 8 + 1, none⟩ = some u := hcells7 1 (by omega)
      obtain ⟨u2, hu2⟩ : ∃ u, w7.cell? ⟨w.heap.size, k * 8 + 2, none⟩ = some u := hcells7 2 (by omega)
      obtain ⟨u3, hu3⟩ : ∃ u, w7.cell? ⟨w.heap.size, k * 8 + 3, none⟩ = some u := hcells7 3 (by omega)
      obtain ⟨u4, hu4⟩ : ∃ u, w7.cell? ⟨w.heap.size, k * 8 + 4, none⟩ = some u := hcells7 4 (by omega)
      obtain ⟨u5, hu5⟩ : ∃ u, w7.cell? ⟨w.heap.size, k * 8 + 5, none⟩ = some u := hcells7 5 (by omega)
      obtain ⟨u6, hu6⟩ : ∃ u, w7.cell? ⟨w.heap.size, k * 8 + 6, none⟩ = some u := hcells7 6 (by omega)
      obtain ⟨u7, hu7⟩ : ∃ u, w7.cell? ⟨w.heap.size, k * 8 + 7, none⟩ = some u := hcells7 7 (by omega)
      have hbk9 := hbk7.put8 tabCells_len k hlen P.tab0 (.int .u64 3) (.int .i64 1) (.int .i64 2) (.int .i64 40) (S [97]) (S [98]) (.int .u64 5) (.int .u64 9) rfl
      have hx9 : Bx ((((((((w7.setCell ⟨w.heap.size, k * 8, none⟩ (.int .u64 3)).setCell ⟨w.heap.size, k * 8 + 1, none⟩ (.int .i64 1)).setCell ⟨w.heap.size, k * 8 + 2, none⟩ (.int .i64 2)).setCell ⟨w.heap.size, k * 8 + 3, none⟩ (.int .i64 40)).setCell ⟨w.heap.size, k * 8 + 4, none⟩ (S [97])).setCell ⟨w.heap.size, k * 8 + 5, none⟩ (S [98])).setCell ⟨w.heap.size, k * 8 + 6, none⟩ (.int .u64 5)).setCell ⟨w.heap.size, k * 8 + 7, none⟩ (.int .u64 9)) (w.heap.size + 1) 29 #[.slice (some ⟨w.heap.size, 0, none⟩) 60000 60000, .slice none 0 0, .int .u64 0, .int .u64 0, .int .u64 0] := by
        have o0 := hx7.other (show w.heap.size ≠ w.heap.size + 1 by omega) (k * 8) (.int .u64 3)
        have o1 := o0.other (show w.heap.size ≠ w.heap.size + 1 by omega) (k * 8 + 1) (.int .i64 1)
        have o2 := o1.other (show w.heap.size ≠ w.heap.size + 1 by omega) (k * 8 + 2) (.int .i64 2)
        have o3 := o2.other (show w.heap.size ≠ w.heap.size + 1 by omega) (k * 8 + 3) (.int .i64 40)
        have o4 := o3.other (show w.heap.size ≠ w.heap.size + 1 by omega) (k * 8 + 4) (S [97])
        have o5 := o4.other (show w.heap.size ≠ w.heap.size + 1 by omega) (k * 8 + 5) (S [98])
        have o6 := o5.other (show w.heap.size ≠ w.heap.size + 1 by omega) (k * 8 + 6) (.int .u64 5)
        have o7 := o6.other (show w.heap.size ≠ w.heap.size + 1 by omega) (k * 8 + 7) (.int .u64 9)
        exact o7
      have hb9 : Below w.heap.size w ((((((((w7.setCell ⟨w.heap.size, k * 8, none⟩ (.int .u64 3)).setCell ⟨w.heap.size, k * 8 + 1, none⟩ (.int .i64 1)).setCell ⟨w.heap.size, k * 8 + 2, none⟩ (.int .i64 2)).setCell ⟨w.heap.size, k * 8 + 3, none⟩ (.int .i64 40)).setCell ⟨w.heap.size, k * 8 + 4, none⟩ (S [97])).setCell ⟨w.heap.size, k * 8 + 5, none⟩ (S [98])).setCell ⟨w.heap.size, k * 8 + 6, none⟩ (.int .u64 5)).setCell ⟨w.heap.size, k * 8 + 7, none⟩ (.int .u64 9)) := by
        have b0 := (hb.drew.trans (hb7.mono hb.size)).setCell (p := ⟨w.heap.size, k * 8, none⟩) (Nat.le_refl _) (.int .u64 3)
        have b1 := b0.setCell (p := ⟨w.heap.size, k * 8 + 1, none⟩) (Nat.le_refl _) (.int .i64 1)
        have b2 := b1.setCell (p := ⟨w.heap.size, k * 8 + 2, none⟩) (Nat.le_refl _) (.int .i64 2)
        have b3 := b2.setCell (p := ⟨w.heap.size, k * 8 + 3, none⟩) (Nat.le_refl _) (.int .i64 40)
        have b4 := b3.setCell (p := ⟨w.heap.size, k * 8 + 4, none⟩) (Nat.le_refl _) (S [97])
        have b5 := b4.setCell (p := ⟨w.heap.size, k * 8 + 5, none⟩) (Nat.le_refl _) (S [98])
        have b6 := b5.setCell (p := ⟨w.heap.size, k * 8 + 6, none⟩) (Nat.le_refl _) (.int .u64 5)
        have b7 := b6.setCell (p := ⟨w.heap.size, k * 8 + 7, none⟩) (Nat.le_refl _) (.int .u64 9)
        exact b7
      refine wpAnyH_one (i := 5) (by kernel_rfl) rfl (fun K hK => ?_)
      simp only [List.getElem_toArray, List.getElem_cons_succ, List.getElem_cons_zero]
      go_simp
      generalize ((((((((w7.setCell ⟨w.heap.size, k * 8, none⟩ (.int .u64 3)).setCell ⟨w.heap.size, k * 8 + 1, none⟩ (.int .i64 1)).setCell ⟨w.heap.size, k * 8 + 2, none⟩ (.int .i64 2)).setCell ⟨w.heap.size, k * 8 + 3, none⟩ (.int .i64 40)).setCell ⟨w.heap.size, k * 8 + 4, none⟩ (S [97])).setCell ⟨w.heap.size, k * 8 + 5, none⟩ (S [98])).setCell ⟨w.heap.size, k * 8 + 6, none⟩ (.int .u64 5)).setCell ⟨w.heap.size, k * 8 + 7, none⟩ (.int .u64 9)) = w9 at *
      refine hK.out _ _ hx9 ?_
      clear hK K
      refine wpAnyH_done (by kernel_rfl) ?_ _
      go_wp2_with fail
      go_roundw
      case rel => exact ⟨k + 1, by omega, by go_num, by rw [← Hset.out]; exact hbk9, hx9, hb9⟩
      case measure => simp [intOf]; omega
    · obtain rfl : k = 60000 := by omega
      clear hlt hk
      rw [Hfull.out] at hbk
      have hT := rows_bx tabCells_len hbk
      have hT1 := rows_take hT 1000
      rw [show (List.replicate 60000 P.tab0).take 1000 = List.replicate 1000 P.tab0 by rw [List.take_replicate]; rfl] at hT1
      clear hbk
      have HT := Lib.hid hT
      have HT1 := Lib.hid hT1
      clear hT hT1
      have hmk2 : ∀ wx : World, (Instr.makeSlice 42 (.int .i64 524288) (.int .i64 524288)).run Try.prog wx = .ok (.slice (some ⟨wx.heap.size, 0, none⟩) 524288 524288) (wx.alloc (.cells (madeCells #[Value.int .u8 0] 524288) 5)) := fun wx =>
        run_make_row' 42 5 (.int .u8 0) 1 Try.underlying42 info8 rfl .i64 .i64 524288 (by omega) (by omega) wx
      have HOM := Lib.hid (fun wx => own_made wx 524288 (by unfold maxLen; omega))
      have hrl : (List.replicate 524288 (0 : UInt8)).length = 524288 := List.length_replicate
      generalize List.replicate 524288 (0 : UInt8) = zs at *
      have HDL := Lib.hid (fun wx => decode_long (0 :: 0 :: 0 :: 0 :: 0 :: zs) wx (by simp only [List.length_cons, hrl]; omega) (by simp only [List.length_cons, hrl]; omega))
      generalize madeCells #[Value.int .u8 0] 524288 = mz at *
      go_wp2_with (first
        | (go_at_call 11; (with_reducible refine (encode_few _ _ _ HT1.out).mono ?_); rintro e1 w2 ⟨⟨s, hs, rfl⟩, hb2⟩; have Hs := Lib.hid hs; (clear hs); have hc2 := Chain.up hb hb2; obtain ⟨q0, q1, q2, q3, q4⟩ := (hxe.up hb2).five; have HT2 := Lib.hid (RowsAt.up HT.out hb2))
        | (go_at_call 11; (with_reducible refine (encode_many _ _ _ HT2.out).mono ?_); rintro e1 w3 ⟨rfl, hb3⟩; have hc3 := Chain.up hc2 hb3)
        | (refine wpList_strG (by rfl) (HOM.out _) ?_)
        | (go_at_call 14; (with_reducible refine (HDL.out _).mono ?_); rintro e1 w4 ⟨rfl, hb4⟩; have hcz := Chain.up hc3 ((Below.refl w3.heap.size w3).alloc (Nat.le_refl _) (.cells mz 5)); have hc4 := Chain.up hcz hb4; have hc5 := Chain.up hc4 ((Below.refl w4.heap.size w4).alloc (Nat.le_refl _) (.cells #[.slice none 0 0, .slice none 0 0, .int .u64 0, .int .u64 0, .int .u64 0] 29)); have hs1 : (s.length : Int) = 10007 := (by have := Hs.out; omega))
        | (go_at_call 18; (with_reducible refine (awake_any _).mono ?_); rintro e1 w5 ⟨rfl, hb5⟩))
      go_ret
      exact ⟨rfl, Chain.up hc5 hb5⟩
end Go.Proofs.Ythpgigjplknomaa
