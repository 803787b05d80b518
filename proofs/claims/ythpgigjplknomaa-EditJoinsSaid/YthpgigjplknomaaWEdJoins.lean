/- The walk of edit's Join. -/
import Derived.Test.YthpgigjplknomaaWEdJoin
namespace Go.Proofs.Ythpgigjplknomaa
open Go.RowKit
set_option linter.unusedVariables false
set_option linter.unusedSimpArgs false

/-- A slice of edits that reads as a list. -/
def EdsAt (w : World) (a : Option Addr) (l : List P.Ed) : Prop := ∀ (i : Nat) (h : i < l.length), ∃ b o, a = some ⟨b, o, none⟩ ∧ b < w.heap.size ∧ ∃ aa ca ab cb,
  w.cell? ⟨b, o + i * 5, none⟩ = some (.slice aa l[i].add.length ca) ∧ w.cell? ⟨b, o + i * 5 + 1, none⟩ = some (.slice ab l[i].drop.length cb) ∧
  w.cell? ⟨b, o + i * 5 + 2, none⟩ = some (V64 l[i].log) ∧ w.cell? ⟨b, o + i * 5 + 3, none⟩ = some (V64 l[i].seq) ∧ w.cell? ⟨b, o + i * 5 + 4, none⟩ = some (V64 l[i].next) ∧ EdAt w aa ab l[i]
theorem EdsAt.up {w w' : World} {a : Option Addr} {l : List P.Ed} (h : EdsAt w a l) (hb : Below w.heap.size w w') : EdsAt w' a l := by
  intro i hi
  obtain ⟨b, o, rfl, hlt, aa, ca, ab, cb, h0, h1, h2, h3, h4, h5⟩ := h i hi
  exact ⟨b, o, rfl, Nat.lt_of_lt_of_le hlt hb.size, aa, ca, ab, cb, cell_up hb h0, cell_up hb h1, cell_up hb h2, cell_up hb h3, cell_up hb h4, h5.up hb⟩
/-- Edits of few tables and numbers. -/
def P.few (l : List P.Ed) : Prop := l.length ≤ 20 ∧ ∀ e ∈ l, e.add.length ≤ 60 ∧ e.drop.length ≤ 60
theorem P.joinE_len (x y : P.Ed) (n : Nat) (hx : x.add.length ≤ n ∧ x.drop.length ≤ n) (hy : y.add.length ≤ 60 ∧ y.drop.length ≤ 60) : (P.joinE x y).add.length ≤ n + 60 ∧ (P.joinE x y).drop.length ≤ n + 60 := by
  unfold P.joinE
  simp only [List.length_append]
  have a := List.length_filter_le (fun t : P.Tab => !P.hasN y.drop t.n) x.add
  have b := List.length_filter_le (fun n => !x.add.any (P.isN n)) y.drop
  omega
theorem P.foldl_len : ∀ (l : List P.Ed) (x : P.Ed) (n : Nat), (x.add.length ≤ n ∧ x.drop.length ≤ n) → (∀ e ∈ l, e.add.length ≤ 60 ∧ e.drop.length ≤ 60) → (l.foldl P.joinE x).add.length ≤ n + 60 * l.length ∧ (l.foldl P.joinE x).drop.length ≤ n + 60 * l.length
  | [], x, n, h, _ => by simpa using h
  | y :: l, x, n, h, hl => by
    have h1 := P.joinE_len x y n h (hl y (List.mem_cons_self ..))
    have h2 := P.foldl_len l (P.joinE x y) (n + 60) h1 (fun e he => hl e (List.mem_cons_of_mem _ he))
    rw [List.foldl_cons, List.length_cons]
    omega
theorem P.joinL_len (l : List P.Ed) (h : P.few l) : (P.joinL l).add.length ≤ 1200 ∧ (P.joinL l).drop.length ≤ 1200 := by
  cases l with
  | nil => simp [P.joinL, P.noE]
  | cons x l =>
    have h0 := h.2 x (List.mem_cons_self ..)
    have h1 := P.foldl_len l x 60 h0 (fun e he => h.2 e (List.mem_cons_of_mem _ he))
    have h2 := h.1
    rw [List.length_cons] at h2
    show (l.foldl P.joinE x).add.length ≤ _ ∧ (l.foldl P.joinE x).drop.length ≤ _
    omega
theorem P.few_take {l : List P.Ed} (h : P.few l) (k : Nat) : P.few (l.take k) := ⟨by rw [List.length_take]; have := h.1; omega, fun e he => h.2 e (List.mem_of_mem_take he)⟩
theorem P.joinL_step (l : List P.Ed) (k : Nat) (h : k + 1 < l.length) : P.joinL (l.take (k + 1 + 1)) = P.joinE (P.joinL (l.take (k + 1))) l[k + 1] := by
  rw [List.take_succ_eq_append_getElem h]
  cases l with
  | nil => simp at h
  | cons x l => exact P.joinL_snoc x (l.take k) _
theorem P.joinL_one (l : List P.Ed) (h : 0 < l.length) : P.joinL (l.take 1) = l[0] := by
  cases l with
  | nil => simp at h
  | cons x l => rfl

set_option maxRecDepth 100000 in
set_option maxHeartbeats 8000000 in
theorem join_list (l : List P.Ed) (a : Option Addr) (n c : Nat) (hn : n = l.length) (w : World) (hf : P.few l) (hp : EdsAt w a l) :
    Calls Try.prog 17 #[.slice a n c] w fun e w' =>
      ∃ va vb, e = .returned (.agg #[va, vb, V64 (P.joinL l).log, V64 (P.joinL l).seq, V64 (P.joinL l).next]) ∧ OwnTabs w' w.heap.size va (P.joinL l).add ∧ OwnNums w' w.heap.size vb (P.joinL l).drop ∧ Below w.heap.size w w' := by
  have Hf := Lib.hid hf
  have HP := Lib.hid hp
  have Hn := Lib.hid hn
  clear hf hp hn
  have hn20 : n ≤ 20 := by have := Hf.out.1; have := Hn.out; omega
  have hx2 := (Bx.fresh w 29 #[.slice none 0 0, .slice none 0 0, .int .u64 0, .int .u64 0, .int .u64 0]).up ((Below.refl _ _).alloc (Nat.le_refl _) (.cells #[.slice none 0 0, .slice none 0 0, .int .u64 0, .int .u64 0, .int .u64 0] 29))
  have hx3 := Bx.fresh (w.alloc (.cells #[.slice none 0 0, .slice none 0 0, .int .u64 0, .int .u64 0, .int .u64 0] 29)) 29 #[.slice none 0 0, .slice none 0 0, .int .u64 0, .int .u64 0, .int .u64 0]
  have hb0 := ((Below.refl w.heap.size w).alloc (Nat.le_refl _) (.cells #[.slice none 0 0, .slice none 0 0, .int .u64 0, .int .u64 0, .int .u64 0] 29)).alloc (by simp) (.cells #[.slice none 0 0, .slice none 0 0, .int .u64 0, .int .u64 0, .int .u64 0] 29)
  rw [show (w.alloc (.cells #[.slice none 0 0, .slice none 0 0, .int .u64 0, .int .u64 0, .int .u64 0] 29)).heap.size = w.heap.size + 1 by simp] at hx3
  have hsz0 : w.heap.size + 1 + 1 ≤ ((w.alloc (.cells #[.slice none 0 0, .slice none 0 0, .int .u64 0, .int .u64 0, .int .u64 0] 29)).alloc (.cells #[.slice none 0 0, .slice none 0 0, .int .u64 0, .int .u64 0, .int .u64 0] 29)).heap.size := by simp
  go_enter Try.func17, Try.ntmps17
  go_wp2_with fail
  go_loopw [8] (fun i wr => ∃ (k : Nat) (va vb : Value), k ≤ n ∧ i = .int .i64 k ∧ Bx wr (w.heap.size + 1) 29 #[va, vb, V64 (P.joinL (l.take k)).log, V64 (P.joinL (l.take k)).seq, V64 (P.joinL (l.take k)).next] ∧ OwnTabs wr (w.heap.size + 1 + 1) va (P.joinL (l.take k)).add ∧ OwnNums wr (w.heap.size + 1 + 1) vb (P.joinL (l.take k)).drop ∧
      Bx wr w.heap.size 29 #[.slice none 0 0, .slice none 0 0, .int .u64 0, .int .u64 0, .int .u64 0] ∧ w.heap.size + 1 + 1 ≤ wr.heap.size ∧ Below w.heap.size w wr) (fun i _ => n - (intOf i).toNat)
  case atStart => exact ⟨0, _, _, by omega, rfl, hx3, ownR_nil _ _, ownR_nil _ _, hx2, hsz0, hb0⟩
  case round =>
    clear hx2 hx3 hb0 hsz0
    obtain ⟨k, va, vb, hk, rfl, hx3, hT, hN, hx2, hsz, hb⟩ := hrel
    have hlen := P.joinL_len _ (P.few_take Hf.out k)
    by_cases hlt : k < n
    · have hltl : k < l.length := by have := Hn.out; omega
      obtain ⟨bb, o, rfl, hbb, aa, ca, ab, cb, c0, c1, c2, c3, c4, hed⟩ := (HP.out.up hb) k hltl
      have hl60 := Hf.out.2 _ (List.getElem_mem hltl)
      have ha := (Below.refl wr.heap.size wr).alloc (Nat.le_refl _) (.cells #[.slice aa l[k].add.length ca, .slice ab l[k].drop.length cb, V64 l[k].log, V64 l[k].seq, V64 l[k].next] 29)
      have hbt := Bx.fresh wr 29 #[.slice aa l[k].add.length ca, .slice ab l[k].drop.length cb, V64 l[k].log, V64 l[k].seq, V64 l[k].next]
      cases k with
      | zero =>
        have Hone := Lib.hid (P.joinL_one l hltl)
        have HCa := Lib.hid (fun wx (hx : Below wr.heap.size wr wx) => clone_tabs aa l[0].add.length ca l[0].add rfl wx (by omega) (RowsAt.up hed.1 hx))
        have HCb := Lib.hid (fun wx (hx : Below wr.heap.size wr wx) => clone_nums ab l[0].drop.length cb l[0].drop rfl wx (by omega) (NumsAt.below hed.2 hx))
        clear hed hlen
        rw [show P.joinL (l.take 0) = P.noE from rfl] at hx3 hT hN
        generalize l[0] = q at *
        obtain ⟨qA, qD, qlog, qseq, qnext⟩ := q
        simp only at hbt ha HCa HCb hl60 c0 c1 c2 c3 c4
        generalize qA.length = na at *
        generalize qD.length = nd at *
        rw [Nat.zero_mul, Nat.add_zero] at c0 c1 c2 c3 c4
        rw [show ((0 : Nat) : Int) = 0 from rfl]
        go_wp2_with fail
        refine wp_region_held_drew (S := fun wx => Bx wx wr.heap.size 29 #[.slice aa na ca, .slice ab nd cb, V64 qlog, V64 qseq, V64 qnext]) (by kernel_rfl) hbt.drew (fun hHeld => ?_)
          -- REGION 6
        refine wpAnyH_take (i := 0) (v := ?_) rfl (by kernel_rfl) (by kernel_rfl) (by kernel_rfl) (fun _ _ _ h => h) (Or.inl ⟨by rfl, ?_⟩) hbt.drew ?_
        rotate_left
        · intro wq hSw; go_simp; (try with_reducible rfl)
        simp only [Act.put, List.getElem_toArray, List.getElem_cons_succ, List.getElem_cons_zero, List.setIfInBounds_toArray, List.set_cons_zero, List.set_cons_succ]
        refine wpAnyH_take (i := 1) (v := ?_) rfl (by kernel_rfl) (by kernel_rfl) (by kernel_rfl) (fun _ _ _ h => h) (Or.inl ⟨by rfl, ?_⟩) hbt.drew ?_
        rotate_left
        · intro wq hSw; obtain ⟨qa, qb, qc, qd, qe⟩ := Bx.five hSw; go_simp; (try with_reducible rfl)
        simp only [Act.put, List.getElem_toArray, List.getElem_cons_succ, List.getElem_cons_zero, List.setIfInBounds_toArray, List.set_cons_zero, List.set_cons_succ]
        refine wpAnyH_take (i := 3) (v := ?_) rfl (by kernel_rfl) (by kernel_rfl) (by kernel_rfl) (fun _ _ _ h => h) (Or.inl ⟨by rfl, ?_⟩) hbt.drew ?_
        rotate_left
        · intro wq hSw; go_simp; (try with_reducible rfl)
        simp only [Act.put, List.getElem_toArray, List.getElem_cons_succ, List.getElem_cons_zero, List.setIfInBounds_toArray, List.set_cons_zero, List.set_cons_succ]
        refine wpAnyH_take (i := 4) (v := ?_) rfl (by kernel_rfl) (by kernel_rfl) (by kernel_rfl) (fun _ _ _ h => h) (Or.inl ⟨by rfl, ?_⟩) hbt.drew ?_
        rotate_left
        · intro wq hSw; obtain ⟨qa, qb, qc, qd, qe⟩ := Bx.five hSw; go_simp; (try with_reducible rfl)
        simp only [Act.put, List.getElem_toArray, List.getElem_cons_succ, List.getElem_cons_zero, List.setIfInBounds_toArray, List.set_cons_zero, List.set_cons_succ]
        refine wpAnyH_take (i := 6) (v := ?_) rfl (by kernel_rfl) (by kernel_rfl) (by kernel_rfl) (fun _ _ _ h => h) (Or.inl ⟨by rfl, ?_⟩) hbt.drew ?_
        rotate_left
        · intro wq hSw; go_simp; (try with_reducible rfl)
        simp only [Act.put, List.getElem_toArray, List.getElem_cons_succ, List.getElem_cons_zero, List.setIfInBounds_toArray, List.set_cons_zero, List.set_cons_succ]
        refine wpAnyH_take (i := 7) (v := ?_) rfl (by kernel_rfl) (by kernel_rfl) (by kernel_rfl) (fun _ _ _ h => h) (Or.inl ⟨by rfl, ?_⟩) hbt.drew ?_
        rotate_left
        · intro wq hSw; obtain ⟨qa, qb, qc, qd, qe⟩ := Bx.five hSw; go_simp; (try with_reducible rfl)
        simp only [Act.put, List.getElem_toArray, List.getElem_cons_succ, List.getElem_cons_zero, List.setIfInBounds_toArray, List.set_cons_zero, List.set_cons_succ]
        refine wpAnyH_take (i := 8) (v := ?_) rfl (by kernel_rfl) (by kernel_rfl) (by kernel_rfl) (fun _ _ _ h => h) (Or.inl ⟨by rfl, ?_⟩) hbt.drew ?_
        rotate_left
        · intro wq hSw; go_simp; (try with_reducible rfl)
        simp only [Act.put, List.getElem_toArray, List.getElem_cons_succ, List.getElem_cons_zero, List.setIfInBounds_toArray, List.set_cons_zero, List.set_cons_succ]
        refine wpAnyH_take (i := 9) (v := ?_) rfl (by kernel_rfl) (by kernel_rfl) (by kernel_rfl) (fun _ _ _ h => h) (Or.inl ⟨by rfl, ?_⟩) hbt.drew ?_
        rotate_left
        · intro wq hSw; obtain ⟨qa, qb, qc, qd, qe⟩ := Bx.five hSw; go_simp; (try with_reducible rfl)
        simp only [Act.put, List.getElem_toArray, List.getElem_cons_succ, List.getElem_cons_zero, List.setIfInBounds_toArray, List.set_cons_zero, List.set_cons_succ]
        refine wpAnyH_take (i := 10) (v := ?_) rfl (by kernel_rfl) (by kernel_rfl) (by kernel_rfl) (fun _ _ _ h => h) (Or.inl ⟨by rfl, ?_⟩) hbt.drew ?_
        rotate_left
        · intro wq hSw; go_simp; (try with_reducible rfl)
        simp only [Act.put, List.getElem_toArray, List.getElem_cons_succ, List.getElem_cons_zero, List.setIfInBounds_toArray, List.set_cons_zero, List.set_cons_succ]
        refine wpAnyH_take (i := 11) (v := ?_) rfl (by kernel_rfl) (by kernel_rfl) (by kernel_rfl) (fun _ _ _ h => h) (Or.inl ⟨by rfl, ?_⟩) hbt.drew ?_
        rotate_left
        · intro wq hSw; obtain ⟨qa, qb, qc, qd, qe⟩ := Bx.five hSw; go_simp; (try with_reducible rfl)
        simp only [Act.put, List.getElem_toArray, List.getElem_cons_succ, List.getElem_cons_zero, List.setIfInBounds_toArray, List.set_cons_zero, List.set_cons_succ]
          -- END 6
        obtain ⟨p0, p1, p2, p3, p4⟩ := hx3.five
        refine wpAnyH_one (i := 2) (by kernel_rfl) rfl (fun K hK => ?_)
        simp only [List.getElem_toArray, List.getElem_cons_succ, List.getElem_cons_zero]
        go_simp
        (with_reducible refine (HCa.out _ ha.drew).mono ?_)
        rintro e w7 ⟨v1, rfl, hown1, hb7⟩
        refine hK.out _ _ (hbt.drew.up hb7) ?_
        clear hK K
        have hc7 := Chain.up ha.drew hb7
        refine wpAnyH_one (i := 5) (by kernel_rfl) rfl (fun K hK => ?_)
        simp only [List.getElem_toArray, List.getElem_cons_succ, List.getElem_cons_zero]
        go_simp
        (with_reducible refine (HCb.out _ hc7).mono ?_)
        rintro e w8 ⟨v2, rfl, hown2, hb8⟩
        have hc8 := Chain.up hc7 hb8
        have hbt8 := hbt.drew.up (Chain.up hb7 hb8)
        refine hK.out _ _ hbt8 ?_
        clear hK K
        have hown1 := OwnR.up hown1 hb8
        obtain ⟨a1, c1, hv1, _, _⟩ := hown1.is tabCells_len
        subst hv1
        obtain ⟨a2, c2, hv2, _, _⟩ := hown2.is numCells_len
        subst hv2
        refine wpAnyH_one (i := 12) (by kernel_rfl) rfl (fun K hK => ?_)
        simp only [List.getElem_toArray, List.getElem_cons_succ, List.getElem_cons_zero]
        go_simp
        refine hK.out _ _ hbt8 ?_
        clear hK K
        have hx38 := hx3.up hc8
        obtain ⟨q0, q1, q2, q3, q4⟩ := hx38.five
        have qf0 := hx38.frozen 0
        have qf1 := hx38.frozen 1
        have qf2 := hx38.frozen 2
        have qf3 := hx38.frozen 3
        have qf4 := hx38.frozen 4
        have hne : w.heap.size + 1 ≠ wr.heap.size := by omega
        have hbt9 := ((((hbt8.other hne 0 (.slice a1 qA.length c1)).other hne 1 (.slice a2 qD.length c2)).other hne 2 (V64 qlog)).other hne 3 (V64 qseq)).other hne 4 (V64 qnext)
        have hx39 := hx38.set5 (.slice a1 qA.length c1) (.slice a2 qD.length c2) (V64 qlog) (V64 qseq) (V64 qnext)
        have hlt3 : w.heap.size + 1 < w.heap.size + 1 + 1 := by omega
        have hn2 : w.heap.size + 1 ≠ w.heap.size := by omega
        have hx29 := (((((hx2.up hc8).other hn2 0 (.slice a1 qA.length c1)).other hn2 1 (.slice a2 qD.length c2)).other hn2 2 (V64 qlog)).other hn2 3 (V64 qseq)).other hn2 4 (V64 qnext)
        have hszb : w.heap.size + 1 + 1 ≤ w8.heap.size := Nat.le_trans hsz hc8.size
        have hT9 := (((((hown1.low (show w.heap.size + 1 + 1 ≤ _ from Nat.le_trans hsz ha.size)).other hlt3 0 (.slice a1 qA.length c1)).other hlt3 1 (.slice a2 qD.length c2)).other hlt3 2 (V64 qlog)).other hlt3 3 (V64 qseq)).other hlt3 4 (V64 qnext)
        have hN9 := (((((hown2.low (show w.heap.size + 1 + 1 ≤ _ from Nat.le_trans hsz hc7.size)).other hlt3 0 (.slice a1 qA.length c1)).other hlt3 1 (.slice a2 qD.length c2)).other hlt3 2 (V64 qlog)).other hlt3 3 (V64 qseq)).other hlt3 4 (V64 qnext)
        have hb9 := below_set5 (Chain.up hb hc8) (show w.heap.size ≤ w.heap.size + 1 by omega) (.slice a1 qA.length c1) (.slice a2 qD.length c2) (V64 qlog) (V64 qseq) (V64 qnext)
        have hsz9 : w.heap.size + 1 + 1 ≤ (((((w8.setCell ⟨w.heap.size + 1, 0, none⟩ (.slice a1 qA.length c1)).setCell ⟨w.heap.size + 1, 1, none⟩ (.slice a2 qD.length c2)).setCell ⟨w.heap.size + 1, 2, none⟩ (V64 qlog)).setCell ⟨w.heap.size + 1, 3, none⟩ (V64 qseq)).setCell ⟨w.heap.size + 1, 4, none⟩ (V64 qnext)).heap.size := by simpa using hszb
        refine wpAnyH_one (i := 13) (by kernel_rfl) rfl (fun K hK => ?_)
        simp only [List.getElem_toArray, List.getElem_cons_succ, List.getElem_cons_zero]
        go_simp
        refine hK.out _ _ hbt9 ?_
        clear hK K
        refine wpAnyH_done (by kernel_rfl) ?_ _
        go_wp2_with fail
        go_roundw
        case rel => exact ⟨1, .slice a1 qA.length c1, .slice a2 qD.length c2, by omega, by go_num, by rw [Hone.out]; exact hx39, by rw [Hone.out]; exact hT9, by rw [Hone.out]; exact hN9, hx29, hsz9, hb9⟩
        case measure => simp [intOf]; omega
      | succ m =>
        obtain ⟨a1, c1, hv1, _, _⟩ := hT.is tabCells_len
        subst hv1
        obtain ⟨a2, c2, hv2, _, _⟩ := hN.is numCells_len
        subst hv2
        have Hst := Lib.hid (P.joinL_step l m hltl)
        have HJ := Lib.hid (fun wx (hx : Below wr.heap.size wr wx) => join_any (P.joinL (l.take (m + 1))) l[m + 1] a1 a2 aa ab (P.joinL (l.take (m + 1))).add.length c1 (P.joinL (l.take (m + 1))).drop.length c2 l[m + 1].add.length ca l[m + 1].drop.length cb rfl rfl rfl rfl wx (by omega) (by omega) (by omega) (by omega)
          (EdAt.up ⟨hT.at tabCells_len, NumsAt.of (hN.at numCells_len)⟩ hx) (hed.up hx))
        clear hed hlen hl60 hT hN
        have hm0 : ((m : Int) + 1 == 0) = false := beq_eq_false_iff_ne.2 (by omega)
        generalize l[m + 1] = q at *
        generalize P.joinL (l.take (m + 1)) = x at *
        generalize P.joinE x q = z at *
        generalize q.add.length = na at *
        generalize q.drop.length = nd at *
        generalize x.add.length = xa at *
        generalize x.drop.length = xd at *
        have hx3a := hx3.up ha
        obtain ⟨p0, p1, p2, p3, p4⟩ := hx3a.five
        obtain ⟨t0, t1, t2, t3, t4⟩ := hbt.five
        go_wp2_with (first
          | (go_at_call 39; (with_reducible refine (HJ.out _ ha).mono ?_); rintro e w7 ⟨v1, v2, rfl, hown1, hown2, hb7⟩; have hx37 := hx3a.up hb7; obtain ⟨q0, q1, q2, q3, q4⟩ := hx37.five; have qf0 := hx37.frozen 0; have qf1 := hx37.frozen 1; have qf2 := hx37.frozen 2; have qf3 := hx37.frozen 3; have qf4 := hx37.frozen 4; obtain ⟨b1, d1, hv1, _, _⟩ := hown1.is tabCells_len; (subst hv1); obtain ⟨b2, d2, hv2, _, _⟩ := hown2.is numCells_len; (subst hv2)))
        have hlt3 : w.heap.size + 1 < w.heap.size + 1 + 1 := by omega
        have hn2 : w.heap.size + 1 ≠ w.heap.size := by omega
        have hc7 := Chain.up ha hb7
        have hszc : w.heap.size + 1 + 1 ≤ w7.heap.size := Nat.le_trans hsz hc7.size
        go_roundw
        case rel => exact ⟨m + 1 + 1, .slice b1 z.add.length d1, .slice b2 z.drop.length d2, by omega, by go_num, by rw [Hst.out]; exact hx37.set5 _ _ _ _ _,
          by rw [Hst.out]; exact (((((hown1.low (show w.heap.size + 1 + 1 ≤ _ from Nat.le_trans hsz ha.size)).other hlt3 0 _).other hlt3 1 _).other hlt3 2 _).other hlt3 3 _).other hlt3 4 _,
          by rw [Hst.out]; exact (((((hown2.low (show w.heap.size + 1 + 1 ≤ _ from Nat.le_trans hsz ha.size)).other hlt3 0 _).other hlt3 1 _).other hlt3 2 _).other hlt3 3 _).other hlt3 4 _,
          ((((((hx2.up ha).up hb7).other hn2 0 _).other hn2 1 _).other hn2 2 _).other hn2 3 _).other hn2 4 _, by simpa using hszc, below_set5 (Chain.up hb hc7) (show w.heap.size ≤ w.heap.size + 1 by omega) _ _ _ _ _⟩
        case measure => simp [intOf]; omega
    · obtain rfl : k = n := by omega
      have hlk : l.take k = l := List.take_of_length_le (by have := Hn.out; omega)
      rw [hlk] at hx3 hT hN hlen
      clear hlk hlt hk
      obtain ⟨a1, c1, hv1, _, _⟩ := hT.is tabCells_len
      subst hv1
      obtain ⟨a2, c2, hv2, _, _⟩ := hN.is numCells_len
      subst hv2
      generalize hz : P.joinL l = z at *
      have Hz := Lib.hid hz
      clear hz
      have HT := Lib.hid hT
      have HN := Lib.hid hN
      clear hT hN
      generalize z.add.length = na at *
      generalize z.drop.length = nd at *
      obtain ⟨p0, p1, p2, p3, p4⟩ := hx3.five
      obtain ⟨r0, r1, r2, r3, r4⟩ := hx2.five
      have rf0 := hx2.frozen 0
      have rf1 := hx2.frozen 1
      have rf2 := hx2.frozen 2
      have rf3 := hx2.frozen 3
      have rf4 := hx2.frozen 4
      have hlt2 : w.heap.size < w.heap.size + 1 + 1 := by omega
      go_wp2_with fail
      obtain ⟨q0, q1, q2, q3, q4⟩ := (hx2.set5 (.slice a1 na c1) (.slice a2 nd c2) (V64 z.log) (V64 z.seq) (V64 z.next)).five
      exact bodyPost_ret (v := edV a1 na c1 a2 nd c2 z.log z.seq z.next) (by simp [results, Try.results17, go_sem, q0, q1, q2, q3, q4]) rfl
        ⟨_, _, by rw [Hz.out], by rw [Hz.out]; exact (((((HT.out.other hlt2 0 (.slice a1 na c1)).other hlt2 1 (.slice a2 nd c2)).other hlt2 2 (V64 z.log)).other hlt2 3 (V64 z.seq)).other hlt2 4 (V64 z.next)).low (show w.heap.size ≤ w.heap.size + 1 + 1 by omega),
          by rw [Hz.out]; exact (((((HN.out.other hlt2 0 (.slice a1 na c1)).other hlt2 1 (.slice a2 nd c2)).other hlt2 2 (V64 z.log)).other hlt2 3 (V64 z.seq)).other hlt2 4 (V64 z.next)).low (show w.heap.size ≤ w.heap.size + 1 + 1 by omega),
          below_set5 hb (Nat.le_refl _) _ _ _ _ _⟩
end Go.Proofs.Ythpgigjplknomaa
