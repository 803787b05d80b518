/- The walk of the document's Two: two edits joined. -/
import Derived.Test.YthpgigjplknomaaWEdJoins
import Derived.BigQuiet
import Derived.Deep.QuietTactic
namespace Go.Proofs.Ythpgigjplknomaa
open Go.RowKit
set_option linter.unusedVariables false
set_option linter.unusedSimpArgs false

set_option maxRecDepth 100000 in
set_option maxHeartbeats 1000000 in
theorem more_any (x y r : Nat) (w : World) (hr : P.maxN x y = r) :
    Calls Try.prog 58 #[V64 x, V64 y] w fun e w' => e = .returned (V64 r) ∧ w = w' := by
  by_cases h : y < x
  · have hr' : r = x := by rw [← hr]; unfold P.maxN; omega
    subst hr'
    have hi : (y : Int) < (r : Int) := by omega
    go_enter Try.func58, Try.ntmps58
    go_wp2
    go_ret
    exact ⟨rfl, rfl⟩
  · have hr' : r = y := by rw [← hr]; unfold P.maxN; omega
    subst hr'
    have hi : (x : Int) ≤ (r : Int) := by omega
    go_enter Try.func58, Try.ntmps58
    go_wp2
    go_ret
    exact ⟨rfl, rfl⟩
/-- What the slots of an append's region hold: the slice, the new element's block. -/
def twoR (B : Nat) (va : Value) (cs : Array Value) (i : Nat) (v : Value) (w : World) : Prop :=
  match i with
  | 1 => v = va
  | 7 => ∃ g, v = .slice (some ⟨g, 0, none⟩) 1 1 ∧ B ≤ g ∧ Bx w g 31 cs
  | _ => True
theorem twoR_up (B : Nat) (va : Value) (cs : Array Value) (i : Nat) (v : Value) (w w' : World) (h : twoR B va cs i v w) (hb : Below w.heap.size w w') : twoR B va cs i v w' := by
  unfold twoR at *
  split at h
  · exact h
  · obtain ⟨g, h1, h2, h3⟩ := h; exact ⟨g, h1, h2, h3.up hb⟩
  · trivial
def twoN (B : Nat) (va : Value) (cs : Array Value) (i : Nat) (v : Value) (w : World) : Prop :=
  match i with
  | 1 => v = va
  | 7 => ∃ g, v = .slice (some ⟨g, 0, none⟩) 1 1 ∧ B ≤ g ∧ Bx w g 27 cs
  | _ => True
theorem twoN_up (B : Nat) (va : Value) (cs : Array Value) (i : Nat) (v : Value) (w w' : World) (h : twoN B va cs i v w) (hb : Below w.heap.size w w') : twoN B va cs i v w' := by
  unfold twoN at *
  split at h
  · exact h
  · obtain ⟨g, h1, h2, h3⟩ := h; exact ⟨g, h1, h2, h3.up hb⟩
  · trivial
theorem cell_below {B : Nat} {w w' : World} {a : Addr} {v : Value} (hb : Below B w w') (hlt : a.block < B) (h : w.cell? a = some v) : w'.cell? a = some v := (hb.cell hlt).trans h
theorem rows_box {α : Type} {k : Nat} {cs : α → List Value} (hk : ∀ x, (cs x).length = k) {w : World} {g : Nat} {t : TypeId} (c : α) {A : Array Value} (hx : Bx w g t A) (hA : A = (cs c).toArray) : RowsAt k cs w (some ⟨g, 0, none⟩) [c] := by
  intro i hi
  obtain rfl : i = 0 := by simp at hi; omega
  refine ⟨g, 0, rfl, hx.lt, fun j hj => ?_⟩
  rw [hx.cell, hA]
  simp
theorem wp_appTabs {o : Oper} {a : Act} {w : World} {K : Act → World → Prop} {Q : Exit → Act → World → Prop} (s x : Operand)
    (ho : o.op = .call { callee := .builtin .append, args := #[s, x], argTypes := #[25, 25] }) (B : Nat) (v : Value) (l m : List P.Tab) (hs : a.eval s = v) (hown : OwnTabs w B v l) (hl : l.length + m.length ≤ 1000000)
    (b : Option Addr) (n c : Nat) (hx : a.eval x = .slice b n c) (hn : n = m.length) (hm : TabsAt w b m) (hB : B ≤ w.heap.size)
    (h : ∀ v' w', OwnTabs w' B v' (l ++ m) → Below B w w' → KeptT 31 w w' → K (a.put o.dst v') w') :
    Oper.wp Try.prog o a w K Q := by
  obtain ⟨i, hq, h1, h2, h3⟩ := info_parts infoTab
  exact wp_appR s x 25 ho i _ 80 Try.underlying25 hq h1 h2 h3 rfl (by decide) tabCells_len tabCells_one m hs hown hl (by decide) b n c hx hn hm hB h
theorem wp_appNums {o : Oper} {a : Act} {w : World} {K : Act → World → Prop} {Q : Exit → Act → World → Prop} (s x : Operand)
    (ho : o.op = .call { callee := .builtin .append, args := #[s, x], argTypes := #[26, 26] }) (B : Nat) (v : Value) (l m : List Nat) (hs : a.eval s = v) (hown : OwnNums w B v l) (hl : l.length + m.length ≤ 1000000)
    (b : Option Addr) (n c : Nat) (hx : a.eval x = .slice b n c) (hn : n = m.length) (hm : RowsAt 1 numCells w b m) (hB : B ≤ w.heap.size)
    (h : ∀ v' w', OwnNums w' B v' (l ++ m) → Below B w w' → KeptT 27 w w' → K (a.put o.dst v') w') :
    Oper.wp Try.prog o a w K Q := by
  obtain ⟨i, hq, h1, h2, h3⟩ := info_parts infoU64
  exact wp_appR s x 26 ho i _ 8 Try.underlying26 hq h1 h2 h3 rfl (by decide) numCells_len numCells_one m hs hown hl (by decide) b n c hx hn hm hB h
theorem four_boxes (w : World) (A B C D : Array Value) (t u v x : TypeId) :
    Bx ((((w.alloc (.cells A t)).alloc (.cells B u)).alloc (.cells C v)).alloc (.cells D x)) w.heap.size t A ∧ Bx ((((w.alloc (.cells A t)).alloc (.cells B u)).alloc (.cells C v)).alloc (.cells D x)) (w.heap.size + 1) u B ∧
      Bx ((((w.alloc (.cells A t)).alloc (.cells B u)).alloc (.cells C v)).alloc (.cells D x)) (w.heap.size + 1 + 1) v C ∧ Bx ((((w.alloc (.cells A t)).alloc (.cells B u)).alloc (.cells C v)).alloc (.cells D x)) (w.heap.size + 1 + 1 + 1) x D ∧
      Below w.heap.size w ((((w.alloc (.cells A t)).alloc (.cells B u)).alloc (.cells C v)).alloc (.cells D x)) ∧ ((((w.alloc (.cells A t)).alloc (.cells B u)).alloc (.cells C v)).alloc (.cells D x)).heap.size = w.heap.size + 1 + 1 + 1 + 1 := by
  obtain ⟨h0, h1, h2, h3⟩ := three_boxes w A B C t u v
  have hz : (((w.alloc (.cells A t)).alloc (.cells B u)).alloc (.cells C v)).heap.size = w.heap.size + 1 + 1 + 1 := by simp
  generalize ((w.alloc (.cells A t)).alloc (.cells B u)).alloc (.cells C v) = w3 at *
  have hb := (Below.refl w3.heap.size w3).alloc (Nat.le_refl _) (.cells D x)
  have h4 := Bx.fresh w3 x D
  rw [hz] at h4
  exact ⟨h0.up hb, h1.up hb, h2.up hb, h4, h3.trans (hb.mono h3.size), by simp [hz]⟩
theorem P.has_next (l : List Nat) (v k : Nat) (h : k < l.length) : P.hasN (l.take (k + 1)) v = (P.hasN (l.take k) v || decide (v = l[k])) := by
  unfold P.hasN
  rw [List.take_succ_eq_append_getElem h, List.any_append]
  simp
theorem P.came_next (l : List P.Tab) (v k : Nat) (h : k < l.length) : (l.take (k + 1)).any (P.isN v) = ((l.take k).any (P.isN v) || P.isN v l[k]) := by
  rw [List.take_succ_eq_append_getElem h, List.any_append]
  simp

set_option maxRecDepth 100000 in
set_option maxHeartbeats 8000000 in
theorem two_any (x y : P.Ed) (a b a' b' : Option Addr) (n c m d n' c' m' d' : Nat) (hn : n = x.add.length) (hm : m = x.drop.length) (hn' : n' = y.add.length) (hm' : m' = y.drop.length) (w : World)
    (h1 : x.add.length ≤ 100000) (h2 : x.drop.length ≤ 100000) (h3 : y.add.length ≤ 100000) (h4 : y.drop.length ≤ 100000) (hp : EdAt w a b x) (hq : EdAt w a' b' y) :
    Calls Try.prog 46 #[edV a n c b m d x.log x.seq x.next, edV a' n' c' b' m' d' y.log y.seq y.next] w fun e w' =>
      ∃ va vb, e = .returned (.agg #[va, vb, V64 (P.joinE x y).log, V64 (P.joinE x y).seq, V64 (P.joinE x y).next]) ∧ OwnTabs w' w.heap.size va (P.joinE x y).add ∧ OwnNums w' w.heap.size vb (P.joinE x y).drop ∧ Below w.heap.size w w' := by
  obtain ⟨A, D, lo, se, ne⟩ := x
  obtain ⟨A', D', lo', se', ne'⟩ := y
  simp only at *
  have HJ := Lib.hid (show P.joinE ⟨A, D, lo, se, ne⟩ ⟨A', D', lo', se', ne'⟩ = ⟨A.filter (fun t => !P.hasN D' t.n) ++ A', D ++ D'.filter (fun n => !A.any (P.isN n)), P.maxN lo lo', P.maxN se se', P.maxN ne ne'⟩ from rfl)
  generalize P.joinE ⟨A, D, lo, se, ne⟩ ⟨A', D', lo', se', ne'⟩ = z at *
  have HM := Lib.hid more_any
  obtain ⟨hpA, hpD⟩ := hp
  obtain ⟨hqA, hqD⟩ := hq
  have HA := Lib.hid hpA
  have HD := Lib.hid hpD
  have HA' := Lib.hid hqA
  have HD' := Lib.hid hqD
  have Hn := Lib.hid hn
  have Hm := Lib.hid hm
  have Hn' := Lib.hid hn'
  have Hm' := Lib.hid hm'
  clear hpA hpD hqA hqD hn hm hn' hm'
  obtain ⟨hx2, hx3, hx4, hx5, hbw, hsz4⟩ := four_boxes w #[.slice a n c, .slice b m d, V64 lo, V64 se, V64 ne] #[.slice a' n' c', .slice b' m' d', V64 lo', V64 se', V64 ne'] #[.slice none 0 0, .slice none 0 0, .int .u64 0, .int .u64 0, .int .u64 0] #[.slice none 0 0, .slice none 0 0, .int .u64 0, .int .u64 0, .int .u64 0] 38 38 38 38
  have Hsz4 := Lib.hid hsz4
  clear hsz4
  go_enter Try.func46, Try.ntmps46
  go_wp2_with fail
  generalize (((w.alloc (.cells #[.slice a n c, .slice b m d, V64 lo, V64 se, V64 ne] 38)).alloc (.cells #[.slice a' n' c', .slice b' m' d', V64 lo', V64 se', V64 ne'] 38)).alloc (.cells #[.slice none 0 0, .slice none 0 0, .int .u64 0, .int .u64 0, .int .u64 0] 38)).alloc (.cells #[.slice none 0 0, .slice none 0 0, .int .u64 0, .int .u64 0, .int .u64 0] 38) = w4 at *
  have HX2 := Lib.hid hx2
  have HX3 := Lib.hid hx3
  have HX4 := Lib.hid hx4
  have Hbw := Lib.hid hbw
  go_loopw [6] (fun i wr => ∃ (k : Nat) (va : Value), k ≤ n ∧ i = .int .i64 k ∧ Bx wr (w.heap.size + 1 + 1 + 1) 38 #[va, .slice none 0 0, .int .u64 0, .int .u64 0, .int .u64 0] ∧ OwnTabs wr w4.heap.size va ((A.take k).filter (fun t => !P.hasN D' t.n)) ∧ But (w.heap.size + 1 + 1 + 1) w4 wr) (fun i _ => n - (intOf i).toNat)
  case atStart => exact ⟨0, _, by omega, rfl, hx5, ownR_nil _ _, But.refl _ _⟩
  case round =>
    clear hx2 hx3 hx4 hx5 hbw
    obtain ⟨k, va, hk, rfl, hx5, hown, hbut⟩ := hrel
    have hx2 := HX2.out.but hbut (by omega)
    have hx3 := HX3.out.but hbut (by omega)
    have hcw : Below w.heap.size w wr := Hbw.out.trans (hbut.below (by omega) Hbw.out.size)
    obtain ⟨x0, x1, x2, x3, x4⟩ := hx2.five
    obtain ⟨y0, y1, y2, y3, y4⟩ := hx3.five
    by_cases hlt : k < n
    · have hltA : k < A.length := by have := Hn.out; omega
      obtain ⟨bb, o, rfl, hbb, c0, c1, c2, c3, c4, c5, c6, c7⟩ := tab_at HA.out k hltA
      have Hyes := Lib.hid (show P.hasN D' A[k].n = false → (A.take (k + 1)).filter (fun t => !P.hasN D' t.n) = (A.take k).filter (fun t => !P.hasN D' t.n) ++ [A[k]] from fun h => P.keep_yes hltA (by rw [h]; rfl))
      have Hno := Lib.hid (show P.hasN D' A[k].n = true → (A.take (k + 1)).filter (fun t => !P.hasN D' t.n) = (A.take k).filter (fun t => !P.hasN D' t.n) from fun h => P.keep_no hltA (by rw [h]; rfl))
      have hll : ((A.take k).filter (fun t => !P.hasN D' t.n)).length ≤ 100000 := Nat.le_trans (List.length_filter_le _ _) (by rw [List.length_take]; omega)
      generalize (A.take k).filter (fun t => !P.hasN D' t.n) = la at *
      generalize A[k] = q at *
      obtain ⟨tn, level, count, size, first, last, least, most⟩ := q
      simp only at c0 c1 c2 c3 c4 c5 c6 c7 Hyes Hno
      go_wp2_with fail
      clear x0 x1 x2 x3 x4 y0 y1 y2 y3 y4
      generalize wr = ws at *
      go_loopw [7, 8] (fun f i wr => ∃ j : Nat, j ≤ m' ∧ i = .int .i64 j ∧ f = .bool (P.hasN (D'.take j) tn) ∧ Below ws.heap.size ws wr) (fun _ i _ => m' - (intOf i).toNat)
      case atStart => exact ⟨0, by omega, rfl, rfl, Below.refl _ _⟩
      case round =>
        obtain ⟨j, hj, rfl, rfl, hbx⟩ := hrel
        have hbut := hbut.up (hbx.mono hbut.size)
        have hcw := Chain.up hcw hbx
        have hx2 := hx2.up hbx
        have hx3 := hx3.up hbx
        obtain ⟨x0, x1, x2, x3, x4⟩ := hx2.five
        obtain ⟨y0, y1, y2, y3, y4⟩ := hx3.five
        by_cases hltj : j < m'
        · have hltD : j < D'.length := by have := Hm'.out; omega
          obtain ⟨bb', o', rfl, hbb', d0⟩ := NumsAt.below HD'.out hcw j hltD
          have k0 := cell_below hcw hbb c0
          have Hnx := Lib.hid (P.has_next D' tn j hltD)
          generalize P.hasN (D'.take j) tn = gv at *
          generalize D'[j] = q at *
          clear hx5 hown
          cases gv with
          | true =>
            have Hn2 := Lib.hid (show P.hasN (D'.take (j + 1)) tn = true by rw [Hnx.out]; rfl)
            go_wp2_with fail
            refine wp_region_held_drew (S := fun _ => True) (by kernel_rfl) trivial (fun hHeld => ?_)
            -- REGION 9T
            refine wpAnyH_take (i := 0) (v := ?_) rfl (by kernel_rfl) (by kernel_rfl) (by kernel_rfl) (fun _ _ _ h => h) (Or.inl ⟨by rfl, ?_⟩) trivial ?_
            rotate_left
            · intro wq hSw; go_simp; (try with_reducible rfl)
            simp only [Act.put, List.getElem_toArray, List.getElem_cons_succ, List.getElem_cons_zero, List.setIfInBounds_toArray, List.set_cons_zero, List.set_cons_succ]
            refine wpAnyH_take (i := 1) (v := ?_) rfl (by kernel_rfl) (by kernel_rfl) (by kernel_rfl) (fun _ _ _ h => h) (Or.inl ⟨by rfl, ?_⟩) trivial ?_
            rotate_left
            · intro wq hSw; go_simp; (try with_reducible rfl)
            simp only [Act.put, List.getElem_toArray, List.getElem_cons_succ, List.getElem_cons_zero, List.setIfInBounds_toArray, List.set_cons_zero, List.set_cons_succ]
            refine wpAnyH_take (i := 2) (v := undef) rfl (by kernel_rfl) (by kernel_rfl) (by kernel_rfl) (fun _ _ _ h => h) (Or.inr ⟨by rfl, rfl⟩) trivial ?_
            simp only [Act.put, List.getElem_toArray, List.getElem_cons_succ, List.getElem_cons_zero, List.setIfInBounds_toArray, List.set_cons_zero, List.set_cons_succ]
            refine wpAnyH_take (i := 3) (v := undef) rfl (by kernel_rfl) (by kernel_rfl) (by kernel_rfl) (fun _ _ _ h => h) (Or.inr ⟨by rfl, rfl⟩) trivial ?_
            simp only [Act.put, List.getElem_toArray, List.getElem_cons_succ, List.getElem_cons_zero, List.setIfInBounds_toArray, List.set_cons_zero, List.set_cons_succ]
            refine wpAnyH_take (i := 4) (v := undef) rfl (by kernel_rfl) (by kernel_rfl) (by kernel_rfl) (fun _ _ _ h => h) (Or.inr ⟨by rfl, rfl⟩) trivial ?_
            simp only [Act.put, List.getElem_toArray, List.getElem_cons_succ, List.getElem_cons_zero, List.setIfInBounds_toArray, List.set_cons_zero, List.set_cons_succ]
            refine wpAnyH_take (i := 5) (v := undef) rfl (by kernel_rfl) (by kernel_rfl) (by kernel_rfl) (fun _ _ _ h => h) (Or.inr ⟨by rfl, rfl⟩) trivial ?_
            simp only [Act.put, List.getElem_toArray, List.getElem_cons_succ, List.getElem_cons_zero, List.setIfInBounds_toArray, List.set_cons_zero, List.set_cons_succ]
            refine wpAnyH_take (i := 6) (v := undef) rfl (by kernel_rfl) (by kernel_rfl) (by kernel_rfl) (fun _ _ _ h => h) (Or.inr ⟨by rfl, rfl⟩) trivial ?_
            simp only [Act.put, List.getElem_toArray, List.getElem_cons_succ, List.getElem_cons_zero, List.setIfInBounds_toArray, List.set_cons_zero, List.set_cons_succ]
            refine wpAnyH_take (i := 7) (v := undef) rfl (by kernel_rfl) (by kernel_rfl) (by kernel_rfl) (fun _ _ _ h => h) (Or.inr ⟨by rfl, rfl⟩) trivial ?_
            simp only [Act.put, List.getElem_toArray, List.getElem_cons_succ, List.getElem_cons_zero, List.setIfInBounds_toArray, List.set_cons_zero, List.set_cons_succ]
            refine wpAnyH_take (i := 8) (v := undef) rfl (by kernel_rfl) (by kernel_rfl) (by kernel_rfl) (fun _ _ _ h => h) (Or.inr ⟨by rfl, rfl⟩) trivial ?_
            simp only [Act.put, List.getElem_toArray, List.getElem_cons_succ, List.getElem_cons_zero, List.setIfInBounds_toArray, List.set_cons_zero, List.set_cons_succ]
            refine wpAnyH_take (i := 9) (v := undef) rfl (by kernel_rfl) (by kernel_rfl) (by kernel_rfl) (fun _ _ _ h => h) (Or.inr ⟨by rfl, rfl⟩) trivial ?_
            simp only [Act.put, List.getElem_toArray, List.getElem_cons_succ, List.getElem_cons_zero, List.setIfInBounds_toArray, List.set_cons_zero, List.set_cons_succ]
            refine wpAnyH_take (i := 10) (v := undef) rfl (by kernel_rfl) (by kernel_rfl) (by kernel_rfl) (fun _ _ _ h => h) (Or.inr ⟨by rfl, rfl⟩) trivial ?_
            simp only [Act.put, List.getElem_toArray, List.getElem_cons_succ, List.getElem_cons_zero, List.setIfInBounds_toArray, List.set_cons_zero, List.set_cons_succ]
            refine wpAnyH_take (i := 11) (v := undef) rfl (by kernel_rfl) (by kernel_rfl) (by kernel_rfl) (fun _ _ _ h => h) (Or.inr ⟨by rfl, rfl⟩) trivial ?_
            simp only [Act.put, List.getElem_toArray, List.getElem_cons_succ, List.getElem_cons_zero, List.setIfInBounds_toArray, List.set_cons_zero, List.set_cons_succ]
            refine wpAnyH_take (i := 12) (v := undef) rfl (by kernel_rfl) (by kernel_rfl) (by kernel_rfl) (fun _ _ _ h => h) (Or.inr ⟨by rfl, rfl⟩) trivial ?_
            simp only [Act.put, List.getElem_toArray, List.getElem_cons_succ, List.getElem_cons_zero, List.setIfInBounds_toArray, List.set_cons_zero, List.set_cons_succ]
            refine wpAnyH_take (i := 13) (v := undef) rfl (by kernel_rfl) (by kernel_rfl) (by kernel_rfl) (fun _ _ _ h => h) (Or.inr ⟨by rfl, rfl⟩) trivial ?_
            simp only [Act.put, List.getElem_toArray, List.getElem_cons_succ, List.getElem_cons_zero, List.setIfInBounds_toArray, List.set_cons_zero, List.set_cons_succ]
            refine wpAnyH_take (i := 14) (v := ?_) rfl (by kernel_rfl) (by kernel_rfl) (by kernel_rfl) (fun _ _ _ h => h) (Or.inl ⟨by rfl, ?_⟩) trivial ?_
            rotate_left
            · intro wq hSw; go_simp; (try with_reducible rfl)
            simp only [Act.put, List.getElem_toArray, List.getElem_cons_succ, List.getElem_cons_zero, List.setIfInBounds_toArray, List.set_cons_zero, List.set_cons_succ]
            refine wpAnyH_take (i := 15) (v := ?_) rfl (by kernel_rfl) (by kernel_rfl) (by kernel_rfl) (fun _ _ _ h => h) (Or.inl ⟨by rfl, ?_⟩) trivial ?_
            rotate_left
            · intro wq hSw; go_simp; (try with_reducible rfl)
            simp only [Act.put, List.getElem_toArray, List.getElem_cons_succ, List.getElem_cons_zero, List.setIfInBounds_toArray, List.set_cons_zero, List.set_cons_succ]
            -- END REGION 9T
            refine wpAnyH_done (by kernel_rfl) ?_ _
            go_wp2_with fail
            go_roundw
            case rel => exact ⟨j + 1, by omega, by go_num, by rw [Hn2.out], hbx.drew⟩
            case measure => simp [intOf]; omega
          | false =>
            by_cases he : q = tn
            · have Hn2 := Lib.hid (show P.hasN (D'.take (j + 1)) tn = true by rw [Hnx.out, he]; simp)
              subst he
              go_wp2_with fail
              go_quiet (fail)
              go_wp2_with fail
              go_roundw
              case rel => exact ⟨j + 1, by omega, by go_num, by rw [Hn2.out], below_drewN hbx _⟩
              case measure => simp [intOf]; omega
            · have Hn2 := Lib.hid (show P.hasN (D'.take (j + 1)) tn = false by rw [Hnx.out]; simp [Ne.symm he])
              have he1 : ((q : Int) == (tn : Int)) = false := beq_eq_false_iff_ne.2 (by omega)
              clear he
              go_wp2_with fail
              go_quiet (fail)
              go_wp2_with fail
              go_roundw
              case rel => exact ⟨j + 1, by omega, by go_num, by rw [Hn2.out], below_drewN hbx _⟩
              case measure => simp [intOf]; omega
        · obtain rfl : j = m' := by omega
          have hDj : D'.take j = D' := List.take_of_length_le (by have := Hm'.out; omega)
          rw [hDj]
          clear hDj hltj hj
          have hx5 := hx5.up hbx
          have hown := OwnR.up hown hbx
          cases hr : P.hasN D' tn with
          | true =>
            have Hnx := Lib.hid (Hno.out hr)
            clear Hyes Hno hr
            go_wp2_with fail
            go_roundw
            case rel => exact ⟨k + 1, va, by omega, by go_num, hx5, by rw [Hnx.out]; exact hown, hbut⟩
            case measure => simp [intOf]; omega
          | false =>
            have Hnx := Lib.hid (Hyes.out hr)
            clear Hyes Hno hr
            go_wp2_with fail
            refine wp_region_held_drew (S := fun wx => But (w.heap.size + 1 + 1 + 1) w4 wx) (by kernel_rfl) hbut.drew (fun hHeld => ?_)
            -- REGION 11
            refine wpAnyH_take (i := 0) (v := ?_) rfl (by kernel_rfl) (by kernel_rfl) (by kernel_rfl) (fun _ _ _ h => h) (Or.inl ⟨by rfl, ?_⟩) hHeld ?_
            rotate_left
            · intro wq hSw; go_simp; (try with_reducible rfl)
            simp only [Act.put, List.getElem_toArray, List.getElem_cons_succ, List.getElem_cons_zero, List.setIfInBounds_toArray, List.set_cons_zero, List.set_cons_succ]
            refine wpAnyH_take (i := 2) (v := ?_) rfl (by kernel_rfl) (by kernel_rfl) (by kernel_rfl) (fun _ _ _ h => h) (Or.inl ⟨by rfl, ?_⟩) hHeld ?_
            rotate_left
            · intro wq hSw; go_simp; (try with_reducible rfl)
            simp only [Act.put, List.getElem_toArray, List.getElem_cons_succ, List.getElem_cons_zero, List.setIfInBounds_toArray, List.set_cons_zero, List.set_cons_succ]
            refine wpAnyH_take (i := 3) (v := ?_) rfl (by kernel_rfl) (by kernel_rfl) (by kernel_rfl) (fun _ _ _ h => h) (Or.inl ⟨by rfl, ?_⟩) hHeld ?_
            rotate_left
            · intro wq hSw; obtain ⟨qa, qb, qc, qd, qe⟩ := Bx.five (HX2.out.but hSw (by omega)); go_simp; (try with_reducible rfl)
            simp only [Act.put, List.getElem_toArray, List.getElem_cons_succ, List.getElem_cons_zero, List.setIfInBounds_toArray, List.set_cons_zero, List.set_cons_succ]
            refine wpAnyH_take (i := 4) (v := ?_) rfl (by kernel_rfl) (by kernel_rfl) (by kernel_rfl) (fun _ _ _ h => h) (Or.inl ⟨by rfl, ?_⟩) hHeld ?_
            rotate_left
            · intro wq hSw; go_simp; (try with_reducible rfl)
            simp only [Act.put, List.getElem_toArray, List.getElem_cons_succ, List.getElem_cons_zero, List.setIfInBounds_toArray, List.set_cons_zero, List.set_cons_succ]
            refine wpAnyH_take (i := 5) (v := ?_) rfl (by kernel_rfl) (by kernel_rfl) (by kernel_rfl) (fun _ _ _ h => h) (Or.inl ⟨by rfl, ?_⟩) hHeld ?_
            rotate_left
            · intro wq hSw; go_simp; (try with_reducible rfl)
            simp only [Act.put, List.getElem_toArray, List.getElem_cons_succ, List.getElem_cons_zero, List.setIfInBounds_toArray, List.set_cons_zero, List.set_cons_succ]
            refine wpAnyH_take (i := 6) (v := ?_) rfl (by kernel_rfl) (by kernel_rfl) (by kernel_rfl) (fun _ _ _ h => h) (Or.inl ⟨by rfl, ?_⟩) hHeld ?_
            rotate_left
            · intro wq hSw; have hcx := Hbw.out.trans (hSw.below (by omega) Hbw.out.size); have k0 := cell_below hcx hbb c0; have k1 := cell_below hcx hbb c1; have k2 := cell_below hcx hbb c2; have k3 := cell_below hcx hbb c3; have k4 := cell_below hcx hbb c4; have k5 := cell_below hcx hbb c5; have k6 := cell_below hcx hbb c6; have k7 := cell_below hcx hbb c7; go_simp; (try with_reducible rfl)
            simp only [Act.put, List.getElem_toArray, List.getElem_cons_succ, List.getElem_cons_zero, List.setIfInBounds_toArray, List.set_cons_zero, List.set_cons_succ]
            refine wpAnyH_by2 (twoR wr.heap.size va #[V64 tn, .int .i64 level, .int .i64 count, .int .i64 size, S first, S last, V64 least, V64 most]) (fun wx => Below wr.heap.size wr wx) (fun wx wy => Below wx.heap.size wx wy) [(1, some 44), (7, some 50)] 3 (fun wx hx => hbut.up (hx.mono hbut.size)) rfl (by kernel_rfl) (by kernel_rfl) (by kernel_rfl) (by kernel_rfl) (by kernel_rfl) (by kernel_rfl) (by kernel_rfl) (twoR_up wr.heap.size va _) (Below.refl _ _).drew ?_ ?_
            · skip
              refine StepsI.skip (by kernel_rfl) ?_
              refine StepsI.cons (fun vals wx hS hd K hK => ?_) ?_
              · simp only [fillA, Act.put, List.setIfInBounds_toArray, List.set_cons_zero, List.set_cons_succ] at hK ⊢
                obtain ⟨qa, qb, qc, qd, qe⟩ := Bx.five (hx5.up hS)
                go_simp
                exact hK.out _ _ rfl hS (Below.refl _ _)
              refine StepsI.skip (by kernel_rfl) ?_
              refine StepsI.skip (by kernel_rfl) ?_
              refine StepsI.skip (by kernel_rfl) ?_
              refine StepsI.skip (by kernel_rfl) ?_
              refine StepsI.skip (by kernel_rfl) ?_
              refine StepsI.cons (fun vals wx hS hd K hK => ?_) ?_
              · simp only [fillA, Act.put, List.setIfInBounds_toArray, List.set_cons_zero, List.set_cons_succ] at hK ⊢
                go_simp
                exact hK.out _ _ ⟨_, rfl, hS.size, Bx.fresh _ _ _⟩ (hS.alloc hS.size _) ((Below.refl _ _).alloc (Nat.le_refl _) _)
              refine StepsI.skip (by kernel_rfl) ?_
              refine StepsI.skip (by kernel_rfl) ?_
              refine StepsI.skip (by kernel_rfl) ?_
              exact StepsI.nil
            · intro vals wx hS hR
              have h1v : vals 1 = va := hR (1, some 44) (by decide)
              obtain ⟨g, hg, hgB, hbt⟩ : ∃ g, vals 7 = .slice (some ⟨g, 0, none⟩) 1 1 ∧ wr.heap.size ≤ g ∧ Bx wx g 31 #[V64 tn, .int .i64 level, .int .i64 count, .int .i64 size, S first, S last, V64 least, V64 most] := hR (7, some 50) (by decide)
              simp only [fillA, Act.put, List.setIfInBounds_toArray, List.set_cons_zero, List.set_cons_succ, h1v, hg]
              clear hR hg h1v vals
              have hbut1 := hbut.up (hS.mono hbut.size)
              refine wpAnyH_one (i := 8) (by kernel_rfl) rfl (fun K hK => ?_)
              simp only [List.getElem_toArray, List.getElem_cons_succ, List.getElem_cons_zero]
              rw [if_pos (by rfl)]
              refine wp_appTabs _ _ (by rfl) w4.heap.size va la [(⟨tn, level, count, size, first, last, least, most⟩ : P.Tab)] (by rfl) (OwnR.up hown hS) (by simp; omega) _ _ _ (by rfl) (by rfl) (rows_box tabCells_len _ hbt (by rfl)) (Nat.le_trans hbut.size hS.size) ?_
              intro v8 w8 hown8 hb8 hk8
              obtain ⟨ad, cc, hv8, _, _⟩ := hown8.is tabCells_len
              subst hv8
              have hbut8 := hbut1.up hb8
              refine hK.out _ _ hbut8 ?_
              simp only [Act.put, List.getElem_toArray, List.getElem_cons_succ, List.getElem_cons_zero, List.setIfInBounds_toArray, List.set_cons_zero, List.set_cons_succ]
              clear hK K
              have hx58 := (hx5.up hS).kept (by decide) hk8
              obtain ⟨p0, p1, p2, p3, p4⟩ := hx58.five
              have pf0 := hx58.frozen 0
              rw [List.length_append, List.length_singleton] at hown8 ⊢
              refine wpAnyH_take (i := 9) (v := ?_) rfl (by kernel_rfl) (by kernel_rfl) (by kernel_rfl) (fun _ _ _ h => h) (Or.inl ⟨by rfl, ?_⟩) hbut8 ?_
              rotate_left
              · intro wq hSw; go_simp; (try with_reducible rfl)
              simp only [Act.put, List.getElem_toArray, List.getElem_cons_succ, List.getElem_cons_zero, List.setIfInBounds_toArray, List.set_cons_zero, List.set_cons_succ]
              refine wpAnyH_one (i := 10) (by kernel_rfl) rfl (fun K hK => ?_)
              simp only [List.getElem_toArray, List.getElem_cons_succ, List.getElem_cons_zero]
              go_simp
              refine hK.out _ _ (hbut8.set 0 _) ?_
              clear hK K
              refine wpAnyH_done (by kernel_rfl) ?_ _
              go_wp2_with fail
            -- END REGION 11
              go_roundw
              case rel =>
                have hbu := (But.refl (w.heap.size + 1 + 1 + 1) w8).set 0 (.slice ad (la.length + 1) cc)
                exact ⟨k + 1, .slice ad (la.length + 1) cc, by omega, by go_num, by simpa using hx58.set 0 (.slice ad (la.length + 1) cc), by rw [Hnx.out]; exact hown8.but hx58 (by decide) hbu, hbut8.set 0 _⟩
              case measure => simp [intOf]; omega
    · obtain rfl : k = n := by omega
      have hAk : A.take k = A := List.take_of_length_le (by have := Hn.out; omega)
      rw [hAk] at hown
      clear hAk hlt hk
      have hlA : (A.filter (fun t => !P.hasN D' t.n)).length ≤ 100000 := Nat.le_trans (List.length_filter_le _ _) h1
      generalize A.filter (fun t => !P.hasN D' t.n) = lA at *
      obtain ⟨aa, ca, hva, _, _⟩ := hown.is tabCells_len
      subst hva
      obtain ⟨p0, p1, p2, p3, p4⟩ := hx5.five
      go_wp2_with (first
        | (at_builtin; (refine wpList_appTabs (by rfl) _ _ (by rfl) w4.heap.size _ lA A' (by rfl) hown (by omega) _ _ _ (by rfl) Hn'.out (RowsAt.up HA'.out hcw) hbut.size ?_); intro v8 w8 hown8 hb8 hk8; obtain ⟨ad, cc, hv', _, _⟩ := hown8.is tabCells_len; (subst hv'); have hx58 := hx5.kept (by decide) hk8; obtain ⟨q0, q1, q2, q3, q4⟩ := hx58.five; have qf0 := hx58.frozen 0; (simp only [List.length_append] at hown8);
            have hbu := (But.refl (w.heap.size + 1 + 1 + 1) w8).set 0 (.slice ad (lA.length + A'.length) cc); have hx5a := hx58.set 0 (.slice ad (lA.length + A'.length) cc); have hT1 := hown8.but hx58 (by decide) hbu; have hbut1 := (hbut.up hb8).set 0 (.slice ad (lA.length + A'.length) cc); obtain ⟨r0, r1, r2, r3, r4⟩ := (HX2.out.but hbut1 (by omega)).five; have hcw1 : Below w.heap.size w _ := Hbw.out.trans (hbut1.below (by omega) Hbw.out.size); obtain ⟨s0, s1, s2, s3, s4⟩ := hx5a.five)
        | (at_builtin; (refine wpList_appNums (by rfl) _ _ (by rfl) w4.heap.size _ [] D (by rfl) (ownR_nil _ _) (by simp; omega) _ _ _ (by rfl) Hm.out (NumsAt.below HD.out hcw1) hbut1.size ?_); intro v9 w9 hown9 hb9 hk9; obtain ⟨ad9, cc9, hv', _, _⟩ := hown9.is numCells_len; (subst hv'); (simp only [List.nil_append] at hown9); have hx59 := hx5a.kept (by decide) hk9; have hT9 := hT1.keptT hk9 (by decide); obtain ⟨u0, u1, u2, u3, u4⟩ := hx59.five; have uf1 := hx59.frozen 1))
      have hx5 : Bx (w9.setCell ⟨w.heap.size + 1 + 1 + 1, 1, none⟩ (.slice ad9 D.length cc9)) (w.heap.size + 1 + 1 + 1) 38 #[.slice ad (lA.length + A'.length) cc, .slice ad9 D.length cc9, .int .u64 0, .int .u64 0, .int .u64 0] := by simpa using hx59.set 1 (.slice ad9 D.length cc9)
      have hbu9 := (But.refl (w.heap.size + 1 + 1 + 1) w9).set 1 (.slice ad9 D.length cc9)
      have hT := hT9.but hx59 (by decide) hbu9
      have hN := hown9.but hx59 (by decide) hbu9
      have hbut := (hbut1.up hb9).set 1 (.slice ad9 D.length cc9)
      have hD0 : D = D ++ (D'.take 0).filter (fun n => !A.any (P.isN n)) := by simp
      clear hx59 hx58 hx5a hT9 hT1 hown9 hown8 hown hb8 hb9 hk8 hk9 hbut1 hcw1 u0 u1 u2 u3 u4 s0 s1 s2 s3 s4 r0 r1 r2 r3 r4 q0 q1 q2 q3 q4 qf0 uf1 x0 x1 x2 x3 x4 y0 y1 y2 y3 y4 p0 p1 p2 p3 p4 hcw hx2 hx3 hbu hbu9
      generalize hlTn : lA.length + A'.length = nT at *
      generalize w9.setCell ⟨w.heap.size + 1 + 1 + 1, 1, none⟩ (.slice ad9 D.length cc9) = w10 at *
      go_loopw [9] (fun i wr => ∃ (j : Nat) (vb : Value), j ≤ m' ∧ i = .int .i64 j ∧ Bx wr (w.heap.size + 1 + 1 + 1) 38 #[.slice ad nT cc, vb, .int .u64 0, .int .u64 0, .int .u64 0] ∧ OwnTabs wr w4.heap.size (.slice ad nT cc) (lA ++ A') ∧ OwnNums wr w4.heap.size vb (D ++ (D'.take j).filter (fun n => !A.any (P.isN n))) ∧ But (w.heap.size + 1 + 1 + 1) w4 wr) (fun i _ => m' - (intOf i).toNat)
      case atStart => exact ⟨0, _, by omega, rfl, hx5, hT, by rw [← hD0]; exact hN, hbut⟩
      case round =>
        clear hx5 hT hN hbut hD0
        obtain ⟨i, vb, hi, rfl, hx5, hT, hownN, hbut⟩ := hrel
        have hx2 := HX2.out.but hbut (by omega)
        have hx3 := HX3.out.but hbut (by omega)
        have hcw : Below w.heap.size w wr := Hbw.out.trans (hbut.below (by omega) Hbw.out.size)
        obtain ⟨x0, x1, x2, x3, x4⟩ := hx2.five
        obtain ⟨y0, y1, y2, y3, y4⟩ := hx3.five
        by_cases hlt : i < m'
        · have hltD : i < D'.length := by have := Hm'.out; omega
          obtain ⟨bb, o, rfl, hbb, c0⟩ := HD'.out i hltD
          have Hyes := Lib.hid (show A.any (P.isN D'[i]) = false → D ++ (D'.take (i + 1)).filter (fun n => !A.any (P.isN n)) = (D ++ (D'.take i).filter (fun n => !A.any (P.isN n))) ++ [D'[i]] from fun h => by rw [P.keep_yes hltD (by rw [h]; rfl), List.append_assoc])
          have Hno := Lib.hid (show A.any (P.isN D'[i]) = true → D ++ (D'.take (i + 1)).filter (fun n => !A.any (P.isN n)) = D ++ (D'.take i).filter (fun n => !A.any (P.isN n)) from fun h => by rw [P.keep_no hltD (by rw [h]; rfl)])
          have hll : (D ++ (D'.take i).filter (fun n => !A.any (P.isN n))).length ≤ 200000 := by
            rw [List.length_append]
            have := List.length_filter_le (fun n => !A.any (P.isN n)) (D'.take i)
            rw [List.length_take] at this
            omega
          generalize D ++ (D'.take i).filter (fun n => !A.any (P.isN n)) = la at *
          generalize D'[i] = q at *
          go_wp2_with fail
          clear x0 x1 x2 x3 x4 y0 y1 y2 y3 y4
          generalize wr = ws at *
          go_loopw [10, 11] (fun f i wr => ∃ j : Nat, j ≤ k ∧ i = .int .i64 j ∧ f = .bool ((A.take j).any (P.isN q)) ∧ Below ws.heap.size ws wr) (fun _ i _ => k - (intOf i).toNat)
          case atStart => exact ⟨0, by omega, rfl, rfl, Below.refl _ _⟩
          case round =>
            obtain ⟨j, hj, rfl, rfl, hbx⟩ := hrel
            have hbut := hbut.up (hbx.mono hbut.size)
            have hcw := Chain.up hcw hbx
            have hx2 := hx2.up hbx
            have hx3 := hx3.up hbx
            obtain ⟨x0, x1, x2, x3, x4⟩ := hx2.five
            obtain ⟨y0, y1, y2, y3, y4⟩ := hx3.five
            by_cases hltj : j < k
            · have hltA : j < A.length := by have := Hn.out; omega
              obtain ⟨bb', o', rfl, hbb', d0, _⟩ := tab_at (RowsAt.up HA.out hcw) j hltA
              have k0 := cell_below hcw hbb c0
              have Hnx := Lib.hid (P.came_next A q j hltA)
              have HisN := Lib.hid (show P.isN q A[j] = decide (A[j].n = q) from rfl)
              generalize (A.take j).any (P.isN q) = gv at *
              generalize A[j].n = tn at *
              clear hx5 hT hownN
              cases gv with
              | true =>
                have Hn2 := Lib.hid (show (A.take (j + 1)).any (P.isN q) = true by rw [Hnx.out]; rfl)
                go_wp2_with fail
                refine wp_region_held_drew (S := fun _ => True) (by kernel_rfl) trivial (fun hHeld => ?_)
                -- REGION 21T
                refine wpAnyH_take (i := 0) (v := ?_) rfl (by kernel_rfl) (by kernel_rfl) (by kernel_rfl) (fun _ _ _ h => h) (Or.inl ⟨by rfl, ?_⟩) trivial ?_
                rotate_left
                · intro wq hSw; go_simp; (try with_reducible rfl)
                simp only [Act.put, List.getElem_toArray, List.getElem_cons_succ, List.getElem_cons_zero, List.setIfInBounds_toArray, List.set_cons_zero, List.set_cons_succ]
                refine wpAnyH_take (i := 1) (v := ?_) rfl (by kernel_rfl) (by kernel_rfl) (by kernel_rfl) (fun _ _ _ h => h) (Or.inl ⟨by rfl, ?_⟩) trivial ?_
                rotate_left
                · intro wq hSw; go_simp; (try with_reducible rfl)
                simp only [Act.put, List.getElem_toArray, List.getElem_cons_succ, List.getElem_cons_zero, List.setIfInBounds_toArray, List.set_cons_zero, List.set_cons_succ]
                refine wpAnyH_take (i := 2) (v := undef) rfl (by kernel_rfl) (by kernel_rfl) (by kernel_rfl) (fun _ _ _ h => h) (Or.inr ⟨by rfl, rfl⟩) trivial ?_
                simp only [Act.put, List.getElem_toArray, List.getElem_cons_succ, List.getElem_cons_zero, List.setIfInBounds_toArray, List.set_cons_zero, List.set_cons_succ]
                refine wpAnyH_take (i := 3) (v := undef) rfl (by kernel_rfl) (by kernel_rfl) (by kernel_rfl) (fun _ _ _ h => h) (Or.inr ⟨by rfl, rfl⟩) trivial ?_
                simp only [Act.put, List.getElem_toArray, List.getElem_cons_succ, List.getElem_cons_zero, List.setIfInBounds_toArray, List.set_cons_zero, List.set_cons_succ]
                refine wpAnyH_take (i := 4) (v := undef) rfl (by kernel_rfl) (by kernel_rfl) (by kernel_rfl) (fun _ _ _ h => h) (Or.inr ⟨by rfl, rfl⟩) trivial ?_
                simp only [Act.put, List.getElem_toArray, List.getElem_cons_succ, List.getElem_cons_zero, List.setIfInBounds_toArray, List.set_cons_zero, List.set_cons_succ]
                refine wpAnyH_take (i := 5) (v := undef) rfl (by kernel_rfl) (by kernel_rfl) (by kernel_rfl) (fun _ _ _ h => h) (Or.inr ⟨by rfl, rfl⟩) trivial ?_
                simp only [Act.put, List.getElem_toArray, List.getElem_cons_succ, List.getElem_cons_zero, List.setIfInBounds_toArray, List.set_cons_zero, List.set_cons_succ]
                refine wpAnyH_take (i := 6) (v := undef) rfl (by kernel_rfl) (by kernel_rfl) (by kernel_rfl) (fun _ _ _ h => h) (Or.inr ⟨by rfl, rfl⟩) trivial ?_
                simp only [Act.put, List.getElem_toArray, List.getElem_cons_succ, List.getElem_cons_zero, List.setIfInBounds_toArray, List.set_cons_zero, List.set_cons_succ]
                refine wpAnyH_take (i := 7) (v := undef) rfl (by kernel_rfl) (by kernel_rfl) (by kernel_rfl) (fun _ _ _ h => h) (Or.inr ⟨by rfl, rfl⟩) trivial ?_
                simp only [Act.put, List.getElem_toArray, List.getElem_cons_succ, List.getElem_cons_zero, List.setIfInBounds_toArray, List.set_cons_zero, List.set_cons_succ]
                refine wpAnyH_take (i := 8) (v := undef) rfl (by kernel_rfl) (by kernel_rfl) (by kernel_rfl) (fun _ _ _ h => h) (Or.inr ⟨by rfl, rfl⟩) trivial ?_
                simp only [Act.put, List.getElem_toArray, List.getElem_cons_succ, List.getElem_cons_zero, List.setIfInBounds_toArray, List.set_cons_zero, List.set_cons_succ]
                refine wpAnyH_take (i := 9) (v := undef) rfl (by kernel_rfl) (by kernel_rfl) (by kernel_rfl) (fun _ _ _ h => h) (Or.inr ⟨by rfl, rfl⟩) trivial ?_
                simp only [Act.put, List.getElem_toArray, List.getElem_cons_succ, List.getElem_cons_zero, List.setIfInBounds_toArray, List.set_cons_zero, List.set_cons_succ]
                refine wpAnyH_take (i := 10) (v := undef) rfl (by kernel_rfl) (by kernel_rfl) (by kernel_rfl) (fun _ _ _ h => h) (Or.inr ⟨by rfl, rfl⟩) trivial ?_
                simp only [Act.put, List.getElem_toArray, List.getElem_cons_succ, List.getElem_cons_zero, List.setIfInBounds_toArray, List.set_cons_zero, List.set_cons_succ]
                refine wpAnyH_take (i := 11) (v := undef) rfl (by kernel_rfl) (by kernel_rfl) (by kernel_rfl) (fun _ _ _ h => h) (Or.inr ⟨by rfl, rfl⟩) trivial ?_
                simp only [Act.put, List.getElem_toArray, List.getElem_cons_succ, List.getElem_cons_zero, List.setIfInBounds_toArray, List.set_cons_zero, List.set_cons_succ]
                refine wpAnyH_take (i := 12) (v := undef) rfl (by kernel_rfl) (by kernel_rfl) (by kernel_rfl) (fun _ _ _ h => h) (Or.inr ⟨by rfl, rfl⟩) trivial ?_
                simp only [Act.put, List.getElem_toArray, List.getElem_cons_succ, List.getElem_cons_zero, List.setIfInBounds_toArray, List.set_cons_zero, List.set_cons_succ]
                refine wpAnyH_take (i := 13) (v := undef) rfl (by kernel_rfl) (by kernel_rfl) (by kernel_rfl) (fun _ _ _ h => h) (Or.inr ⟨by rfl, rfl⟩) trivial ?_
                simp only [Act.put, List.getElem_toArray, List.getElem_cons_succ, List.getElem_cons_zero, List.setIfInBounds_toArray, List.set_cons_zero, List.set_cons_succ]
                refine wpAnyH_take (i := 14) (v := ?_) rfl (by kernel_rfl) (by kernel_rfl) (by kernel_rfl) (fun _ _ _ h => h) (Or.inl ⟨by rfl, ?_⟩) trivial ?_
                rotate_left
                · intro wq hSw; go_simp; (try with_reducible rfl)
                simp only [Act.put, List.getElem_toArray, List.getElem_cons_succ, List.getElem_cons_zero, List.setIfInBounds_toArray, List.set_cons_zero, List.set_cons_succ]
                refine wpAnyH_take (i := 15) (v := ?_) rfl (by kernel_rfl) (by kernel_rfl) (by kernel_rfl) (fun _ _ _ h => h) (Or.inl ⟨by rfl, ?_⟩) trivial ?_
                rotate_left
                · intro wq hSw; go_simp; (try with_reducible rfl)
                simp only [Act.put, List.getElem_toArray, List.getElem_cons_succ, List.getElem_cons_zero, List.setIfInBounds_toArray, List.set_cons_zero, List.set_cons_succ]
                -- END REGION 21T
                refine wpAnyH_done (by kernel_rfl) ?_ _
                go_wp2_with fail
                go_roundw
                case rel => exact ⟨j + 1, by omega, by go_num, by rw [Hn2.out], hbx.drew⟩
                case measure => simp [intOf]; omega
              | false =>
                by_cases he : tn = q
                · have Hn2 := Lib.hid (show (A.take (j + 1)).any (P.isN q) = true by rw [Hnx.out, HisN.out, he]; simp)
                  subst he
                  go_wp2_with fail
                  go_quiet (fail)
                  go_wp2_with fail
                  go_roundw
                  case rel => exact ⟨j + 1, by omega, by go_num, by rw [Hn2.out], below_drewN hbx _⟩
                  case measure => simp [intOf]; omega
                · have Hn2 := Lib.hid (show (A.take (j + 1)).any (P.isN q) = false by rw [Hnx.out, HisN.out]; simp [he])
                  have he1 : ((tn : Int) == (q : Int)) = false := beq_eq_false_iff_ne.2 (by omega)
                  clear he
                  go_wp2_with fail
                  go_quiet (fail)
                  go_wp2_with fail
                  go_roundw
                  case rel => exact ⟨j + 1, by omega, by go_num, by rw [Hn2.out], below_drewN hbx _⟩
                  case measure => simp [intOf]; omega
            · obtain rfl : j = k := by omega
              have hAj : A.take j = A := List.take_of_length_le (by have := Hn.out; omega)
              rw [hAj]
              clear hAj hltj hj
              have hx5 := hx5.up hbx
              have hT := OwnR.up hT hbx
              have hownN := OwnR.up hownN hbx
              cases hr : A.any (P.isN q) with
              | true =>
                have Hnx := Lib.hid (Hno.out hr)
                clear Hyes Hno hr
                go_wp2_with fail
                go_roundw
                case rel => exact ⟨i + 1, vb, by omega, by go_num, hx5, hT, by rw [Hnx.out]; exact hownN, hbut⟩
                case measure => simp [intOf]; omega
              | false =>
                have Hnx := Lib.hid (Hyes.out hr)
                clear Hyes Hno hr
                go_wp2_with fail
                refine wp_region_held_drew (S := fun wx => But (w.heap.size + 1 + 1 + 1) w4 wx) (by kernel_rfl) hbut.drew (fun hHeld => ?_)
                -- REGION 23
                refine wpAnyH_take (i := 0) (v := ?_) rfl (by kernel_rfl) (by kernel_rfl) (by kernel_rfl) (fun _ _ _ h => h) (Or.inl ⟨by rfl, ?_⟩) hHeld ?_
                rotate_left
                · intro wq hSw; go_simp; (try with_reducible rfl)
                simp only [Act.put, List.getElem_toArray, List.getElem_cons_succ, List.getElem_cons_zero, List.setIfInBounds_toArray, List.set_cons_zero, List.set_cons_succ]
                refine wpAnyH_take (i := 2) (v := ?_) rfl (by kernel_rfl) (by kernel_rfl) (by kernel_rfl) (fun _ _ _ h => h) (Or.inl ⟨by rfl, ?_⟩) hHeld ?_
                rotate_left
                · intro wq hSw; go_simp; (try with_reducible rfl)
                simp only [Act.put, List.getElem_toArray, List.getElem_cons_succ, List.getElem_cons_zero, List.setIfInBounds_toArray, List.set_cons_zero, List.set_cons_succ]
                refine wpAnyH_take (i := 3) (v := ?_) rfl (by kernel_rfl) (by kernel_rfl) (by kernel_rfl) (fun _ _ _ h => h) (Or.inl ⟨by rfl, ?_⟩) hHeld ?_
                rotate_left
                · intro wq hSw; obtain ⟨qa, qb, qc, qd, qe⟩ := Bx.five (HX3.out.but hSw (by omega)); go_simp; (try with_reducible rfl)
                simp only [Act.put, List.getElem_toArray, List.getElem_cons_succ, List.getElem_cons_zero, List.setIfInBounds_toArray, List.set_cons_zero, List.set_cons_succ]
                refine wpAnyH_take (i := 4) (v := ?_) rfl (by kernel_rfl) (by kernel_rfl) (by kernel_rfl) (fun _ _ _ h => h) (Or.inl ⟨by rfl, ?_⟩) hHeld ?_
                rotate_left
                · intro wq hSw; go_simp; (try with_reducible rfl)
                simp only [Act.put, List.getElem_toArray, List.getElem_cons_succ, List.getElem_cons_zero, List.setIfInBounds_toArray, List.set_cons_zero, List.set_cons_succ]
                refine wpAnyH_take (i := 5) (v := ?_) rfl (by kernel_rfl) (by kernel_rfl) (by kernel_rfl) (fun _ _ _ h => h) (Or.inl ⟨by rfl, ?_⟩) hHeld ?_
                rotate_left
                · intro wq hSw; go_simp; (try with_reducible rfl)
                simp only [Act.put, List.getElem_toArray, List.getElem_cons_succ, List.getElem_cons_zero, List.setIfInBounds_toArray, List.set_cons_zero, List.set_cons_succ]
                refine wpAnyH_take (i := 6) (v := ?_) rfl (by kernel_rfl) (by kernel_rfl) (by kernel_rfl) (fun _ _ _ h => h) (Or.inl ⟨by rfl, ?_⟩) hHeld ?_
                rotate_left
                · intro wq hSw; have hcx := Hbw.out.trans (hSw.below (by omega) Hbw.out.size); have k0 := cell_below hcx hbb c0; go_simp; (try with_reducible rfl)
                simp only [Act.put, List.getElem_toArray, List.getElem_cons_succ, List.getElem_cons_zero, List.setIfInBounds_toArray, List.set_cons_zero, List.set_cons_succ]
                refine wpAnyH_by2 (twoN wr.heap.size vb #[V64 q]) (fun wx => Below wr.heap.size wr wx) (fun wx wy => Below wx.heap.size wx wy) [(1, some 97), (7, some 103)] 3 (fun wx hx => hbut.up (hx.mono hbut.size)) rfl (by kernel_rfl) (by kernel_rfl) (by kernel_rfl) (by kernel_rfl) (by kernel_rfl) (by kernel_rfl) (by kernel_rfl) (twoN_up wr.heap.size vb _) (Below.refl _ _).drew ?_ ?_
                · skip
                  refine StepsI.skip (by kernel_rfl) ?_
                  refine StepsI.cons (fun vals wx hS hd K hK => ?_) ?_
                  · simp only [fillA, Act.put, List.setIfInBounds_toArray, List.set_cons_zero, List.set_cons_succ] at hK ⊢
                    obtain ⟨qa, qb, qc, qd, qe⟩ := Bx.five (hx5.up hS)
                    go_simp
                    exact hK.out _ _ rfl hS (Below.refl _ _)
                  refine StepsI.skip (by kernel_rfl) ?_
                  refine StepsI.skip (by kernel_rfl) ?_
                  refine StepsI.skip (by kernel_rfl) ?_
                  refine StepsI.skip (by kernel_rfl) ?_
                  refine StepsI.skip (by kernel_rfl) ?_
                  refine StepsI.cons (fun vals wx hS hd K hK => ?_) ?_
                  · simp only [fillA, Act.put, List.setIfInBounds_toArray, List.set_cons_zero, List.set_cons_succ] at hK ⊢
                    go_simp
                    exact hK.out _ _ ⟨_, rfl, hS.size, Bx.fresh _ _ _⟩ (hS.alloc hS.size _) ((Below.refl _ _).alloc (Nat.le_refl _) _)
                  refine StepsI.skip (by kernel_rfl) ?_
                  refine StepsI.skip (by kernel_rfl) ?_
                  refine StepsI.skip (by kernel_rfl) ?_
                  exact StepsI.nil
                · intro vals wx hS hR
                  have h1v : vals 1 = vb := hR (1, some 97) (by decide)
                  obtain ⟨g, hg, hgB, hbt⟩ : ∃ g, vals 7 = .slice (some ⟨g, 0, none⟩) 1 1 ∧ wr.heap.size ≤ g ∧ Bx wx g 27 #[V64 q] := hR (7, some 103) (by decide)
                  simp only [fillA, Act.put, List.setIfInBounds_toArray, List.set_cons_zero, List.set_cons_succ, h1v, hg]
                  clear hR hg h1v vals
                  have hbut1 := hbut.up (hS.mono hbut.size)
                  refine wpAnyH_one (i := 8) (by kernel_rfl) rfl (fun K hK => ?_)
                  simp only [List.getElem_toArray, List.getElem_cons_succ, List.getElem_cons_zero]
                  rw [if_pos (by rfl)]
                  refine wp_appNums _ _ (by rfl) w4.heap.size vb la [q] (by rfl) (OwnR.up hownN hS) (by simp; omega) _ _ _ (by rfl) (by rfl) (rows_box numCells_len _ hbt (by rfl)) (Nat.le_trans hbut.size hS.size) ?_
                  intro v8 w8 hown8 hb8 hk8
                  obtain ⟨ad8, cc8, hv8, _, _⟩ := hown8.is numCells_len
                  subst hv8
                  have hbut8 := hbut1.up hb8
                  refine hK.out _ _ hbut8 ?_
                  simp only [Act.put, List.getElem_toArray, List.getElem_cons_succ, List.getElem_cons_zero, List.setIfInBounds_toArray, List.set_cons_zero, List.set_cons_succ]
                  clear hK K
                  have hx58 := (hx5.up hS).kept (by decide) hk8
                  obtain ⟨p0, p1, p2, p3, p4⟩ := hx58.five
                  have pf0 := hx58.frozen 1
                  rw [List.length_append, List.length_singleton] at hown8 ⊢
                  refine wpAnyH_take (i := 9) (v := ?_) rfl (by kernel_rfl) (by kernel_rfl) (by kernel_rfl) (fun _ _ _ h => h) (Or.inl ⟨by rfl, ?_⟩) hbut8 ?_
                  rotate_left
                  · intro wq hSw; go_simp; (try with_reducible rfl)
                  simp only [Act.put, List.getElem_toArray, List.getElem_cons_succ, List.getElem_cons_zero, List.setIfInBounds_toArray, List.set_cons_zero, List.set_cons_succ]
                  refine wpAnyH_one (i := 10) (by kernel_rfl) rfl (fun K hK => ?_)
                  simp only [List.getElem_toArray, List.getElem_cons_succ, List.getElem_cons_zero]
                  go_simp
                  refine hK.out _ _ (hbut8.set 1 _) ?_
                  clear hK K
                  refine wpAnyH_done (by kernel_rfl) ?_ _
                  go_wp2_with fail
                -- END REGION 23
                  go_roundw
                  case rel =>
                    have hbu := (But.refl (w.heap.size + 1 + 1 + 1) w8).set 1 (.slice ad8 (la.length + 1) cc8)
                    exact ⟨i + 1, .slice ad8 (la.length + 1) cc8, by omega, by go_num, by simpa using hx58.set 1 (.slice ad8 (la.length + 1) cc8), ((OwnR.up hT hS).keptT hk8 (by decide)).but hx58 (by decide) hbu, by rw [Hnx.out]; exact hown8.but hx58 (by decide) hbu, hbut8.set 1 _⟩
                  case measure => simp [intOf]; omega
        · obtain rfl : i = m' := by omega
          clear hlt hi
          have hDj : D'.take i = D' := List.take_of_length_le (by have := Hm'.out; omega)
          rw [hDj] at hownN
          clear hDj
          generalize D ++ D'.filter (fun n => !A.any (P.isN n)) = lD at *
          obtain ⟨ab, cb, hvb, _, _⟩ := hownN.is numCells_len
          subst hvb
          generalize hlDn : lD.length = nD at *
          obtain ⟨p0, p1, p2, p3, p4⟩ := hx5.five
          have pf2 := hx5.frozen 2
          have HlT := Lib.hid hlTn
          clear hlTn
          have hm1 := fun wx => HM.out lo lo' _ wx rfl
          have hm2 := fun wx => HM.out se se' _ wx rfl
          have hm3 := fun wx => HM.out ne ne' _ wx rfl
          have HM1 := Lib.hid hm1
          have HM2 := Lib.hid hm2
          have HM3 := Lib.hid hm3
          clear hm1 hm2 hm3
          generalize P.maxN lo lo' = lz at *
          generalize P.maxN se se' = sz at *
          generalize P.maxN ne ne' = nz at *
          go_wp2_with (first
            | (go_at_call 58; (with_reducible refine (HM1.out _).mono ?_); rintro e wq ⟨rfl, rfl⟩; have hx5b := hx5.set 2 (V64 lz); have hb24 := hbut.set 2 (V64 lz); obtain ⟨r0, r1, r2, r3, r4⟩ := (HX2.out.but hb24 (by omega)).five; obtain ⟨s0, s1, s2, s3, s4⟩ := (HX3.out.but hb24 (by omega)).five; obtain ⟨t0, t1, t2, t3, t4⟩ := hx5b.five; have tf := hx5b.frozen 3)
            | (go_at_call 58; (with_reducible refine (HM2.out _).mono ?_); rintro e wq ⟨rfl, rfl⟩; have hx5c := hx5b.set 3 (V64 sz); have hb25 := hb24.set 3 (V64 sz); obtain ⟨v0, v1, v2, v3, v4⟩ := (HX2.out.but hb25 (by omega)).five; obtain ⟨i0, i1, i2, i3, i4⟩ := (HX3.out.but hb25 (by omega)).five; obtain ⟨j0, j1, j2, j3, j4⟩ := hx5c.five; have jf := hx5c.frozen 4)
            | (go_at_call 58; (with_reducible refine (HM3.out _).mono ?_); rintro e wq ⟨rfl, rfl⟩; have hx5d := hx5c.set 4 (V64 nz); have hb26 := hb25.set 4 (V64 nz); have hx4 := HX4.out.but hb26 (by omega); obtain ⟨l0, l1, l2, l3, l4⟩ := hx5d.five; obtain ⟨g0, g1, g2, g3, g4⟩ := hx4.five; have gf0 := hx4.frozen 0; have gf1 := hx4.frozen 1; have gf2 := hx4.frozen 2; have gf3 := hx4.frozen 3; have gf4 := hx4.frozen 4))
          have hbu := (((But.refl (w.heap.size + 1 + 1 + 1) wr).set 2 (V64 lz)).set 3 (V64 sz)).set 4 (V64 nz)
          have hlt2 : w.heap.size + 1 + 1 < w4.heap.size := HX4.out.lt
          have hB : w.heap.size ≤ w4.heap.size := Hbw.out.size
          have hT9 := (((((hT.but hx5 (by decide) hbu).other hlt2 0 (.slice ad nT cc)).other hlt2 1 (.slice ab nD cb)).other hlt2 2 (V64 lz)).other hlt2 3 (V64 sz)).other hlt2 4 (V64 nz)
          have hN9 := (((((hownN.but hx5 (by decide) hbu).other hlt2 0 (.slice ad nT cc)).other hlt2 1 (.slice ab nD cb)).other hlt2 2 (V64 lz)).other hlt2 3 (V64 sz)).other hlt2 4 (V64 nz)
          obtain ⟨q0, q1, q2, q3, q4⟩ := (hx4.set5 (.slice ad nT cc) (.slice ab nD cb) (V64 lz) (V64 sz) (V64 nz)).five
          exact bodyPost_ret (v := edV ad nT cc ab nD cb lz sz nz) (by simp [results, Try.results46, go_sem, q0, q1, q2, q3, q4]) rfl
            ⟨_, _, by rw [HJ.out], by rw [HJ.out]; exact hT9.low hB, by rw [HJ.out]; exact hN9.low hB, below_set5 (Hbw.out.trans (hb26.below (by omega) Hbw.out.size)) (show w.heap.size ≤ w.heap.size + 1 + 1 by omega) _ _ _ _ _⟩
end Go.Proofs.Ythpgigjplknomaa
