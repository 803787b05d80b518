/- The walk of the document's takeCrash (script). -/
import Derived.Test.YtnflbgindcejjaaDoorWSRefT
namespace Go.Proofs.YtnflbgindcejjaaDoor
open Go.RowKit
set_option linter.unusedVariables false
set_option linter.unusedSimpArgs false
attribute [local go_sem] str_dropS str_takeS str_at

theorem P.rdC_at {s : List UInt8} {p : Nat} (h : p < s.length) : P.rdC (s.drop p) = some (P.at_ s p, s.drop (p + 1)) := by
  rw [List.drop_eq_getElem_cons h]
  show some (s[p].toNat, s.drop (p + 1)) = _
  unfold P.at_
  rw [List.getD_eq_getElem?_getD, List.getElem?_eq_getElem h]
  rfl
theorem wrap_at (s : List UInt8) (p : Nat) : wrap64 ((P.at_ s p : Nat) : Int) = ((P.at_ s p : Nat) : Int) := by
  have := P.at_lt s p
  rw [← i64_wrap64, IntWalk.i64_in _ (by omega)]
theorem wrap_next (n : Nat) (h : n ≤ 1000000) : wrap64 ((n : Int) + 1) = ((n + 1 : Nat) : Int) := by
  rw [← i64_wrap64, IntWalk.i64_in _ (by omega)]
  omega
theorem wrap_four (n : Nat) (h : n ≤ 1000000) : wrap64 ((n : Int) + 4) = (n : Int) + 4 := by
  rw [← i64_wrap64, IntWalk.i64_in _ (by omega)]
theorem i64_next (n : Nat) (h : n ≤ 1000000) : IntKind.i64.wrap ((n : Int) + 1) = ((n + 1 : Nat) : Int) := by
  rw [IntWalk.i64_in _ (by omega)]
  omega
theorem P.rdC_end {s : List UInt8} {p : Nat} (h : s.length ≤ p) : P.rdC (s.drop p) = none := by
  rw [List.drop_eq_nil_of_le h]
  rfl
def P.addK {α : Type} (l : List α) : Option (List α × List UInt8) → Option (List α × List UInt8)
  | none => none
  | some (m, u) => some (l ++ m, u)
theorem P.addK_addK {α : Type} (l m : List α) (r : Option (List α × List UInt8)) : P.addK l (P.addK m r) = P.addK (l ++ m) r := by
  cases r with
  | none => rfl
  | some p => simp [P.addK]
theorem P.addK_nil {α : Type} (r : Option (List α × List UInt8)) : P.addK [] r = r := by
  cases r with
  | none => rfl
  | some p => rfl
theorem P.rdKeep_no {k : Nat} {s : List UInt8} (h : P.rdS s = none) : P.rdKeep (k + 1) s = none := by
  unfold P.rdKeep; rw [h]
theorem P.rdKeep_go {k n : Nat} {s t : List UInt8} (h : P.rdS s = some (n, t)) : P.rdKeep (k + 1) s = P.addK [(n : Int)] (P.rdKeep k t) := by
  show (match P.rdS s with | none => none | some (n, t) => match P.rdKeep k t with | none => none | some (l, u) => some ((n : Int) :: l, u)) = _
  rw [h]
  simp only
  cases P.rdKeep k t <;> rfl
theorem P.rdSpoil_no {k : Nat} {s : List UInt8} (h : P.rdSpot s = none) : P.rdSpoil (k + 1) s = none := by
  unfold P.rdSpoil; rw [h]
theorem P.rdSpoil_go {k : Nat} {x : Int × Nat} {s t : List UInt8} (h : P.rdSpot s = some (x, t)) : P.rdSpoil (k + 1) s = P.addK [x] (P.rdSpoil k t) := by
  show (match P.rdSpot s with | none => none | some (x, t) => match P.rdSpoil k t with | none => none | some (l, u) => some (x :: l, u)) = _
  rw [h]
  simp only
  cases P.rdSpoil k t <;> rfl
theorem P.rdSpot_no {s : List UInt8} (h : P.rdS s = none) : P.rdSpot s = none := by
  unfold P.rdSpot; rw [h]
theorem P.rdSpot_short {s : List UInt8} {n p : Nat} (h : P.rdS s = some (n, s.drop p)) (hs : (s.drop p).length < 4) : P.rdSpot s = none := by
  unfold P.rdSpot
  rw [h]
  simp only
  unfold P.rdP
  rw [if_neg (by omega)]
theorem P.rdSpot_go {s t : List UInt8} {n : Nat} (h : P.rdS s = some (n, t)) (hs : 4 ≤ t.length) : P.rdSpot s = some (((n : Int), P.bigNum t 4), t.drop 4) := by
  unfold P.rdSpot
  rw [h]
  simp only
  unfold P.rdP
  rw [if_pos hs]
  simp only
  have h4 : (t.take 4).length = 4 := by rw [List.length_take]; omega
  rw [← P.bigNum_four h4]
  have he : P.bigNum (t.take 4) 4 = P.bigNum t 4 := by
    unfold P.bigNum P.bigOk
    simp only [List.length_take, List.take_take]
    have e1 : (decide (1 ≤ (4 : Int) ∧ (4 : Int) ≤ 8 ∧ (4 : Int) ≤ ((min 4 t.length : Nat) : Int))) = decide (1 ≤ (4 : Int) ∧ (4 : Int) ≤ 8 ∧ (4 : Int) ≤ (t.length : Int)) := by
      rw [decide_eq_true (by omega), decide_eq_true (by omega)]
    first
      | rw [e1]; rfl
      | simp [e1]; omega
      | (split <;> split <;> first | rfl | omega)
  rw [he]
theorem wpList_pushInt {ops : Array Oper} {rest : List Oper} {o : Oper} {a : Act} {w : World} {Q : Exit → Act → World → Prop} (hgd : o.guard = none) (s x : Operand)
    (ho : o.op = .call { callee := .builtin .append, args := #[s, x], argTypes := #[23, 23] }) (B : Nat) (v : Value) (l : List Int) (c : Int) (hs : a.eval s = v) (hown : OwnInts w B v l) (hl : l.length < 100000)
    (g : Nat) (A : Array Value) (f : Nat × Nat) (hg : w.heap[g]? = some (.cells A 3 f)) (hA : A = (intCell c).toArray) (hx : a.eval x = .slice (some ⟨g, 0, none⟩) 1 1) (hB : B ≤ w.heap.size)
    (h : ∀ v' w', OwnInts w' B v' (l ++ [c]) → Below B w w' → KeptT 3 w w' → wpList Tryd.prog ops Q rest (a.put o.dst v') w') :
    wpList Tryd.prog ops Q (o :: rest) a w := by
  obtain ⟨i, hq, h1, h2, h3⟩ := info_parts infoInt
  exact wpList_pushR2 hgd s x 23 ho i _ 8 Tryd.underlying23 hq h1 h2 h3 rfl (by decide) intCell_len intCell_one c hs hown hl (by decide) g A f hg hA hx hB h

/-- What takeCrash gives. -/
def TakeDid (s : List UInt8) (p : Nat) (w : World) (e : Ending) (w' : World) : Prop :=
  ((P.rdCrash (s.drop p) = none ∧ ∃ n a k kc b m mc, e = .returned (.tuple #[crV n a k kc b m mc, .int .i64 (-1)])) ∨
    ∃ (c : P.Cr) (q : Nat) (a b : Option Addr) (kc mc : Nat), P.rdCrash (s.drop p) = some (c, s.drop q) ∧ p ≤ q ∧ q ≤ s.length ∧ e = .returned (.tuple #[crV c.names a c.keep.length kc b c.spoil.length mc, .int .i64 q]) ∧
      OwnInts w' w.heap.size (.slice a c.keep.length kc) c.keep ∧ OwnSpots w' w.heap.size (.slice b c.spoil.length mc) c.spoil) ∧ Below w.heap.size w w'
set_option maxRecDepth 100000 in
set_option maxHeartbeats 16000000 in
theorem takeCrash_any (s : List UInt8) (p : Nat) (hp : p ≤ s.length) (hs : s.length ≤ 1000000) (w : World) :
    Calls Tryd.prog 46 #[S s, .int .i64 p] w (TakeDid s p w) := by
  have HS := Lib.hid hs
  have HI := Lib.hid (fun (p : Nat) (hp : p ≤ s.length) wx => int31_any s p hp hs wx)
  have hr0 := (Bx.fresh w 29 #[.int .i64 0, .slice none 0 0, .slice none 0 0]).up ((Below.refl _ _).alloc (Nat.le_refl _) (.cells #[.int .i64 0, .slice none 0 0, .slice none 0 0] 29))
  have hx0 := Bx.fresh (w.alloc (.cells #[.int .i64 0, .slice none 0 0, .slice none 0 0] 29)) 29 #[.int .i64 0, .slice none 0 0, .slice none 0 0]
  have hb0 : Below w.heap.size w ((w.alloc (.cells #[.int .i64 0, .slice none 0 0, .slice none 0 0] 29)).alloc (.cells #[.int .i64 0, .slice none 0 0, .slice none 0 0] 29)) := ((Below.refl _ _).alloc (Nat.le_refl _) _).alloc (by simp) _
  rw [World.size_alloc] at hx0
  go_enter Tryd.func46, Tryd.ntmps46
  go_wp2_with fail
  go_at_call 56
  (with_reducible refine (HI.out p hp _).mono ?_)
  rintro e w1 ⟨hcase, hb1⟩
  have hr1 := hr0.up hb1
  have hx1 := hx0.up hb1
  have hbb1 := Chain.up hb0 hb1
  have hsz1 : w.heap.size + 1 + 1 ≤ w1.heap.size := by have := hb1.size; simp at this; omega
  clear hr0 hx0 hb0 hb1
  obtain ⟨rq0, rq1, rq2, rf0, rf1, rf2⟩ := hr1.three
  obtain ⟨xq0, xq1, xq2, xf0, xf1, xf2⟩ := hx1.three
  rcases hcase with ⟨hno, rfl⟩ | ⟨nm, q1, hyes, hq1, hq1s, hnm, rfl⟩
  · have hfin : P.rdCrash (s.drop p) = none := by unfold P.rdCrash; rw [hno]
    have hx2 : Bx (w1.setCell ⟨w.heap.size + 1, 0, none⟩ (.int .i64 0)) (w.heap.size + 1) 29 #[.int .i64 0, .slice none 0 0, .slice none 0 0] := hx1.set 0 _
    have hr2 := hr1.other (g' := w.heap.size + 1) (by omega) 0 (.int .i64 0)
    have hbb2 : Below w.heap.size w (w1.setCell ⟨w.heap.size + 1, 0, none⟩ (.int .i64 0)) := hbb1.setCell (p := ⟨w.heap.size + 1, 0, none⟩) (Nat.le_succ _) _
    obtain ⟨_, _, _, _, _, _⟩ := hr2.three
    obtain ⟨_, _, _, _, _, _⟩ := hx2.three
    go_wp2_with fail
    have fR := hr2.set3 (.int .i64 0) (.slice none 0 0) (.slice none 0 0)
    have fB : Below w.heap.size w ((((w1.setCell ⟨w.heap.size + 1, 0, none⟩ (.int .i64 0)).setCell ⟨w.heap.size, 0, none⟩ (.int .i64 0)).setCell ⟨w.heap.size, 1, none⟩ (.slice none 0 0)).setCell ⟨w.heap.size, 2, none⟩ (.slice none 0 0)) := (((hbb2).setCell (p := ⟨w.heap.size, 0, none⟩) (Nat.le_refl _) _).setCell (p := ⟨w.heap.size, 1, none⟩) (Nat.le_refl _) _).setCell (p := ⟨w.heap.size, 2, none⟩) (Nat.le_refl _) _
    generalize ((((w1.setCell ⟨w.heap.size + 1, 0, none⟩ (.int .i64 0)).setCell ⟨w.heap.size, 0, none⟩ (.int .i64 0)).setCell ⟨w.heap.size, 1, none⟩ (.slice none 0 0)).setCell ⟨w.heap.size, 2, none⟩ (.slice none 0 0)) = w99 at fR fB ⊢
    obtain ⟨y0, y1, y2, _, _, _⟩ := fR.three
    exact bodyPost_ret (v := .tuple #[crV 0 none 0 0 none 0 0, .int .i64 (-1)]) (by simp [results, Tryd.results46, go_sem, y0, y1, y2]) rfl ⟨.inl ⟨hfin, _, _, _, _, _, _, _, rfl⟩, fB⟩
  have Hyes := Lib.hid hyes
  clear hyes
  have hx2 : Bx (w1.setCell ⟨w.heap.size + 1, 0, none⟩ (.int .i64 nm)) (w.heap.size + 1) 29 #[.int .i64 nm, .slice none 0 0, .slice none 0 0] := hx1.set 0 _
  have hr2 := hr1.other (g' := w.heap.size + 1) (by omega) 0 (.int .i64 nm)
  have hbb2 : Below w.heap.size w (w1.setCell ⟨w.heap.size + 1, 0, none⟩ (.int .i64 nm)) := hbb1.setCell (p := ⟨w.heap.size + 1, 0, none⟩) (Nat.le_succ _) _
  have hsz2 : w.heap.size + 1 + 1 ≤ (w1.setCell ⟨w.heap.size + 1, 0, none⟩ (.int .i64 nm)).heap.size := by simpa [World.setCell] using hsz1
  clear hr1 hx1 hbb1 hsz1
  obtain ⟨a0, a1, a2, a3, a4, a5⟩ := hr2.three
  obtain ⟨b0, b1, b2, b3, b4, b5⟩ := hx2.three
  have hq0 : decide ((q1 : Int) < 0) = false := decide_eq_false (by omega)
  by_cases hq1l : q1 < s.length
  case neg =>
    have hge : (s.length : Int) ≤ (q1 : Int) := by omega
    have hfin : P.rdCrash (s.drop p) = none := by unfold P.rdCrash; rw [Hyes.out]; simp only; rw [P.rdC_end (by omega)]
    go_wp2_with fail
    have fR := hr2.set3 (.int .i64 nm) (.slice none 0 0) (.slice none 0 0)
    have fB : Below w.heap.size w ((((w1.setCell ⟨w.heap.size + 1, 0, none⟩ (.int .i64 nm)).setCell ⟨w.heap.size, 0, none⟩ (.int .i64 nm)).setCell ⟨w.heap.size, 1, none⟩ (.slice none 0 0)).setCell ⟨w.heap.size, 2, none⟩ (.slice none 0 0)) := (((hbb2).setCell (p := ⟨w.heap.size, 0, none⟩) (Nat.le_refl _) _).setCell (p := ⟨w.heap.size, 1, none⟩) (Nat.le_refl _) _).setCell (p := ⟨w.heap.size, 2, none⟩) (Nat.le_refl _) _
    generalize ((((w1.setCell ⟨w.heap.size + 1, 0, none⟩ (.int .i64 nm)).setCell ⟨w.heap.size, 0, none⟩ (.int .i64 nm)).setCell ⟨w.heap.size, 1, none⟩ (.slice none 0 0)).setCell ⟨w.heap.size, 2, none⟩ (.slice none 0 0)) = w99 at fR fB ⊢
    obtain ⟨y0, y1, y2, _, _, _⟩ := fR.three
    exact bodyPost_ret (v := .tuple #[crV nm none 0 0 none 0 0, .int .i64 (-1)]) (by simp [results, Tryd.results46, go_sem, y0, y1, y2]) rfl ⟨.inl ⟨hfin, _, _, _, _, _, _, _, rfl⟩, fB⟩
  have hlt0 : decide (s.length ≤ q1) = false := decide_eq_false (by omega)
  have hk255 := P.at_lt s q1
  have hwk : wrap64 ((P.at_ s q1 : Nat) : Int) = ((P.at_ s q1 : Nat) : Int) := wrap_at s q1
  have hwq : wrap64 ((q1 : Int) + 1) = ((q1 + 1 : Nat) : Int) := wrap_next q1 (Nat.le_trans hq1s HS.out)
  have HC1 := Lib.hid (P.rdC_at hq1l)
  generalize hk0 : P.at_ s q1 = k at *
  go_wp2_with fail
  clear hk0 hwk hwq
  go_loopw [9, 7, 1] (fun z y x wr => ∃ (i : Nat) (u : Value) (l : List Int) (pp : Nat) (yy : Int), z = .int .i64 i ∧ y = .int .i64 yy ∧ x = .int .i64 pp ∧ i ≤ k ∧ q1 + 1 ≤ pp ∧ pp ≤ s.length ∧ l.length = i ∧ P.rdKeep k (s.drop (q1 + 1)) = P.addK l (P.rdKeep (k - i) (s.drop pp)) ∧ OwnInts wr (w.heap.size + 1 + 1) u l ∧
      Bx wr w.heap.size 29 #[.int .i64 0, .slice none 0 0, .slice none 0 0] ∧ Bx wr (w.heap.size + 1) 29 #[.int .i64 nm, u, .slice none 0 0] ∧ w.heap.size + 1 + 1 ≤ wr.heap.size ∧ Below w.heap.size w wr) (fun z _ _ _ => k - (intOf z).toNat)
  case atStart => exact ⟨0, _, [], q1 + 1, 0, rfl, rfl, by go_num, Nat.zero_le _, Nat.le_refl _, by omega, rfl, (P.addK_nil _).symm, ownR_nil _ _, hr2, hx2, hsz2, hbb2⟩
  case round =>
    clear hr2 hx2 hsz2 hbb2 rq0 rq1 rq2 rf0 rf1 rf2 xq0 xq1 xq2 xf0 xf1 xf2 a0 a1 a2 a3 a4 a5 b0 b1 b2 b3 b4 b5
    obtain ⟨i, u, l, pp, yy, rfl, rfl, rfl, hik, hpp, hps, hll, hkeep, hown, hr, hx, hsz, hb⟩ := hrel
    have Hkeep := Lib.hid hkeep
    have Hll := Lib.hid hll
    clear hkeep hll
    obtain ⟨a, kc, rfl, _, _⟩ := hown.is intCell_len
    obtain ⟨a0, a1, a2, a3, a4, a5⟩ := hr.three
    obtain ⟨b0, b1, b2, b3, b4, b5⟩ := hx.three
    have hl100 : l.length < 100000 := by have := Hll.out; omega
    by_cases hlt : i < k
    · have hki : k - i = (k - (i + 1)) + 1 := by omega
      go_wp2_with fail
      go_at_call 56
      (with_reducible refine (HI.out pp hps _).mono ?_)
      rintro e w5 ⟨hcase, hb5⟩
      have hr5 := hr.up hb5
      have hx5 := hx.up hb5
      have ho5 := OwnR.up hown hb5
      have hbb5 := Chain.up hb hb5
      have hsz5 := Nat.le_trans hsz hb5.size
      clear hr hx hown hb hb5 hsz
      obtain ⟨_, _, _, _, _, _⟩ := hr5.three
      obtain ⟨_, _, _, _, _, _⟩ := hx5.three
      rcases hcase with ⟨hno, rfl⟩ | ⟨n, q2, hyes, hq2, hq2s, hn31, rfl⟩
      · have hfin : P.rdCrash (s.drop p) = none := by unfold P.rdCrash; rw [Hyes.out]; simp only; rw [HC1.out]; simp only; rw [Hkeep.out, hki, P.rdKeep_no hno]; rfl
        go_wp2_with fail
        have fR := hr5.set3 (.int .i64 nm) (.slice a l.length kc) (.slice none 0 0)
        have fB : Below w.heap.size w (((w5.setCell ⟨w.heap.size, 0, none⟩ (.int .i64 nm)).setCell ⟨w.heap.size, 1, none⟩ (.slice a l.length kc)).setCell ⟨w.heap.size, 2, none⟩ (.slice none 0 0)) := (((hbb5).setCell (p := ⟨w.heap.size, 0, none⟩) (Nat.le_refl _) _).setCell (p := ⟨w.heap.size, 1, none⟩) (Nat.le_refl _) _).setCell (p := ⟨w.heap.size, 2, none⟩) (Nat.le_refl _) _
        generalize (((w5.setCell ⟨w.heap.size, 0, none⟩ (.int .i64 nm)).setCell ⟨w.heap.size, 1, none⟩ (.slice a l.length kc)).setCell ⟨w.heap.size, 2, none⟩ (.slice none 0 0)) = w99 at fR fB ⊢
        obtain ⟨y0, y1, y2, _, _, _⟩ := fR.three
        exact bodyPost_ret (v := .tuple #[crV nm a l.length kc none 0 0, .int .i64 (-1)]) (by simp [results, Tryd.results46, go_sem, y0, y1, y2]) rfl ⟨.inl ⟨hfin, _, _, _, _, _, _, _, rfl⟩, fB⟩
      · have Hnx := Lib.hid (show P.rdKeep k (s.drop (q1 + 1)) = P.addK (l ++ [(n : Int)]) (P.rdKeep (k - (i + 1)) (s.drop q2)) by rw [Hkeep.out, hki, P.rdKeep_go hyes, P.addK_addK])
        have hq2n : decide ((q2 : Int) < 0) = false := decide_eq_false (by omega)
        clear hyes
        have hwi : IntKind.i64.wrap ((i : Int) + 1) = ((i + 1 : Nat) : Int) := i64_next i (Nat.le_trans hik (by omega))
        have hA := (Below.refl w5.heap.size w5).alloc (Nat.le_refl _) (.cells #[.int .i64 (n : Int)] 3)
        go_wp2_with (at_builtin; (refine wpList_pushInt (by rfl) _ _ (by rfl) (w.heap.size + 1 + 1) _ l (n : Int) (by rfl) (OwnR.alloc ho5 _) hl100 w5.heap.size _ (0, 0) (heap_alloc_new _ _) (by rfl) (by rfl) ?_ ?_; (case refine_1 => exact Nat.le_trans hsz5 hA.size); intro v' w10 hown10 hb10 hkt10; obtain ⟨ad, cc, hv', _, _⟩ := hown10.is intCell_len; (subst hv'); have hlen : (l ++ [(n : Int)]).length = i + 1 := (by simp [Hll.out]); (rw [hlen] at hown10); have hr10 := (hr5.up hA).below hb10 (by omega); have hx10 := (hx5.up hA).below hb10 (by omega); have hs10 := Nat.le_trans (Nat.le_trans hsz5 hA.size) hb10.size; have hbb10 := (hbb5.trans (hA.mono hbb5.size)).trans (hb10.mono (by omega)); obtain ⟨g0, g1, g2, gf0, gf1, gf2⟩ := hx10.three))
        go_roundw
        case rel =>
          exact ⟨i + 1, .slice ad (i + 1) cc, l ++ [(n : Int)], q2, (n : Int), by go_num, rfl, by go_num, by omega, by omega, hq2s, hlen, Hnx.out, hown10.other (Nat.lt_succ_self _) 1 _, hr10.other (by omega) 1 _, by simpa using hx10.set 1 (.slice ad (i + 1) cc), by simpa [World.setCell] using hs10, hbb10.setCell (p := ⟨w.heap.size + 1, 1, none⟩) (Nat.le_succ _) _⟩
        case measure => simp [intOf]; omega
    · obtain rfl : i = k := by omega
      rw [Nat.sub_self] at Hkeep
      have Hkeep := Lib.hid (show P.rdKeep i (s.drop (q1 + 1)) = some (l, s.drop pp) by rw [Hkeep.out]; show some (l ++ [], s.drop pp) = _; rw [List.append_nil])
      have hge2 : ¬ ((i : Int) < (i : Int)) := by omega
      by_cases hppl : pp < s.length
      case neg =>
        have hge : (s.length : Int) ≤ (pp : Int) := by omega
        have hfin : P.rdCrash (s.drop p) = none := by unfold P.rdCrash; rw [Hyes.out]; simp only; rw [HC1.out]; simp only; rw [Hkeep.out]; simp only; rw [P.rdC_end (by omega)]
        go_wp2_with fail
        have fR := hr.set3 (.int .i64 nm) (.slice a l.length kc) (.slice none 0 0)
        have fB : Below w.heap.size w (((wr.setCell ⟨w.heap.size, 0, none⟩ (.int .i64 nm)).setCell ⟨w.heap.size, 1, none⟩ (.slice a l.length kc)).setCell ⟨w.heap.size, 2, none⟩ (.slice none 0 0)) := (((hb).setCell (p := ⟨w.heap.size, 0, none⟩) (Nat.le_refl _) _).setCell (p := ⟨w.heap.size, 1, none⟩) (Nat.le_refl _) _).setCell (p := ⟨w.heap.size, 2, none⟩) (Nat.le_refl _) _
        generalize (((wr.setCell ⟨w.heap.size, 0, none⟩ (.int .i64 nm)).setCell ⟨w.heap.size, 1, none⟩ (.slice a l.length kc)).setCell ⟨w.heap.size, 2, none⟩ (.slice none 0 0)) = w99 at fR fB ⊢
        obtain ⟨y0, y1, y2, _, _, _⟩ := fR.three
        exact bodyPost_ret (v := .tuple #[crV nm a l.length kc none 0 0, .int .i64 (-1)]) (by simp [results, Tryd.results46, go_sem, y0, y1, y2]) rfl ⟨.inl ⟨hfin, _, _, _, _, _, _, _, rfl⟩, fB⟩
      clear a0 a1 a2 a3 a4 a5 b0 b1 b2 b3 b4 b5 hq0 hlt0 hq1l hk255 hlt hge2
      have hlt1 : decide (s.length ≤ pp) = false := decide_eq_false (by omega)
      have hm255 := P.at_lt s pp
      have hwp : wrap64 ((pp : Int) + 1) = ((pp + 1 : Nat) : Int) := wrap_next pp (Nat.le_trans hps HS.out)
      have HC2 := Lib.hid (P.rdC_at hppl)
      generalize hm0 : P.at_ s pp = m at *
      go_wp2_with fail
      clear hm0 hwp
      go_loopw [11, 7, 1, 12, 13] (fun z y x t f wr => ∃ (i' : Nat) (u' : Value) (l' : List (Int × Nat)) (p2 : Nat) (yy : Int), z = .int .i64 i' ∧ y = .int .i64 yy ∧ x = .int .i64 p2 ∧ i' ≤ m ∧ pp + 1 ≤ p2 ∧ p2 ≤ s.length ∧ l'.length = i' ∧ P.rdSpoil m (s.drop (pp + 1)) = P.addK l' (P.rdSpoil (m - i') (s.drop p2)) ∧ OwnInts wr (w.heap.size + 1 + 1) (.slice a l.length kc) l ∧ OwnSpots wr (w.heap.size + 1 + 1) u' l' ∧
          Bx wr w.heap.size 29 #[.int .i64 0, .slice none 0 0, .slice none 0 0] ∧ Bx wr (w.heap.size + 1) 29 #[.int .i64 nm, .slice a l.length kc, u'] ∧ w.heap.size + 1 + 1 ≤ wr.heap.size ∧ Below w.heap.size w wr) (fun z _ _ _ _ _ => m - (intOf z).toNat)
      case atStart => exact ⟨0, _, [], pp + 1, yy, rfl, rfl, by go_num, Nat.zero_le _, Nat.le_refl _, by omega, rfl, (P.addK_nil _).symm, hown, ownR_nil _ _, hr, hx, hsz, hb⟩
      case round =>
        clear hr hx hsz hb hown
        obtain ⟨i', u', l', p2, yy2, rfl, rfl, rfl, hik', hpp2, hps2, hll2, hsp, hownI, hown, hr, hx, hsz, hb⟩ := hrel
        have Hsp := Lib.hid hsp
        have Hll2 := Lib.hid hll2
        clear hsp hll2
        obtain ⟨b, mc, rfl, _, _⟩ := hown.is spotCells_len
        obtain ⟨_, _, _, _, _, _⟩ := hr.three
        obtain ⟨_, _, _, _, _, _⟩ := hx.three
        have hl200 : l'.length < 100000 := by have := Hll2.out; omega
        by_cases hlt : i' < m
        · have hki : m - i' = (m - (i' + 1)) + 1 := by omega
          go_wp2_with fail
          go_at_call 56
          (with_reducible refine (HI.out p2 hps2 _).mono ?_)
          rintro e w5 ⟨hcase, hb5⟩
          have hr5 := hr.up hb5
          have hx5 := hx.up hb5
          have ho5 := OwnR.up hown hb5
          have hoI5 := OwnR.up hownI hb5
          have hbb5 := Chain.up hb hb5
          have hsz5 := Nat.le_trans hsz hb5.size
          clear hr hx hown hownI hb hb5 hsz
          obtain ⟨_, _, _, _, _, _⟩ := hr5.three
          obtain ⟨_, _, _, _, _, _⟩ := hx5.three
          rcases hcase with ⟨hno, rfl⟩ | ⟨n, q2, hyes, hq2, hq2s, hn31, rfl⟩
          · have hfin : P.rdCrash (s.drop p) = none := by unfold P.rdCrash; rw [Hyes.out]; simp only; rw [HC1.out]; simp only; rw [Hkeep.out]; simp only; rw [HC2.out]; simp only; rw [Hsp.out, hki, P.rdSpoil_no (P.rdSpot_no hno)]; rfl
            go_wp2_with fail
            have fR := hr5.set3 (.int .i64 nm) (.slice a l.length kc) (.slice b l'.length mc)
            have fB : Below w.heap.size w (((w5.setCell ⟨w.heap.size, 0, none⟩ (.int .i64 nm)).setCell ⟨w.heap.size, 1, none⟩ (.slice a l.length kc)).setCell ⟨w.heap.size, 2, none⟩ (.slice b l'.length mc)) := (((hbb5).setCell (p := ⟨w.heap.size, 0, none⟩) (Nat.le_refl _) _).setCell (p := ⟨w.heap.size, 1, none⟩) (Nat.le_refl _) _).setCell (p := ⟨w.heap.size, 2, none⟩) (Nat.le_refl _) _
            generalize (((w5.setCell ⟨w.heap.size, 0, none⟩ (.int .i64 nm)).setCell ⟨w.heap.size, 1, none⟩ (.slice a l.length kc)).setCell ⟨w.heap.size, 2, none⟩ (.slice b l'.length mc)) = w99 at fR fB ⊢
            obtain ⟨y0, y1, y2, _, _, _⟩ := fR.three
            exact bodyPost_ret (v := .tuple #[crV nm a l.length kc b l'.length mc, .int .i64 (-1)]) (by simp [results, Tryd.results46, go_sem, y0, y1, y2]) rfl ⟨.inl ⟨hfin, _, _, _, _, _, _, _, rfl⟩, fB⟩
          · have hq2n : decide ((q2 : Int) < 0) = false := decide_eq_false (by omega)
            have hs6 := HS.out
            have hdl : (s.drop q2).length = s.length - q2 := List.length_drop
            by_cases h4 : q2 + 4 ≤ s.length
            case neg =>
              have hgt : decide ((s.length : Int) < ((q2 : Int) + 4)) = true := decide_eq_true (by omega)
              have hgtn : decide (s.length < q2 + 4) = true := decide_eq_true (by omega)
              have hyes2 : P.rdSpot (s.drop p2) = none := by
                unfold P.rdSpot
                rw [hyes]
                simp only
                unfold P.rdP
                rw [if_neg (by omega)]
              have hfin : P.rdCrash (s.drop p) = none := by unfold P.rdCrash; rw [Hyes.out]; simp only; rw [HC1.out]; simp only; rw [Hkeep.out]; simp only; rw [HC2.out]; simp only; rw [Hsp.out, hki, P.rdSpoil_no hyes2]; rfl
              go_wp2_with fail
              have fR := hr5.set3 (.int .i64 nm) (.slice a l.length kc) (.slice b l'.length mc)
              have fB : Below w.heap.size w (((w5.setCell ⟨w.heap.size, 0, none⟩ (.int .i64 nm)).setCell ⟨w.heap.size, 1, none⟩ (.slice a l.length kc)).setCell ⟨w.heap.size, 2, none⟩ (.slice b l'.length mc)) := (((hbb5).setCell (p := ⟨w.heap.size, 0, none⟩) (Nat.le_refl _) _).setCell (p := ⟨w.heap.size, 1, none⟩) (Nat.le_refl _) _).setCell (p := ⟨w.heap.size, 2, none⟩) (Nat.le_refl _) _
              generalize (((w5.setCell ⟨w.heap.size, 0, none⟩ (.int .i64 nm)).setCell ⟨w.heap.size, 1, none⟩ (.slice a l.length kc)).setCell ⟨w.heap.size, 2, none⟩ (.slice b l'.length mc)) = w99 at fR fB ⊢
              obtain ⟨y0, y1, y2, _, _, _⟩ := fR.three
              exact bodyPost_ret (v := .tuple #[crV nm a l.length kc b l'.length mc, .int .i64 (-1)]) (by simp [results, Tryd.results46, go_sem, y0, y1, y2]) rfl ⟨.inl ⟨hfin, _, _, _, _, _, _, _, rfl⟩, fB⟩
            have hgt : decide ((s.length : Int) < ((q2 : Int) + 4)) = false := decide_eq_false (by omega)
            have hgtn : decide (s.length < q2 + 4) = false := decide_eq_false (by omega)
            have Hnx := Lib.hid (show P.rdSpoil m (s.drop (pp + 1)) = P.addK (l' ++ [((n : Int), P.bigNum (s.drop q2) 4)]) (P.rdSpoil (m - (i' + 1)) (s.drop (q2 + 4))) by rw [Hsp.out, hki, P.rdSpoil_go (P.rdSpot_go hyes (by omega)), P.addK_addK, List.drop_drop])
            clear hyes
            have HB := Lib.hid (fun wx => refReadBig_any (s.drop q2) 4 wx (by have := HS.out; omega) (by omega) (by omega))
            have hm4 : P.bigNum (s.drop q2) 4 < 4294967296 := P.bigNum_lt4 _
            generalize P.bigNum (s.drop q2) 4 = mk at *
            have hw32 : IntKind.u32.wrap (mk : Int) = (mk : Int) := P.u32_in hm4
            have hwi : IntKind.i64.wrap ((i' : Int) + 1) = ((i' + 1 : Nat) : Int) := i64_next i' (Nat.le_trans hik' (by omega))
            go_wp2_with (first
              | (go_at_call 57; (with_reducible refine (HB.out _).mono ?_); rintro e w8 ⟨rfl, hb8⟩; have hr8 := hr5.up hb8; have hx8 := hx5.up hb8; have ho8 := OwnR.up ho5 hb8; have hoI8 := OwnR.up hoI5 hb8; have hbb8 := Chain.up hbb5 hb8; have hsz8 := Nat.le_trans hsz5 hb8.size; obtain ⟨_, _, _, _, _, _⟩ := hx8.three; have hA := (Below.refl w8.heap.size w8).alloc (Nat.le_refl _) (.cells #[.int .i64 (n : Int), .int .u32 (mk : Int)] 26))
              | (at_builtin; (refine wpList_pushSpot (by rfl) _ _ (by rfl) (w.heap.size + 1 + 1) _ l' ((n : Int), mk) (by rfl) (OwnR.alloc ho8 _) hl200 w8.heap.size _ (0, 0) (heap_alloc_new _ _) (by rfl) (by rfl) ?_ ?_; (case refine_1 => exact Nat.le_trans hsz8 hA.size); intro v' w10 hown10 hb10 hkt10; obtain ⟨ad, cc, hv', _, _⟩ := hown10.is spotCells_len; (subst hv'); have hlen : (l' ++ [((n : Int), mk)]).length = i' + 1 := (by simp [Hll2.out]); (rw [hlen] at hown10); have hr10 := (hr8.up hA).below hb10 (by omega); have hx10 := (hx8.up hA).below hb10 (by omega); have hs10 := Nat.le_trans (Nat.le_trans hsz8 hA.size) hb10.size; have hbb10 := (hbb8.trans (hA.mono hbb8.size)).trans (hb10.mono (by omega)); have hoI10 := (OwnR.alloc hoI8 _).keptT hkt10 (by decide); obtain ⟨g0, g1, g2, gf0, gf1, gf2⟩ := hx10.three)))
            go_roundw
            case rel =>
              exact ⟨i' + 1, .slice ad (i' + 1) cc, l' ++ [((n : Int), mk)], q2 + 4, (n : Int), by go_num, rfl, by go_num, by omega, by omega, by omega, hlen, Hnx.out, hoI10.other (Nat.lt_succ_self _) 2 _, hown10.other (Nat.lt_succ_self _) 2 _, hr10.other (by omega) 2 _, by simpa using hx10.set 2 (.slice ad (i' + 1) cc), by simpa [World.setCell] using hs10, hbb10.setCell (p := ⟨w.heap.size + 1, 2, none⟩) (Nat.le_succ _) _⟩
            case measure => simp [intOf]; omega
        · obtain rfl : i' = m := by omega
          rw [Nat.sub_self] at Hsp
          have hge3 : ¬ ((i' : Int) < (i' : Int)) := by omega
          have hfin : P.rdCrash (s.drop p) = some (⟨(nm : Int), l, l'⟩, s.drop p2) := by
            unfold P.rdCrash; rw [Hyes.out]; simp only; rw [HC1.out]; simp only; rw [Hkeep.out]; simp only; rw [HC2.out]; simp only; rw [Hsp.out]
            show some ((⟨(nm : Int), l, l' ++ []⟩ : P.Cr), s.drop p2) = _
            rw [List.append_nil]
          go_wp2_with fail
          have fR := hr.set3 (.int .i64 nm) (.slice a l.length kc) (.slice b l'.length mc)
          have fB : Below w.heap.size w (((wr.setCell ⟨w.heap.size, 0, none⟩ (.int .i64 nm)).setCell ⟨w.heap.size, 1, none⟩ (.slice a l.length kc)).setCell ⟨w.heap.size, 2, none⟩ (.slice b l'.length mc)) := ((hb.setCell (p := ⟨w.heap.size, 0, none⟩) (Nat.le_refl _) _).setCell (p := ⟨w.heap.size, 1, none⟩) (Nat.le_refl _) _).setCell (p := ⟨w.heap.size, 2, none⟩) (Nat.le_refl _) _
          have fI := (((hownI.other (g := w.heap.size) (by omega) 0 (.int .i64 nm)).other (g := w.heap.size) (by omega) 1 (.slice a l.length kc)).other (g := w.heap.size) (by omega) 2 (.slice b l'.length mc)).low (B' := w.heap.size) (by omega)
          have fS := (((OwnR.other hown (g := w.heap.size) (by omega) 0 (.int .i64 nm)).other (g := w.heap.size) (by omega) 1 (.slice a l.length kc)).other (g := w.heap.size) (by omega) 2 (.slice b l'.length mc)).low (B' := w.heap.size) (by omega)
          generalize (((wr.setCell ⟨w.heap.size, 0, none⟩ (.int .i64 nm)).setCell ⟨w.heap.size, 1, none⟩ (.slice a l.length kc)).setCell ⟨w.heap.size, 2, none⟩ (.slice b l'.length mc)) = w99 at fR fB fI fS ⊢
          obtain ⟨y0, y1, y2, _, _, _⟩ := fR.three
          exact bodyPost_ret (v := .tuple #[crV nm a l.length kc b l'.length mc, .int .i64 p2]) (by simp [results, Tryd.results46, go_sem, y0, y1, y2]) rfl ⟨.inr ⟨⟨(nm : Int), l, l'⟩, p2, a, b, kc, mc, hfin, by omega, hps2, rfl, fI, fS⟩, fB⟩
end Go.Proofs.YtnflbgindcejjaaDoor
