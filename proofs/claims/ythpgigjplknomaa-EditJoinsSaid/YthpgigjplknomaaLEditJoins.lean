/- The walks of has and done, and of EditJoins: it answers true. -/
import Derived.Test.YthpgigjplknomaaWEdCont
import Derived.Test.YthpgigjplknomaaPEdit5
import Derived.Test.YthpgigjplknomaaWCopied
import Derived.Test.YthpgigjplknomaaWRefTwo
import Derived.Test.YthpgigjplknomaaWEdJoins
import Derived.Test.YthpgigjplknomaaWEdGreat
import Derived.Test.YthpgigjplknomaaWAwakeE
namespace Go.Proofs.Ythpgigjplknomaa
open Go.RowKit
set_option linter.unusedVariables false
set_option linter.unusedSimpArgs false

/-! ### has -/
/-- A number's place; -1: it is not there. -/
def P.place (l : List P.Tab) (n : Nat) : Int := match P.idx l n with | none => -1 | some k => k
theorem P.idx_here {l : List P.Tab} {n k : Nat} (hlt : k < l.length) (h : P.idx (l.take k) n = none) (he : l[k].n = n) : P.place l n = k := by
  have h1 : P.idx l n = some k := by
    unfold P.idx at *
    rw [List.findIdx?_eq_some_iff_getElem]
    refine ⟨hlt, by simp [P.isN, he], fun j hj => ?_⟩
    rw [List.findIdx?_eq_none_iff] at h
    have := h (l[j]'(by omega)) (List.mem_take_iff_getElem.2 ⟨j, by omega, rfl⟩)
    simpa using this
  unfold P.place
  rw [h1]
theorem P.idx_next {l : List P.Tab} {n k : Nat} (hlt : k < l.length) (h : P.idx (l.take k) n = none) (he : ¬ l[k].n = n) : P.idx (l.take (k + 1)) n = none := by
  rw [P.idx_none] at *
  rw [List.take_succ_eq_append_getElem hlt, P.nums_app]
  simp only [List.mem_append, not_or]
  exact ⟨h, fun hh => he (List.mem_singleton.1 (show n ∈ [l[k].n] from hh)).symm⟩

set_option maxRecDepth 100000 in
set_option maxHeartbeats 2000000 in
theorem has_any (a : Option Addr) (n c : Nat) (l : List P.Tab) (v : Nat) (hn : n = l.length) (w : World) (hl : l.length ≤ 9223372036854775807) (hp : TabsAt w a l) :
    Calls Try.prog 25 #[.slice a n c, V64 v] w fun e w' => e = .returned (.int .i64 (P.place l v)) ∧ Below w.heap.size w w' := by
  have Hp := Lib.hid hp
  have Hn := Lib.hid hn
  have Hl := Lib.hid (show n ≤ 9223372036854775807 by omega)
  clear hp hn hl
  go_enter Try.func25, Try.ntmps25
  go_wp2
  go_loopw [5] (fun i wr => ∃ k : Nat, k ≤ n ∧ i = .int .i64 k ∧ P.idx (l.take k) v = none ∧ Below w.heap.size w wr) (fun i _ => n - (intOf i).toNat)
  case atStart => exact ⟨0, by omega, rfl, rfl, Below.refl _ _⟩
  case round =>
    obtain ⟨k, hk, rfl, hany, hb⟩ := hrel
    have Hany := Lib.hid hany
    clear hany
    have hl := Hl.out
    by_cases hlt : k < n
    · have hlt' : k < l.length := by have := Hn.out; omega
      obtain ⟨b, o, rfl, hbb, c0, _⟩ := tab_at (RowsAt.up Hp.out hb) k hlt'
      have Hyes := Lib.hid (P.idx_here hlt' Hany.out)
      have Hno := Lib.hid (P.idx_next hlt' Hany.out)
      clear Hany
      generalize l[k].n = q at *
      by_cases he : q = v
      · have Hy := Lib.hid (Hyes.out he)
        subst he
        clear Hno Hyes
        go_wp2
        go_ret
        exact ⟨by rw [Hy.out]; rfl, hb⟩
      · have Hn1 := Lib.hid (Hno.out he)
        have he1 : ((q : Int) == (v : Int)) = false := beq_eq_false_iff_ne.2 (by omega)
        clear Hno Hyes he
        go_wp2
        go_roundw
        case rel => exact ⟨k + 1, by omega, by go_num, Hn1.out, hb⟩
        case measure => simp [intOf]; omega
    · obtain rfl : k = n := by omega
      have Ha := Lib.hid (show P.place l v = -1 by have h := Hany.out; rw [Hn.out, List.take_length] at h; unfold P.place; rw [h])
      go_wp2
      go_ret
      exact ⟨by rw [Ha.out]; rfl, hb⟩

/-! ### done -/
theorem P.fold_take {α : Type} (f : List P.Tab → α → Option (List P.Tab)) (d : List α) (k : Nat) (hk : k < d.length) (s : List P.Tab) : (d.take (k + 1)).foldlM f s = ((d.take k).foldlM f s).bind (fun o => f o d[k]) := by
  rw [List.take_succ_eq_append_getElem hk, List.foldlM_append]
  cases (d.take k).foldlM f s with
  | none => rfl
  | some o => simp
theorem P.fold_none {α : Type} (f : List P.Tab → α → Option (List P.Tab)) (d : List α) (k : Nat) (s : List P.Tab) (h : (d.take k).foldlM f s = none) : d.foldlM f s = none := by
  rw [← List.take_append_drop k d, List.foldlM_append, h]
  rfl
theorem P.drop1_no {l : List P.Tab} {n : Nat} (h : P.place l n < 0) : P.drop1 l n = none := by
  unfold P.place at h
  unfold P.drop1
  cases hi : P.idx l n with
  | none => rfl
  | some k => rw [hi] at h; simp only at h; omega
theorem P.drop1_yes {l : List P.Tab} {n : Nat} (h : ¬ P.place l n < 0) : ∃ k, k < l.length ∧ P.place l n = k ∧ P.drop1 l n = some (l.take k ++ l.drop (k + 1)) := by
  unfold P.place at h ⊢
  unfold P.drop1
  cases hi : P.idx l n with
  | none => rw [hi] at h; simp only at h; omega
  | some k =>
    refine ⟨k, ?_, rfl, rfl⟩
    unfold P.idx at hi
    obtain ⟨hk, _⟩ := List.findIdx?_eq_some_iff_getElem.1 hi
    exact hk
theorem P.add1_place (l : List P.Tab) (t : P.Tab) : P.add1 l t = if 0 ≤ P.place l t.n then none else some (l ++ [t]) := by
  unfold P.add1 P.place
  cases hi : P.idx l t.n with
  | none => simp
  | some k => simp
theorem rows_drop {α : Type} {k : Nat} {cs : α → List Value} {w : World} {b o : Nat} {l : List α} (h : RowsAt k cs w (some ⟨b, o, none⟩) l) (n : Nat) : RowsAt k cs w (some ⟨b, o + n * k, none⟩) (l.drop n) := by
  intro i hi
  have hi' : n + i < l.length := by rw [List.length_drop] at hi; omega
  obtain ⟨b', o', e, hlt, hc⟩ := h (n + i) hi'
  simp only [Option.some.injEq, Addr.mk.injEq] at e
  obtain ⟨rfl, rfl, _⟩ := e
  refine ⟨b, o + n * k, rfl, hlt, fun j hj => ?_⟩
  have := hc j hj
  rw [Nat.add_mul] at this
  rw [Nat.add_assoc o, this, List.getElem_drop]
theorem OwnR.cap {α : Type} {e : TypeId} {k : Nat} {cs : α → List Value} {w : World} {B : Nat} {a : Option Addr} {n c : Nat} {l : List α} (h : OwnR e k cs w B (.slice a n c) l) : l.length ≤ c := by
  obtain ⟨_, ⟨h1, h0⟩ | ⟨g, cap, cur, h1, _, hg, hnc, _⟩⟩ := h
  · simp only [Value.slice.injEq] at h1
    omega
  · simp only [Value.slice.injEq] at h1
    obtain ⟨_, _, rfl⟩ := h1
    exact hnc
theorem rows_cut {α : Type} {k : Nat} {cs : α → List Value} {w : World} {a : Option Addr} {l : List α} (h : RowsAt k cs w a l) (n : Nat) : RowsAt k cs w a (l.take n) := by
  intro i hi
  have hi' : i < l.length := by rw [List.length_take] at hi; omega
  obtain ⟨b, o, e, hlt, hc⟩ := h i hi'
  refine ⟨b, o, e, hlt, fun j hj => ?_⟩
  rw [hc j hj]
  simp

set_option maxRecDepth 100000 in
set_option maxHeartbeats 4000000 in
theorem done_any (L : List P.Tab) (x : P.Ed) (al a b : Option Addr) (nl cl n c m d : Nat) (hL : nl = L.length) (hn : n = x.add.length) (hm : m = x.drop.length) (w : World) (hl : nl ≤ 10000) (hk : n ≤ 10000) (hd : m ≤ 10000) (hpl : TabsAt w al L) (hp : EdAt w a b x) :
    Calls Try.prog 26 #[.slice al nl cl, edV a n c b m d x.log x.seq x.next] w fun e w' => ((∃ o v, P.doneE L x = some o ∧ o.length ≤ nl + n ∧ e = .returned (.tuple #[v, .bool true]) ∧ OwnTabs w' w.heap.size v o) ∨ (P.doneE L x = none ∧ e = .returned (.tuple #[.slice none 0 0, .bool false]))) ∧ Below w.heap.size w w' := by
  have HL := Lib.hid (fun wx (hx : Below w.heap.size w wx) => RowsAt.up hpl hx)
  have HT := Lib.hid (fun wx (hx : Below w.heap.size w wx) => RowsAt.up hp.1 hx)
  have HD := Lib.hid (fun wx (hx : Below w.heap.size w wx) => NumsAt.below hp.2 hx)
  obtain ⟨A, D, lo, se, ne⟩ := x
  simp only at hn hm HT HD ⊢
  have HE := Lib.hid (show P.doneE L ⟨A, D, lo, se, ne⟩ = (D.foldlM P.drop1 L).bind (fun o => A.foldlM P.add1 o) from rfl)
  generalize P.doneE L ⟨A, D, lo, se, ne⟩ = dn at *
  clear hp hpl
  have Hn := Lib.hid hn
  have Hm := Lib.hid hm
  have HLn := Lib.hid hL
  have Hll := Lib.hid (show ([] : List P.Tab).length + L.length ≤ 1000000 by simp; omega)
  have Hk := Lib.hid hk
  have Hd := Lib.hid hd
  have Hl := Lib.hid hl
  clear hn hm hL hl hk hd
  have h1 := (Bx.fresh w 29 #[.slice a n c, .slice b m d, V64 lo, V64 se, V64 ne])
  have h3 : Below w.heap.size w (w.alloc (.cells #[.slice a n c, .slice b m d, V64 lo, V64 se, V64 ne] 29)) := (Below.refl _ _).alloc (Nat.le_refl _) _
  have HO1 := Lib.hid (show OwnTabs ((w.alloc (.cells #[.slice a n c, .slice b m d, V64 lo, V64 se, V64 ne] 29)).alloc (.cells #[] 31)) w.heap.size (.slice (some ⟨w.heap.size + 1, 0, none⟩) 0 0) [] from OwnR.lit tabCells_len [] #[] rfl (by simp) (by simp) _ _ _ (by simp) rfl rfl)
  have ha := (Below.refl (w.alloc (.cells #[.slice a n c, .slice b m d, V64 lo, V64 se, V64 ne] 29)).heap.size (w.alloc (.cells #[.slice a n c, .slice b m d, V64 lo, V64 se, V64 ne] 29))).alloc (Nat.le_refl _) (.cells #[] 31)
  have hx1 := h1.up ha
  have hb1 := Chain.up h3 ha
  clear h1 h3 ha
  go_enter Try.func26, Try.ntmps26
  go_wp2_with (at_builtin; (refine wpList_appTabs (by rfl) _ _ (by rfl) w.heap.size _ [] L (by rfl) HO1.out Hll.out _ _ _ (by rfl) HLn.out (HL.out _ hb1) hb1.size ?_); intro v8 w8 hown8 hb8 hk8; obtain ⟨ad, cc, hv', _, _⟩ := hown8.is tabCells_len; (subst hv'); (simp only [List.nil_append] at hown8); have hx8 := hx1.kept (by decide) hk8; have hc8 := hb1.trans hb8)
  clear hx1 hb1 HO1 hb8 hk8
  go_loopw [6, 7, 8] (fun v6 v7 v8 wr => ∃ (i : Nat) (o : List P.Tab) (ao : Option Addr) (co : Nat), i ≤ m ∧ v6 = .slice ao o.length co ∧ v7 = .int .i64 i ∧ (D.take i).foldlM P.drop1 L = some o ∧ o.length ≤ nl ∧ OwnTabs wr w.heap.size (.slice ao o.length co) o ∧ Bx wr w.heap.size 29 #[.slice a n c, .slice b m d, V64 lo, V64 se, V64 ne] ∧ Below w.heap.size w wr) (fun _ v7 _ _ => m - (intOf v7).toNat)
  case atStart => exact ⟨0, L, ad, cc, by omega, rfl, rfl, rfl, by have := HLn.out; omega, hown8, hx8, hc8⟩
  case round =>
    clear hown8 hx8 hc8
    obtain ⟨i, o, ao, co, hi, rfl, rfl, ho, hol, hown, hx, hc⟩ := hrel
    obtain ⟨q0, q1, q2, q3, q4⟩ := hx.five
    have Ho := Lib.hid ho
    clear ho
    have hmb : m ≤ 10000 := Hd.out
    by_cases hlt : i < m
    · have hlt' : i < D.length := by have := Hm.out; omega
      obtain ⟨bb, oo, rfl, hbb, c0⟩ := HD.out _ hc i hlt'
      have HF := Lib.hid (P.fold_take P.drop1 D i hlt' L)
      rw [Ho.out, Option.bind_some] at HF
      have HN := Lib.hid (P.fold_none P.drop1 D (i + 1) L)
      generalize D[i] = q at *
      have HH := Lib.hid (has_any ao o.length co o q rfl wr (by have := Hl.out; omega) (OwnR.at hown tabCells_len))
      by_cases hpl : P.place o q < 0
      · have Hdn : dn = none := by rw [HE.out, HN.out (by rw [HF.out]; exact P.drop1_no hpl)]; rfl
        have Hdn := Lib.hid Hdn
        generalize P.place o q = pq at *
        go_wp2_with (go_at_call 25; (with_reducible refine HH.out.mono ?_); rintro e w2 ⟨rfl, hb2⟩)
        exact bodyPost_ret (v := .tuple #[.slice none 0 0, .bool false]) (by simp [results, Try.results26, go_sem]) rfl ⟨.inr ⟨Hdn.out, rfl⟩, Chain.up hc hb2⟩
      · obtain ⟨k, hko, hpk, hdk⟩ := P.drop1_yes hpl
        rw [hpk] at HH
        rw [hdk] at HF
        clear hpl hpk hdk HN
        have hk0 : decide ((k : Int) < 0) = false := decide_eq_false (by omega)
        go_wp2_with (go_at_call 25; (with_reducible refine HH.out.mono ?_); rintro e w2 ⟨rfl, hb2⟩)
        have hc2 := Chain.up hc hb2
        have hx2 := hx.up hb2
        have hown2 := OwnR.up hown hb2
        clear hx hown hc hb2 q0 q1 q2 q3 q4 HH c0 hbb
        obtain ⟨bo, oo2, rfl⟩ : ∃ bo oo2, ao = some ⟨bo, oo2, none⟩ := by
          obtain ⟨b', o', e, _⟩ := (OwnR.at hown2 tabCells_len) 0 (by omega)
          exact ⟨b', o', e⟩
        obtain ⟨k1, hk1e⟩ : ∃ k1 : Nat, k1 = k + 1 := ⟨_, rfl⟩
        have hk1 : IntKind.i64.wrap ((k : Int) + 1) = (k1 : Int) := by have := Hl.out; rw [IntWalk.i64_in _ (by omega)]; omega
        have hkc : o.length ≤ co := hown2.cap
        have hkc1 : k ≤ co := by omega
        have hko3 : k1 ≤ o.length := by omega
        have hk10 : ¬ k1 = 0 := by omega
        rw [← hk1e] at HF
        have Hk1 := Lib.hid hk1e
        clear hk1e
        have hko2 : k ≤ o.length := by omega
        have Htl := Lib.hid (show (o.take k).length = k by rw [List.length_take]; omega)
        have Hdl := Lib.hid (show (o.drop k1).length = o.length - k1 by rw [List.length_drop])
        refine wp_region_held_drew (S := fun wx => Below w2.heap.size w2 wx) (by kernel_rfl) (Below.refl _ _).drew (fun hHeld => ?_)
        refine wpAnyH_take (i := 1) (v := ?_) rfl (by kernel_rfl) (by kernel_rfl) (by kernel_rfl) (fun _ _ _ h => h) (Or.inl ⟨by rfl, ?_⟩) hHeld ?_
        rotate_left
        · intro wq hSw; go_simp; (try with_reducible rfl)
        simp only [Act.put, List.getElem_toArray, List.getElem_cons_succ, List.getElem_cons_zero, List.setIfInBounds_toArray, List.set_cons_zero, List.set_cons_succ]
        refine wpAnyH_take (i := 2) (v := ?_) rfl (by kernel_rfl) (by kernel_rfl) (by kernel_rfl) (fun _ _ _ h => h) (Or.inl ⟨by rfl, ?_⟩) hHeld ?_
        rotate_left
        · intro wq hSw; go_simp; (try with_reducible rfl)
        simp only [Act.put, List.getElem_toArray, List.getElem_cons_succ, List.getElem_cons_zero, List.setIfInBounds_toArray, List.set_cons_zero, List.set_cons_succ]
        refine wpAnyH_take (i := 3) (v := ?_) rfl (by kernel_rfl) (by kernel_rfl) (by kernel_rfl) (fun _ _ _ h => h) (Or.inl ⟨by rfl, ?_⟩) hHeld ?_
        rotate_left
        · intro wq hSw; go_simp; (try with_reducible rfl)
        simp only [Act.put, List.getElem_toArray, List.getElem_cons_succ, List.getElem_cons_zero, List.setIfInBounds_toArray, List.set_cons_zero, List.set_cons_succ]
        refine wpAnyH_take (i := 5) (v := ?_) rfl (by kernel_rfl) (by kernel_rfl) (by kernel_rfl) (fun _ _ _ h => h) (Or.inl ⟨by rfl, ?_⟩) hHeld ?_
        rotate_left
        · intro wq hSw; go_simp; (try with_reducible rfl)
        simp only [Act.put, List.getElem_toArray, List.getElem_cons_succ, List.getElem_cons_zero, List.setIfInBounds_toArray, List.set_cons_zero, List.set_cons_succ]
        refine wpAnyH_take (i := 6) (v := ?_) rfl (by kernel_rfl) (by kernel_rfl) (by kernel_rfl) (fun _ _ _ h => h) (Or.inl ⟨by rfl, ?_⟩) hHeld ?_
        rotate_left
        · intro wq hSw; go_simp; (try with_reducible rfl)
        simp only [Act.put, List.getElem_toArray, List.getElem_cons_succ, List.getElem_cons_zero, List.setIfInBounds_toArray, List.set_cons_zero, List.set_cons_succ]
        refine wpAnyH_take (i := 7) (v := ?_) rfl (by kernel_rfl) (by kernel_rfl) (by kernel_rfl) (fun _ _ _ h => h) (Or.inl ⟨by rfl, ?_⟩) hHeld ?_
        rotate_left
        · intro wq hSw; go_simp; (try with_reducible rfl)
        simp only [Act.put, List.getElem_toArray, List.getElem_cons_succ, List.getElem_cons_zero, List.setIfInBounds_toArray, List.set_cons_zero, List.set_cons_succ]
        refine wpAnyH_take (i := 8) (v := ?_) rfl (by kernel_rfl) (by kernel_rfl) (by kernel_rfl) (fun _ _ _ h => h) (Or.inl ⟨by rfl, ?_⟩) hHeld ?_
        rotate_left
        · intro wq hSw; go_simp; (try with_reducible rfl)
        simp only [Act.put, List.getElem_toArray, List.getElem_cons_succ, List.getElem_cons_zero, List.setIfInBounds_toArray, List.set_cons_zero, List.set_cons_succ]
        refine wpAnyH_one (i := 0) (by kernel_rfl) rfl (fun K hK => ?_)
        simp only [List.getElem_toArray, List.getElem_cons_succ, List.getElem_cons_zero]
        go_simp
        have hSz : Below w2.heap.size w2 (w2.alloc (.cells #[] 31)).drew := ((Below.refl _ _).alloc (Nat.le_refl _) _).drew
        have hOs : OwnTabs (w2.alloc (.cells #[] 31)).drew w2.heap.size (.slice (some ⟨w2.heap.size, 0, none⟩) 0 0) [] := OwnR.up (OwnR.lit tabCells_len [] #[] rfl (by simp) (Nat.le_refl _) _ _ _ rfl rfl rfl) (Below.refl _ _).drew
        refine hK.out _ _ hSz ?_
        clear hK K
        have hx3 := hx2.up hSz
        have hT3 := RowsAt.up (OwnR.at hown2 tabCells_len) hSz
        generalize (w2.alloc (.cells #[] 31)).drew = w3 at *
        refine wpAnyH_one (i := 4) (by kernel_rfl) rfl (fun K hK => ?_)
        simp only [List.getElem_toArray, List.getElem_cons_succ, List.getElem_cons_zero]
        rw [if_pos (by rfl)]
        refine wp_appTabs _ _ (by rfl) w2.heap.size _ [] (o.take k) (by rfl) hOs (by have := Htl.out; have := Hl.out; simp; omega) _ _ _ (by rfl) Htl.out.symm (rows_cut hT3 k) hSz.size ?_
        intro v4 w4 hown4 hb4 hk4
        obtain ⟨a4, c4, hv4, _, _⟩ := hown4.is tabCells_len
        subst hv4
        rw [List.nil_append, Htl.out] at hown4 ⊢
        have hS4 := hSz.trans hb4
        refine hK.out _ _ hS4 ?_
        simp only [Act.put, List.getElem_toArray, List.getElem_cons_succ, List.getElem_cons_zero, List.setIfInBounds_toArray, List.set_cons_zero, List.set_cons_succ]
        clear hK K
        have hx4 := hx3.kept (by decide) hk4
        have hT4 : TabsAt w4 (if co = k1 then some ⟨bo, oo2, none⟩ else some ⟨bo, oo2 + k1 * 8, none⟩) (o.drop k1) := by
          have h := rows_drop (RowsAt.up (OwnR.at hown2 tabCells_len) hS4) k1
          split
          · next he =>
            intro i hi
            have := Hdl.out
            omega
          · exact h
        generalize (if co = k1 then (some ⟨bo, oo2, none⟩ : Option Addr) else some ⟨bo, oo2 + k1 * 8, none⟩) = ap at *
        refine wpAnyH_one (i := 9) (by kernel_rfl) rfl (fun K hK => ?_)
        simp only [List.getElem_toArray, List.getElem_cons_succ, List.getElem_cons_zero]
        rw [if_pos (by rfl)]
        refine wp_appTabs _ _ (by rfl) w2.heap.size _ (o.take k) (o.drop k1) (by rfl) hown4 (by have := Htl.out; have := Hdl.out; have := Hl.out; omega) _ _ _ (by rfl) Hdl.out.symm hT4 hS4.size ?_
        intro v9 w9 hown9 hb9 hk9
        obtain ⟨a9, c9, hv9, _, _⟩ := hown9.is tabCells_len
        subst hv9
        have hS9 := hS4.trans hb9
        refine hK.out _ _ hS9 ?_
        simp only [Act.put, List.getElem_toArray, List.getElem_cons_succ, List.getElem_cons_zero, List.setIfInBounds_toArray, List.set_cons_zero, List.set_cons_succ]
        clear hK K
        have hxZ := hx4.kept (by decide) hk9
        have hcZ := Chain.up hc2 hS9
        have hownZ := OwnR.low hown9 hc2.size
        clear hown2 hown4 hown9 hT3 hT4 hx2 hx3 hx4 hOs hb4 hk4 hb9 hk9 hSz
        refine wpAnyH_take (i := 10) (v := ?_) rfl (by kernel_rfl) (by kernel_rfl) (by kernel_rfl) (fun _ _ _ h => h) (Or.inl ⟨by rfl, ?_⟩) hS9 ?_
        rotate_left
        · intro wq hSw; go_simp; (try with_reducible rfl)
        simp only [Act.put, List.getElem_toArray, List.getElem_cons_succ, List.getElem_cons_zero, List.setIfInBounds_toArray, List.set_cons_zero, List.set_cons_succ]
        refine wpAnyH_done (by kernel_rfl) ?_ _
        go_wp2_with fail
        go_roundw
        case rel => exact ⟨i + 1, o.take k ++ o.drop k1, _, _, by omega, by rw [List.length_append, Htl.out, Hdl.out], by go_num, HF.out, by have := Htl.out; have := Hdl.out; have := Hk1.out; rw [List.length_append]; omega, hownZ, hxZ, hcZ⟩
        case measure => simp [intOf]; omega
    · obtain rfl : i = m := by omega
      have hDi : D.take i = D := List.take_of_length_le (by have := Hm.out; omega)
      have Ho2 := Lib.hid (show D.foldlM P.drop1 L = some o by rw [← Ho.out, hDi])
      have HE2 := Lib.hid (show dn = A.foldlM P.add1 o by rw [HE.out, Ho2.out, Option.bind_some])
      clear hDi Ho HE hi hlt
      go_wp2_with fail
      go_loopw [6, 9] (fun v6 v9 wr' => ∃ (j : Nat) (o' : List P.Tab) (ao' : Option Addr) (co' : Nat), j ≤ n ∧ v6 = .slice ao' o'.length co' ∧ v9 = .int .i64 j ∧ (A.take j).foldlM P.add1 o = some o' ∧ o'.length ≤ nl + j ∧ OwnTabs wr' w.heap.size (.slice ao' o'.length co') o' ∧ Bx wr' w.heap.size 29 #[.slice a n c, .slice b i d, V64 lo, V64 se, V64 ne] ∧ Below w.heap.size w wr') (fun _ v9 _ => n - (intOf v9).toNat)
      case atStart => exact ⟨0, o, ao, co, by omega, rfl, rfl, rfl, by omega, hown, hx, hc⟩
      case round =>
        clear hown hx hc q0 q1 q2 q3 q4
        rename_i wr0
        obtain ⟨j, o', ao', co', hj, rfl, rfl, ho', hol', hown, hx, hc⟩ := hrel
        obtain ⟨q0, q1, q2, q3, q4⟩ := hx.five
        have Ho := Lib.hid ho'
        clear ho'
        have hnb : n ≤ 10000 := Hk.out
        have hlb : nl ≤ 10000 := Hl.out
        by_cases hlt : j < n
        · have hlt' : j < A.length := by have := Hn.out; omega
          have hTA := HT.out _ hc
          obtain ⟨ba, oa, rfl, hba, c0, c1, c2, c3, c4, c5, c6, c7⟩ := tab_at hTA j hlt'
          have HF := Lib.hid (P.fold_take P.add1 A j hlt' o)
          rw [Ho.out, Option.bind_some, P.add1_place] at HF
          have HN := Lib.hid (P.fold_none P.add1 A (j + 1) o)
          have HH := Lib.hid (has_any ao' o'.length co' o' A[j].n rfl _ (by omega) (OwnR.at hown tabCells_len))
          generalize A[j] = t at *
          clear hTA
          obtain ⟨tn, level, count, size, first, last, least, most⟩ := t
          simp only at c0 c1 c2 c3 c4 c5 c6 c7 HH HF
          by_cases hpl : 0 ≤ P.place o' tn
          · rw [if_pos hpl] at HF
            have Hdn := Lib.hid (show dn = none by rw [HE2.out, HN.out HF.out])
            have hge : decide (P.place o' tn ≥ 0) = true := decide_eq_true hpl
            generalize P.place o' tn = pq at *
            clear HF HN
            go_wp2_with (go_at_call 25; (with_reducible refine HH.out.mono ?_); rintro e w2 ⟨rfl, hb2⟩)
            exact bodyPost_ret (v := .tuple #[.slice none 0 0, .bool false]) (by simp [results, Try.results26, go_sem]) rfl ⟨.inr ⟨Hdn.out, rfl⟩, Chain.up hc hb2⟩
          · rw [if_neg hpl] at HF
            have hge : decide (P.place o' tn ≥ 0) = false := decide_eq_false hpl
            generalize P.place o' tn = pq at *
            clear HN
            have Hln := Lib.hid (show (o' ++ [(⟨tn, level, count, size, first, last, least, most⟩ : P.Tab)]).length = o'.length + 1 by rw [List.length_append]; rfl)
            go_wp2_with (first
              | (go_at_call 25; (with_reducible refine HH.out.mono ?_); rintro e w2 ⟨rfl, hb2⟩; have hc2 := Chain.up hc hb2; have hx2 := hx.up hb2; have hown2 := OwnR.up hown hb2; obtain ⟨z0, z1, z2, z3, z4⟩ := hx2.five; have d0 := cell_up hb2 c0; have d1 := cell_up hb2 c1; have d2 := cell_up hb2 c2; have d3 := cell_up hb2 c3; have d4 := cell_up hb2 c4; have d5 := cell_up hb2 c5; have d6 := cell_up hb2 c6; have d7 := cell_up hb2 c7)
              | (at_builtin; (refine wpList_appTabs (by rfl) _ _ (by rfl) w.heap.size _ o' [(⟨tn, level, count, size, first, last, least, most⟩ : P.Tab)] (by rfl) (OwnR.alloc hown2 _) (by simp; omega) _ _ _ (by rfl) (by rfl) (rows_box tabCells_len _ (Bx.fresh _ _ _) (by rfl)) (hc2.alloc hc2.size _).size ?_); intro v8 w8 hown8 hb8 hk8; obtain ⟨ad8, cc8, hv', _, _⟩ := hown8.is tabCells_len; (subst hv'); have hx8 := (hx2.up ((Below.refl _ _).alloc (Nat.le_refl _) _)).kept (by decide) hk8; have hc8 := (hc2.alloc hc2.size _).trans hb8))
            go_roundw
            case rel => exact ⟨j + 1, _, _, _, by omega, by rw [Hln.out], by go_num, HF.out, by rw [Hln.out]; omega, hown8, hx8, hc8⟩
            case measure => simp [intOf]; omega
        · obtain rfl : j = n := by omega
          have hAj : A.take j = A := List.take_of_length_le (by have := Hn.out; omega)
          have Hdn := Lib.hid (show dn = some o' by rw [HE2.out, ← Ho.out, hAj])
          clear hAj Ho
          go_wp2_with fail
          exact bodyPost_ret (v := .tuple #[.slice ao' o'.length co', .bool true]) (by simp [results, Try.results26, go_sem]) rfl ⟨.inl ⟨o', _, Hdn.out, by omega, rfl, hown⟩, hc⟩

/-! ### The law -/
theorem P.nodup_of_place {l : List P.Tab} (h : ∀ (i : Nat) (hi : i < l.length), P.place l l[i].n = i) : (P.nums l).Nodup :=
  P.nodup_of_idx l fun i hi => by
    have := h i hi
    unfold P.place at this
    cases hx : P.idx l l[i].n with
    | none => rw [hx] at this; simp only at this; omega
    | some k => rw [hx] at this; simp only at this; congr 1; omega
theorem P.place_of_nodup {l : List P.Tab} (h : (P.nums l).Nodup) (i : Nat) (hi : i < l.length) : P.place l l[i].n = i := by
  unfold P.place
  rw [P.idx_of_nodup l h i hi]
def P.topN (f : P.Ed → Nat) (l : List P.Ed) : Nat := l.foldl (fun n e => P.maxN n (f e)) 0
theorem P.topN_next (f : P.Ed → Nat) (l : List P.Ed) (k : Nat) (hk : k < l.length) : P.topN f (l.take (k + 1)) = P.maxN (P.topN f (l.take k)) (f l[k]) := by
  unfold P.topN
  rw [List.take_succ_eq_append_getElem hk, List.foldl_append]
  rfl
theorem P.nodup_fold : ∀ (l : List P.Ed) (s o : List P.Tab), (P.nums s).Nodup → l.foldlM P.doneE s = some o → (P.nums o).Nodup
  | [], s, o, h, h1 => by
    simp only [List.foldlM_nil, Option.pure_def, Option.some.injEq] at h1
    rwa [← h1]
  | x :: l, s, o, h, h1 => by
    rw [List.foldlM_cons, Option.bind_eq_bind, Option.bind_eq_some_iff] at h1
    obtain ⟨m, h3, h4⟩ := h1
    exact P.nodup_fold l m o (P.done_nodup h h3) h4

set_option maxRecDepth 100000 in
set_option maxHeartbeats 4000000 in
theorem joins_many (a a1 : Option Addr) (n c n1 c1 : Nat) (w : World) (hn : 20 < n) :
    Calls Try.prog 8 #[.slice a n c, .slice a1 n1 c1] w fun e w' => e = .returned (.bool true) ∧ Below w.heap.size w w' := by
  have hni : (20 : Int) < (n : Int) := by omega
  go_enter Try.func8, Try.ntmps8
  go_wp2_with (go_at_call 18; (with_reducible refine (awake_any _).mono ?_); rintro e1 w2 ⟨rfl, hb2⟩)
  go_ret
  exact ⟨rfl, hb2⟩

set_option maxRecDepth 100000 in
set_option maxHeartbeats 4000000 in
theorem joins_great (T : List P.Tab) (a a1 : Option Addr) (n c n1 c1 : Nat) (hn1 : n1 = T.length) (w : World) (hn : n ≤ 20) (hT : T.length ≤ 9223372036854775807) (hp1 : TabsAt w a1 T) (hg : P.greatE T [] = true) :
    Calls Try.prog 8 #[.slice a n c, .slice a1 n1 c1] w fun e w' => e = .returned (.bool true) ∧ Below w.heap.size w w' := by
  have HG := Lib.hid (show Calls Try.prog 19 #[.agg #[.slice a1 n1 c1, .slice none 0 0, .int .u64 0, .int .u64 0, .int .u64 0]] w fun e w' => e = .returned (.bool (P.greatE T [])) ∧ Below w.heap.size w w' from great_any T [] a1 none n1 c1 0 0 hn1 rfl w hT (by simp) hp1 0 0 0)
  rw [hg] at HG
  have hni : (n : Int) ≤ 20 := by omega
  clear hp1 hg hT hn1
  go_enter Try.func8, Try.ntmps8
  go_wp2_with (first
    | (go_at_call 19; (with_reducible refine HG.out.mono ?_); rintro e1 w1 ⟨rfl, hb1⟩)
    | (go_at_call 18; (with_reducible refine (awake_any _).mono ?_); rintro e1 w2 ⟨rfl, hb2⟩))
  go_ret
  exact ⟨rfl, Chain.up hb1 hb2⟩

set_option maxRecDepth 100000 in
set_option maxHeartbeats 8000000 in
theorem joins_few (l : List P.Ed) (T : List P.Tab) (a a1 : Option Addr) (n c n1 c1 : Nat) (hn : n = l.length) (hn1 : n1 = T.length) (w : World) (hn20 : n ≤ 20) (hl : ∀ e ∈ l, e.add.length ≤ 9223372036854775807 ∧ e.drop.length ≤ 9223372036854775807) (hp : EdsAt w a l) (hp1 : TabsAt w a1 T) (hg : P.greatE T [] = false) :
    Calls Try.prog 8 #[.slice a n c, .slice a1 n1 c1] w fun e w' => e = .returned (.bool true) ∧ Below w.heap.size w w' := by
  have hs60 := (P.greatE_no hg).1
  have HG := Lib.hid (show Calls Try.prog 19 #[.agg #[.slice a1 n1 c1, .slice none 0 0, .int .u64 0, .int .u64 0, .int .u64 0]] w fun e w' => e = .returned (.bool (P.greatE T [])) ∧ Below w.heap.size w w' from great_any T [] a1 none n1 c1 0 0 hn1 rfl w (by omega) (by simp) hp1 0 0 0)
  rw [hg] at HG
  have HP := Lib.hid hp
  have HT := Lib.hid (fun wx (hx : Below w.heap.size w wx) => RowsAt.up hp1 hx)
  have HL := Lib.hid hl
  have Hn := Lib.hid hn
  have Hn1 := Lib.hid hn1
  have hni : (n : Int) ≤ 20 := by omega
  have hn60 : n1 ≤ 60 := by omega
  clear hp hl hn hp1 hg hs60 hn1
  go_enter Try.func8, Try.ntmps8
  go_wp2_with (go_at_call 19; (with_reducible refine HG.out.mono ?_); rintro e1 w1 ⟨rfl, hb1⟩)
  clear HG
  go_loopw [5] (fun i wr => ∃ k : Nat, k ≤ n1 ∧ i = .int .i64 k ∧ (∀ (j : Nat) (hj : j < T.length), j < k → P.place T T[j].n = j) ∧ Below w.heap.size w wr) (fun i _ => n1 - (intOf i).toNat)
  case atStart => exact ⟨0, by omega, rfl, fun j hj h => by omega, hb1⟩
  case round =>
    clear hb1
    obtain ⟨k, hk, rfl, hpl, hb⟩ := hrel
    have Hpl := Lib.hid hpl
    clear hpl
    by_cases hlt : k < n1
    · have hlt' : k < T.length := by have := Hn1.out; omega
      have hTr := HT.out _ hb
      have HH := Lib.hid (has_any a1 n1 c1 T T[k].n Hn1.out wr (by have := Hn1.out; omega) hTr)
      obtain ⟨ba, oa, rfl, hba, k0, k1, k2, k3, k4, k5, k6, k7⟩ := tab_at hTr k hlt'
      clear hTr k1 k2 k3 k4 k5 k6 k7
      by_cases hpk : P.place T T[k].n = k
      · have Hnx := Lib.hid (show ∀ (j : Nat) (hj : j < T.length), j < k + 1 → P.place T T[j].n = j from fun j hj h => by
          by_cases hjk : j = k
          · subst hjk; exact hpk
          · exact Hpl.out j hj (by omega))
        rw [hpk] at HH
        clear hpk
        generalize T[k].n = q at *
        go_wp2_with (go_at_call 25; (with_reducible refine HH.out.mono ?_); rintro e2 w2 ⟨rfl, hb2⟩)
        go_roundw
        case rel => exact ⟨k + 1, by omega, by go_num, Hnx.out, Chain.up hb hb2⟩
        case measure => simp [intOf]; omega
      · have hne : (P.place T T[k].n == (k : Int)) = false := beq_eq_false_iff_ne.2 hpk
        generalize P.place T T[k].n = pq at *
        generalize T[k].n = q at *
        go_wp2_with (first
          | (go_at_call 25; (with_reducible refine HH.out.mono ?_); rintro e2 w2 ⟨rfl, hb2⟩)
          | (go_at_call 18; (with_reducible refine (awake_any _).mono ?_); rintro e1 w3 ⟨rfl, hb3⟩))
        go_ret
        exact ⟨rfl, Chain.up (Chain.up hb hb2) hb3⟩
    · obtain rfl : k = n1 := by omega
      have Hnd := Lib.hid (P.nodup_of_place (l := T) fun i hi => Hpl.out i hi (by have := Hn1.out; omega))
      clear Hpl hk hlt
      go_wp2_with fail
      go_loopw [6, 7, 8, 9, 10] (fun v6 v7 v8 v9 v10 wx => ∃ (i : Nat) (now : List P.Tab) (an : Option Addr) (cn : Nat), i ≤ n ∧ v6 = .slice an now.length cn ∧ v7 = V64 (P.topN P.Ed.log (l.take i)) ∧ v8 = V64 (P.topN P.Ed.seq (l.take i)) ∧ v9 = V64 (P.topN P.Ed.next (l.take i)) ∧ v10 = .int .i64 i ∧ (l.take i).foldlM P.doneE T = some now ∧ now.length ≤ 60 + 60 * i ∧ (∀ e ∈ l.take i, e.add.length ≤ 60 ∧ e.drop.length ≤ 60) ∧ TabsAt wx an now ∧ Below w.heap.size w wx) (fun _ _ _ _ v10 _ => n - (intOf v10).toNat)
      case atStart => exact ⟨0, T, a1, c1, by omega, by rw [Hn1.out], rfl, rfl, rfl, rfl, rfl, by have := Hn1.out; omega, by simp, HT.out _ hb, hb⟩
      case round =>
        clear hb
        rename_i wr0
        obtain ⟨i, now, an, cn, hi, rfl, rfl, rfl, rfl, rfl, hnow, hnl, h60, hat, hb⟩ := hrel
        have Hnow := Lib.hid hnow
        have H60 := Lib.hid h60
        clear hnow h60
        by_cases hlt : i < n
        · have hltl : i < l.length := by have := Hn.out; omega
          obtain ⟨bb, o, rfl, hbb, aa, ca, ab, cb, c0, c1', c2, c3, c4, hed⟩ := HP.out i hltl
          obtain ⟨hl1, hl2⟩ := HL.out _ (List.getElem_mem hltl)
          have HG := Lib.hid (fun wx (hx : Below w.heap.size w wx) => great_any l[i].add l[i].drop aa ab l[i].add.length ca l[i].drop.length cb rfl rfl wx hl1 hl2 (RowsAt.up hed.1 hx) l[i].log l[i].seq l[i].next)
          have p0 := cell_up hb c0
          have p1 := cell_up hb c1'
          have p2 := cell_up hb c2
          have p3 := cell_up hb c3
          have p4 := cell_up hb c4
          cases hgr : P.greatE l[i].add l[i].drop with
          | true =>
            rw [hgr] at HG
            clear hgr hed hl1 hl2
            generalize l[i] = x at *
            go_wp2_with (first
              | (go_at_call 19; (with_reducible refine (HG.out _ hb).mono ?_); rintro e1 w1 ⟨rfl, hb1⟩)
              | (go_at_call 18; (with_reducible refine (awake_any _).mono ?_); rintro e1 w2 ⟨rfl, hb2⟩))
            go_ret
            exact ⟨rfl, Chain.up (Chain.up hb hb1) hb2⟩
          | false =>
            rw [hgr] at HG
            have hs60 := P.greatE_no hgr
            have HDn := Lib.hid (fun wx (hx : Below w.heap.size w wx) (ht : TabsAt wx an now) => done_any now l[i] an aa ab now.length cn l[i].add.length ca l[i].drop.length cb rfl rfl rfl wx (by omega) (by omega) (by omega) ht (hed.up hx))
            have Hft := Lib.hid (P.fold_take P.doneE l i hltl T)
            rw [Hnow.out, Option.bind_some] at Hft
            have Ht1 := Lib.hid (P.topN_next P.Ed.log l i hltl)
            have Ht2 := Lib.hid (P.topN_next P.Ed.seq l i hltl)
            have Ht3 := Lib.hid (P.topN_next P.Ed.next l i hltl)
            have H60' := Lib.hid (show ∀ e ∈ l.take (i + 1), e.add.length ≤ 60 ∧ e.drop.length ≤ 60 from fun e he => by
              rw [List.take_succ_eq_append_getElem hltl] at he
              rcases List.mem_append.1 he with he | he
              · exact H60.out e he
              · rw [List.mem_singleton.1 he]; exact ⟨hs60.1, hs60.2.1⟩)
            have h60a := hs60.1
            clear hgr hed hl1 hl2 hs60 H60
            generalize l[i] = x at *
            generalize P.topN P.Ed.log (l.take i) = m1 at *
            generalize P.topN P.Ed.seq (l.take i) = m2 at *
            generalize P.topN P.Ed.next (l.take i) = m3 at *
            cases hdn : P.doneE now x with
            | none =>
              have HD0 := Lib.hid (fun wx (hx : Below w.heap.size w wx) (ht : TabsAt wx an now) => show Calls Try.prog 26 #[.slice an now.length cn, edV aa x.add.length ca ab x.drop.length cb x.log x.seq x.next] wx fun e w' => e = .returned (.tuple #[.slice none 0 0, .bool false]) ∧ Below wx.heap.size wx w' from
                (HDn.out wx hx ht).mono (by
                  rintro e w' ⟨⟨o', v, h1, _⟩ | ⟨_, rfl⟩, hb'⟩
                  · rw [hdn] at h1; cases h1
                  · exact ⟨rfl, hb'⟩))
              clear HDn hdn Hft Ht1 Ht2 Ht3 H60'
              go_wp2_with (first
                | (go_at_call 19; (with_reducible refine (HG.out _ hb).mono ?_); rintro e1 w1 ⟨rfl, hb1⟩; have hc1 := Chain.up hb hb1; have q0 := cell_up hb1 p0; have q1 := cell_up hb1 p1; have q2 := cell_up hb1 p2; have q3 := cell_up hb1 p3; have q4 := cell_up hb1 p4; have hat1 := RowsAt.up hat hb1)
                | (go_at_call 26; (with_reducible refine (HD0.out _ hc1 hat1).mono ?_); rintro e1 w2 ⟨rfl, hb2⟩)
                | (go_at_call 18; (with_reducible refine (awake_any _).mono ?_); rintro e1 w3 ⟨rfl, hb3⟩))
              go_ret
              exact ⟨rfl, Chain.up (Chain.up hc1 hb2) hb3⟩
            | some o' =>
              have HD1 := Lib.hid (fun wx (hx : Below w.heap.size w wx) (ht : TabsAt wx an now) => show Calls Try.prog 26 #[.slice an now.length cn, edV aa x.add.length ca ab x.drop.length cb x.log x.seq x.next] wx fun e w' => ∃ a' c', e = .returned (.tuple #[.slice a' o'.length c', .bool true]) ∧ TabsAt w' a' o' ∧ o'.length ≤ now.length + x.add.length ∧ Below wx.heap.size wx w' from
                (HDn.out wx hx ht).mono (by
                  rintro e w' ⟨⟨o2, v, h1, h2, rfl, h3⟩ | ⟨h1, _⟩, hb'⟩
                  · rw [hdn] at h1
                    injection h1 with h1
                    subst h1
                    obtain ⟨a', c', rfl, h4, _⟩ := h3.is tabCells_len
                    exact ⟨a', c', rfl, h4, h2, hb'⟩
                  · rw [hdn] at h1; cases h1))
              rw [hdn] at Hft
              clear HDn hdn
              go_wp2_with (first
                | (go_at_call 19; (with_reducible refine (HG.out _ hb).mono ?_); rintro e1 w1 ⟨rfl, hb1⟩; have hc1 := Chain.up hb hb1; have q0 := cell_up hb1 p0; have q1 := cell_up hb1 p1; have q2 := cell_up hb1 p2; have q3 := cell_up hb1 p3; have q4 := cell_up hb1 p4; have hat1 := RowsAt.up hat hb1)
                | (go_at_call 26; (with_reducible refine (HD1.out _ hc1 hat1).mono ?_); rintro e1 w2 ⟨a', c', rfl, hat2, hol, hb2⟩; have hc2 := Chain.up hc1 hb2; have r2 := cell_up hb2 q2; have r3 := cell_up hb2 q3; have r4 := cell_up hb2 q4))
              clear p0 p1 p2 p3 p4 q0 q1 q2 q3 q4 hb1 hb2 hc1 hat1 hat hb
              go_quiet (fail)
              go_wp2_with fail
              go_roundw
              case rel => exact ⟨i + 1, o', a', c', by omega, rfl, by rw [Ht1.out, P.more_is], by rw [Ht2.out, P.more_is], by rw [Ht3.out, P.more_is], by go_num, Hft.out, by omega, H60'.out, RowsAt.up hat2 (below_drewN (Below.refl _ _) _), below_drewN hc2 _⟩
              case measure => simp [intOf]; omega
        · obtain rfl : i = n := by omega
          have htk : l.take i = l := List.take_of_length_le (by have := Hn.out; omega)
          rw [htk] at Hnow H60 ⊢
          have hfew : P.few l := ⟨by have := Hn.out; omega, H60.out⟩
          have hjl := P.joinL_len l hfew
          have hdj := P.done_all l T now Hnd.out Hnow.out
          have Hnn := Lib.hid (P.nodup_fold l T now Hnd.out Hnow.out)
          have HJ := Lib.hid (join_list l a i c Hn.out wr hfew (EdsAt.up HP.out hb))
          have HD := Lib.hid (fun wx (hx : Below w.heap.size w wx) (aa ab : Option Addr) (ca cb : Nat) (he : EdAt wx aa ab (P.joinL l)) => done_any T (P.joinL l) a1 aa ab k c1 (P.joinL l).add.length ca (P.joinL l).drop.length cb Hn1.out rfl rfl wx (by omega) (by omega) (by omega) (HT.out _ hx) he)
          rw [hdj, show (P.joinL l).log = P.topN P.Ed.log l from (P.joinL_tops l).1, show (P.joinL l).seq = P.topN P.Ed.seq l from (P.joinL_tops l).2.1, show (P.joinL l).next = P.topN P.Ed.next l from (P.joinL_tops l).2.2] at HD
          rw [show (P.joinL l).log = P.topN P.Ed.log l from (P.joinL_tops l).1, show (P.joinL l).seq = P.topN P.Ed.seq l from (P.joinL_tops l).2.1, show (P.joinL l).next = P.topN P.Ed.next l from (P.joinL_tops l).2.2] at HJ
          clear hfew hdj htk Hnow H60
          generalize P.topN P.Ed.log l = m1 at *
          generalize P.topN P.Ed.seq l = m2 at *
          generalize P.topN P.Ed.next l = m3 at *
          generalize P.joinL l = jl at *
          generalize hna : jl.add.length = na at *
          generalize hnd : jl.drop.length = nd at *
          have HD1 := Lib.hid (fun wx (hx : Below w.heap.size w wx) (aa ab : Option Addr) (ca cb : Nat) (he : EdAt wx aa ab jl) => show Calls Try.prog 26 #[.slice a1 k c1, edV aa na ca ab nd cb m1 m2 m3] wx fun e w' => ∃ a' c', e = .returned (.tuple #[.slice a' now.length c', .bool true]) ∧ TabsAt w' a' now ∧ Below wx.heap.size wx w' from
            (HD.out wx hx aa ab ca cb he).mono (by
              rintro e w' ⟨⟨o2, v, h1, h2, rfl, h3⟩ | ⟨h1, _⟩, hb'⟩
              · injection h1 with h1
                subst h1
                obtain ⟨a', c', rfl, h4, _⟩ := h3.is tabCells_len
                exact ⟨a', c', rfl, h4, hb'⟩
              · cases h1))
          clear HD
          go_wp2_with (first
            | (go_at_call 17; (with_reducible refine HJ.out.mono ?_); rintro e w1 ⟨va1, va2, rfl, hT, hN, hb1⟩; obtain ⟨a2, c2, hv1, hTa, _⟩ := hT.is tabCells_len; obtain ⟨b2, d2, hv2, hNa, _⟩ := hN.is numCells_len; rw [hna] at hv1; rw [hnd] at hv2; subst hv1 hv2; have hc1 := Chain.up hb hb1; have hal := (Below.refl w1.heap.size w1).alloc (Nat.le_refl _) (.cells #[.slice a2 na c2, .slice b2 nd d2, V64 m1, V64 m2, V64 m3] 29); have hx1 := Bx.fresh w1 29 #[.slice a2 na c2, .slice b2 nd d2, V64 m1, V64 m2, V64 m3]; have he1 : EdAt _ a2 b2 jl := ⟨RowsAt.up hTa hal, NumsAt.of (RowsAt.up hNa hal)⟩; have hc1a := Chain.up hc1 hal)
            | (go_at_call 26; (with_reducible refine (HD1.out _ hc1a a2 b2 c2 d2 he1).mono ?_); rintro e w2 ⟨a', c', rfl, hat2, hb2⟩; obtain ⟨q0, q1, q2, q3, q4⟩ := (hx1.up hb2).five))
          have hatn := RowsAt.up (RowsAt.up (RowsAt.up hat hb1) hal) hb2
          have hc2 := Chain.up hc1a hb2
          have hnb : now.length ≤ 1260 := by omega
          clear q0 q1 q2 q3 q4 hx1 he1 hal hT hN hTa hNa hb1 hb2 hc1 hc1a hat hb HJ HD1
          go_loopw [15] (fun v15 wx => ∃ j : Nat, j ≤ now.length ∧ v15 = .int .i64 j ∧ Below w2.heap.size w2 wx) (fun v15 _ => now.length - (intOf v15).toNat)
          case atStart => exact ⟨0, by omega, rfl, Below.refl _ _⟩
          case round =>
            rename_i wr5
            obtain ⟨j, hj, rfl, hb5⟩ := hrel
            have hO := RowsAt.up hat2 hb5
            have hN5 := RowsAt.up hatn hb5
            by_cases hjt : j < now.length
            · have HH := Lib.hid (fun wx (hx : Below w2.heap.size w2 wx) => has_any a' now.length c' now now[j].n rfl wx (by omega) (RowsAt.up hat2 hx))
              rw [P.place_of_nodup Hnn.out j hjt] at HH
              obtain ⟨bo, oo, rfl, hbo, c0, c1', c2', c3, c4, c5, c6, c7⟩ := tab_at hN5 j hjt
              obtain ⟨bp, op, rfl, hbp, d0, d1, d2', d3, d4, d5, d6, d7⟩ := tab_at hO j hjt
              clear hO hN5
              generalize now[j] = t at *
              generalize hlen : now.length = nl at *
              have hj0 : decide ((j : Int) < 0) = false := decide_eq_false (by omega)
              go_wp2_with (go_at_call 25; (with_reducible refine (HH.out _ hb5).mono ?_); rintro e w6 ⟨rfl, hb6⟩; have x0 := cell_up hb6 c0; have x1 := cell_up hb6 c1'; have x2 := cell_up hb6 c2'; have x3 := cell_up hb6 c3; have x4 := cell_up hb6 c4; have x5 := cell_up hb6 c5; have x6 := cell_up hb6 c6; have x7 := cell_up hb6 c7; have y0 := cell_up hb6 d0; have y1 := cell_up hb6 d1; have y2 := cell_up hb6 d2'; have y3 := cell_up hb6 d3; have y4 := cell_up hb6 d4; have y5 := cell_up hb6 d5; have y6 := cell_up hb6 d6; have y7 := cell_up hb6 d7)
              have hc6 := Chain.up hb5 hb6
              clear c0 c1' c2' c3 c4 c5 c6 c7 d0 d1 d2' d3 d4 d5 d6 d7 hb5 hb6
              go_quiet (fail)
              go_wp2_with fail
              go_roundw
              case rel => exact ⟨j + 1, by omega, by go_num, below_drewN hc6 _⟩
              case measure => simp [intOf]; omega
            · obtain rfl : j = now.length := by omega
              go_wp2_with (go_at_call 18; (with_reducible refine (awake_any _).mono ?_); rintro e1 w7 ⟨rfl, hb7⟩)
              go_ret
              exact ⟨rfl, Chain.up (Chain.up hc2 hb5) hb7⟩

theorem law_joins (l : List P.Ed) (a : Option Addr) (n c : Nat) (T : List P.Tab) (a1 : Option Addr) (n1 c1 : Nat) (w : World) (hn : l.length = n) (hl : ∀ e ∈ l, e.add.length ≤ 9223372036854775807 ∧ e.drop.length ≤ 9223372036854775807) (hp : EdsAt w a l) (hn1 : T.length = n1) (hT : T.length ≤ 9223372036854775807) (hp1 : TabsAt w a1 T) :
    Calls Try.prog 8 #[.slice a n c, .slice a1 n1 c1] w fun e w' => e = .returned (.bool true) ∧ Below w.heap.size w w' := by
  by_cases h : n ≤ 20
  · cases hg : P.greatE T [] with
    | true => exact joins_great T a a1 n c n1 c1 hn1.symm w h hT hp1 hg
    | false => exact joins_few l T a a1 n c n1 c1 hn.symm hn1.symm w h hl hp hp1 hg
  · exact joins_many a a1 n c n1 c1 w (by omega)
end Go.Proofs.Ythpgigjplknomaa
