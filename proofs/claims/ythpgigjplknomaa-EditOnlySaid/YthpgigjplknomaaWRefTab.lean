/- The walk of the document's table. -/
import Derived.Test.YthpgigjplknomaaWRefNum
import Derived.Test.YthpgigjplknomaaWInv
namespace Go.Proofs.Ythpgigjplknomaa
open Go.RowKit
set_option linter.unusedVariables false
set_option linter.unusedSimpArgs false
attribute [local go_sem] str_dropN

abbrev noTabV : Value := .agg #[.int .u64 0, .int .i64 0, .int .i64 0, .int .i64 0, S [], S [], .int .u64 0, .int .u64 0]
/-- What table gives back. -/
def TabE (n : Nat) (o : Option (P.Tab × List UInt8)) (e : Ending) : Prop := match o with
  | some q => e = .returned (.tuple #[tabV q.1, .int .i64 ((n - q.2.length : Nat) : Int)])
  | none => e = .returned (.tuple #[noTabV, .int .i64 (-1)])
theorem six_at {w : World} {B b o c : Nat} {n0 n1 n2 n3 n4 n5 : Nat} (h : OwnNums w B (.slice (some ⟨b, o, none⟩) 6 c) [n0, n1, n2, n3, n4, n5]) :
    w.cell? ⟨b, o, none⟩ = some (V64 n0) ∧ w.cell? ⟨b, o + 1, none⟩ = some (V64 n1) ∧ w.cell? ⟨b, o + 2, none⟩ = some (V64 n2) ∧ w.cell? ⟨b, o + 3, none⟩ = some (V64 n3) ∧ w.cell? ⟨b, o + 4, none⟩ = some (V64 n4) ∧ w.cell? ⟨b, o + 5, none⟩ = some (V64 n5) := by
  have hr := NumsAt.of (h.at numCells_len)
  have f : ∀ i (hi : i < [n0, n1, n2, n3, n4, n5].length), w.cell? ⟨b, o + i, none⟩ = some (V64 [n0, n1, n2, n3, n4, n5][i]) := fun i hi => by
    obtain ⟨b', o', e, _, hc⟩ := hr i hi
    injection e with e
    injection e with e1 e2
    subst e1 e2
    exact hc
  exact ⟨f 0 (by simp), f 1 (by simp), f 2 (by simp), f 3 (by simp), f 4 (by simp), f 5 (by simp)⟩
theorem own8 {w : World} {B g : Nat} {v : Value} {l : List Nat} (h : OwnNums w B v l) (hg : g < B) (v0 v1 v2 v3 v4 v5 v6 v7 : Value) :
    OwnNums ((((((((w.setCell ⟨g, 0, none⟩ v0).setCell ⟨g, 1, none⟩ v1).setCell ⟨g, 2, none⟩ v2).setCell ⟨g, 3, none⟩ v3).setCell ⟨g, 4, none⟩ v4).setCell ⟨g, 5, none⟩ v5).setCell ⟨g, 6, none⟩ v6).setCell ⟨g, 7, none⟩ v7) B v l :=
by
  have h0 := h.other hg 0 v0
  have h1 := h0.other hg 1 v1
  have h2 := h1.other hg 2 v2
  have h3 := h2.other hg 3 v3
  have h4 := h3.other hg 4 v4
  have h5 := h4.other hg 5 v5
  have h6 := h5.other hg 6 v6
  exact h6.other hg 7 v7
theorem Bx.set8 {w : World} {g : Nat} {t : TypeId} {a0 a1 a2 a3 a4 a5 a6 a7 : Value} (h : Bx w g t #[a0, a1, a2, a3, a4, a5, a6, a7]) (v0 v1 v2 v3 v4 v5 v6 v7 : Value) :
    Bx ((((((((w.setCell ⟨g, 0, none⟩ v0).setCell ⟨g, 1, none⟩ v1).setCell ⟨g, 2, none⟩ v2).setCell ⟨g, 3, none⟩ v3).setCell ⟨g, 4, none⟩ v4).setCell ⟨g, 5, none⟩ v5).setCell ⟨g, 6, none⟩ v6).setCell ⟨g, 7, none⟩ v7) g t #[v0, v1, v2, v3, v4, v5, v6, v7] := by
  have h0 := h.set 0 v0
  have h1 := h0.set 1 v1
  have h2 := h1.set 2 v2
  have h3 := h2.set 3 v3
  have h4 := h3.set 4 v4
  have h5 := h4.set 5 v5
  have h6 := h5.set 6 v6
  simpa using h6.set 7 v7
theorem below_set8 {B : Nat} {a w : World} (h : Below B a w) {g : Nat} (hg : B ≤ g) (v0 v1 v2 v3 v4 v5 v6 v7 : Value) :
    Below B a ((((((((w.setCell ⟨g, 0, none⟩ v0).setCell ⟨g, 1, none⟩ v1).setCell ⟨g, 2, none⟩ v2).setCell ⟨g, 3, none⟩ v3).setCell ⟨g, 4, none⟩ v4).setCell ⟨g, 5, none⟩ v5).setCell ⟨g, 6, none⟩ v6).setCell ⟨g, 7, none⟩ v7) :=
by
  have h0 := h.setCell (p := ⟨g, 0, none⟩) hg v0
  have h1 := h0.setCell (p := ⟨g, 1, none⟩) hg v1
  have h2 := h1.setCell (p := ⟨g, 2, none⟩) hg v2
  have h3 := h2.setCell (p := ⟨g, 3, none⟩) hg v3
  have h4 := h3.setCell (p := ⟨g, 4, none⟩) hg v4
  have h5 := h4.setCell (p := ⟨g, 5, none⟩) hg v5
  have h6 := h5.setCell (p := ⟨g, 6, none⟩) hg v6
  exact h6.setCell (p := ⟨g, 7, none⟩) hg v7
theorem Bx.eightF {w : World} {g : Nat} {t : TypeId} {cs : Array Value} (h : Bx w g t cs) : (w.frozen? ⟨g, 0, none⟩ = false ∧ w.frozen? ⟨g, 1, none⟩ = false ∧ w.frozen? ⟨g, 2, none⟩ = false ∧ w.frozen? ⟨g, 3, none⟩ = false) ∧ w.frozen? ⟨g, 4, none⟩ = false ∧ w.frozen? ⟨g, 5, none⟩ = false ∧ w.frozen? ⟨g, 6, none⟩ = false ∧ w.frozen? ⟨g, 7, none⟩ = false :=
  ⟨⟨h.frozen 0, h.frozen 1, h.frozen 2, h.frozen 3⟩, h.frozen 4, h.frozen 5, h.frozen 6, h.frozen 7⟩

set_option maxRecDepth 100000 in
set_option maxHeartbeats 8000000 in
theorem table_any (s : List UInt8) (w : World) (hs : s.length ≤ 524288) :
    Calls Try.prog 44 #[S s] w fun e w' => TabE s.length (P.rdTabR s) e ∧ Below w.heap.size w w' := by
  have hx2 := Bx.fresh w 31 #[.int .u64 0, .int .i64 0, .int .i64 0, .int .i64 0, S [], S [], .int .u64 0, .int .u64 0]
  have ha := (Below.refl w.heap.size w).alloc (Nat.le_refl _) (.cells #[.int .u64 0, .int .i64 0, .int .i64 0, .int .i64 0, S [], S [], .int .u64 0, .int .u64 0] 31)
  have hsz := World.size_alloc w (.cells #[.int .u64 0, .int .i64 0, .int .i64 0, .int .i64 0, S [], S [], .int .u64 0, .int .u64 0] 31)
  have hB : w.heap.size ≤ (w.alloc (.cells #[.int .u64 0, .int .i64 0, .int .i64 0, .int .i64 0, S [], S [], .int .u64 0, .int .u64 0] 31)).heap.size := ha.size
  have HN := Lib.hid (numbers_any s 6 6 rfl (w.alloc (.cells #[.int .u64 0, .int .i64 0, .int .i64 0, .int .i64 0, S [], S [], .int .u64 0, .int .u64 0] 31)) hs (by omega))
  have hlt0 : w.heap.size < (w.alloc (.cells #[.int .u64 0, .int .i64 0, .int .i64 0, .int .i64 0, S [], S [], .int .u64 0, .int .u64 0] 31)).heap.size := by simp
  clear hsz
  cases h6 : P.rdNums 6 s with
  | none =>
    have Hr := Lib.hid (show P.rdTabR s = none by unfold P.rdTabR; rw [P.tab_no6 h6]; rfl)
    have e1 : P.nz 6 s = -1 := by unfold P.nz; rw [h6]; rfl
    have e2 : P.nl 6 s = [] := by unfold P.nl; rw [h6]; rfl
    rw [e1, e2] at HN
    clear h6 e1 e2
    go_enter Try.func44, Try.ntmps44
    go_wp2_with (go_at_call 45; (with_reducible refine HN.out.mono ?_); rintro e w1 ⟨v, rfl, hown, hb1⟩; have hx21 := hx2.up hb1; obtain ⟨⟨p0, p1, p2, p3⟩, p4, p5, p6, p7⟩ := hx21.eight; obtain ⟨⟨q0, q1, q2, q3⟩, q4, q5, q6, q7⟩ := hx21.eightF)
    obtain ⟨⟨r0, r1, r2, r3⟩, r4, r5, r6, r7⟩ := (hx21.set8 (.int .u64 0) (.int .i64 0) (.int .i64 0) (.int .i64 0) (S []) (S []) (.int .u64 0) (.int .u64 0)).eight
    have hbf := below_set8 (Chain.up ha hb1) (Nat.le_refl _) (.int .u64 0) (.int .i64 0) (.int .i64 0) (.int .i64 0) (S []) (S []) (.int .u64 0) (.int .u64 0)
    exact bodyPost_ret (v := .tuple #[noTabV, .int .i64 (-1)]) (by simp [results, Try.results44, go_sem, r0, r1, r2, r3, r4, r5, r6, r7]) rfl ⟨by rw [Hr.out]; exact rfl, hbf⟩
  | some q =>
    obtain ⟨l, r⟩ := q
    obtain ⟨n, lv, ct, sz, le, mo, s1, s2, s3, s4, s5, rfl, _⟩ := P.rdNums_six h6
    obtain ⟨hr, hrl⟩ := P.rdNums_drop h6
    have Hr := Lib.hid (P.tabR_six h6)
    have e1 : P.nz 6 s = ((s.length - r.length : Nat) : Int) := by unfold P.nz; rw [h6]; rfl
    have e2 : P.nl 6 s = [n, lv, ct, sz, le, mo] := by unfold P.nl; rw [h6]; rfl
    rw [e1, e2] at HN
    have hat : s.length - r.length ≤ s.length := by omega
    generalize s.length - r.length = a at *
    subst hr
    clear h6 e1 e2 hrl
    have HT := Lib.hid (fun wx => refReadText_any (s.drop a) 64 wx (by rw [List.length_drop]; omega) (by omega) (by omega))
    by_cases hlv : lv ≤ 3 ∧ ct ≤ 9223372036854775807 ∧ sz ≤ 9223372036854775807
    · have Hr1 := Lib.hid (show P.rdTabR s = _ from by rw [Hr.out, if_pos hlv])
      clear Hr
      obtain ⟨h1, h2, h3⟩ := hlv
      have i1 : (lv : Int) ≤ 3 := by omega
      have i2 : (ct : Int) ≤ 9223372036854775807 := by omega
      have i3 : (sz : Int) ≤ 9223372036854775807 := by omega
      cases hok : P.tOk (s.drop a) 64 with
      | false =>
        have Hn := Lib.hid (show P.rdTabR s = none by rw [Hr1.out]; unfold P.rdT; rw [hok]; simp)
        rw [hok] at HT
        clear Hr1 hok
        generalize P.tText (s.drop a) 64 = tx at *
        generalize P.tSize (s.drop a) 64 = ts at *
        go_enter Try.func44, Try.ntmps44
        go_wp2_with (first
          | (go_at_call 45; (with_reducible refine HN.out.mono ?_); rintro e w1 ⟨v, rfl, hown, hb1⟩; obtain ⟨aa, ca, hv, hrows, _⟩ := hown.is numCells_len; (subst hv); obtain ⟨bb, oo, haa, _, _⟩ := hrows 0 (by simp); (subst haa); obtain ⟨g0, g1, g2, g3, g4, g5⟩ := six_at hown; have hx21 := hx2.up hb1)
          | (go_at_call 57; (with_reducible refine (HT.out _).mono ?_); rintro e w2 ⟨rfl, hb2⟩; have hx22 := hx21.up hb2; obtain ⟨⟨p0, p1, p2, p3⟩, p4, p5, p6, p7⟩ := hx22.eight; obtain ⟨⟨q0, q1, q2, q3⟩, q4, q5, q6, q7⟩ := hx22.eightF))
        obtain ⟨⟨r0, r1, r2, r3⟩, r4, r5, r6, r7⟩ := (hx22.set8 (.int .u64 0) (.int .i64 0) (.int .i64 0) (.int .i64 0) (S []) (S []) (.int .u64 0) (.int .u64 0)).eight
        have hbf := below_set8 (Chain.up (Chain.up ha hb1) hb2) (Nat.le_refl _) (.int .u64 0) (.int .i64 0) (.int .i64 0) (.int .i64 0) (S []) (S []) (.int .u64 0) (.int .u64 0)
        exact bodyPost_ret (v := .tuple #[noTabV, .int .i64 (-1)]) (by simp [results, Try.results44, go_sem, r0, r1, r2, r3, r4, r5, r6, r7]) rfl ⟨by rw [Hn.out]; exact rfl, hbf⟩
      | true =>
        obtain ⟨_, htl, _⟩ := P.tOk_row hok
        rw [List.length_drop] at htl
        have Hr2 := Lib.hid (show P.rdTabR s = (do let (b, s8) ← P.rdT (s.drop (a + P.tSize (s.drop a) 64)); some (⟨n, lv, ct, sz, P.tText (s.drop a) 64, b, le, mo⟩, s8)) by
          rw [Hr1.out]
          have : P.rdT (s.drop a) = some (P.tText (s.drop a) 64, s.drop (a + P.tSize (s.drop a) 64)) := by unfold P.rdT; rw [if_pos hok, List.drop_drop]
          simp only [this, Option.bind_eq_bind, Option.bind_some])
        rw [hok] at HT
        clear Hr1 hok
        generalize P.tText (s.drop a) 64 = tx at *
        generalize P.tSize (s.drop a) 64 = ts at *
        have HT2 := Lib.hid (fun wx => refReadText_any (s.drop (a + ts)) 64 wx (by rw [List.length_drop]; omega) (by omega) (by omega))
        have hwa : IntKind.i64.wrap ((a : Int) + (ts : Int)) = ((a + ts : Nat) : Int) := by rw [IntWalk.i64_in _ (by omega)]; omega
        have hle : a + ts ≤ s.length := by omega
        cases hok2 : P.tOk (s.drop (a + ts)) 64 with
        | false =>
          have Hn := Lib.hid (show P.rdTabR s = none by rw [Hr2.out]; unfold P.rdT; rw [hok2]; simp)
          rw [hok2] at HT2
          clear Hr2 hok2
          generalize P.tText (s.drop (a + ts)) 64 = tx2 at *
          generalize P.tSize (s.drop (a + ts)) 64 = ts2 at *
          go_enter Try.func44, Try.ntmps44
          go_wp2_with (first
            | (go_at_call 45; (with_reducible refine HN.out.mono ?_); rintro e w1 ⟨v, rfl, hown, hb1⟩; obtain ⟨aa, ca, hv, hrows, _⟩ := hown.is numCells_len; (subst hv); obtain ⟨bb, oo, haa, _, _⟩ := hrows 0 (by simp); (subst haa); obtain ⟨g0, g1, g2, g3, g4, g5⟩ := six_at hown; have hx21 := hx2.up hb1)
            | (go_at_call 57; (with_reducible refine (HT.out _).mono ?_); rintro e w2 ⟨rfl, hb2⟩; have hx22 := hx21.up hb2)
            | (go_at_call 57; (with_reducible refine (HT2.out _).mono ?_); rintro e w3 ⟨rfl, hb3⟩; have hx23 := hx22.up hb3; obtain ⟨⟨p0, p1, p2, p3⟩, p4, p5, p6, p7⟩ := hx23.eight; obtain ⟨⟨q0, q1, q2, q3⟩, q4, q5, q6, q7⟩ := hx23.eightF))
          obtain ⟨⟨r0, r1, r2, r3⟩, r4, r5, r6, r7⟩ := (hx23.set8 (.int .u64 0) (.int .i64 0) (.int .i64 0) (.int .i64 0) (S []) (S []) (.int .u64 0) (.int .u64 0)).eight
          have hbf := below_set8 (Chain.up (Chain.up (Chain.up ha hb1) hb2) hb3) (Nat.le_refl _) (.int .u64 0) (.int .i64 0) (.int .i64 0) (.int .i64 0) (S []) (S []) (.int .u64 0) (.int .u64 0)
          exact bodyPost_ret (v := .tuple #[noTabV, .int .i64 (-1)]) (by simp [results, Try.results44, go_sem, r0, r1, r2, r3, r4, r5, r6, r7]) rfl ⟨by rw [Hn.out]; exact rfl, hbf⟩
        | true =>
          obtain ⟨_, htl2, _⟩ := P.tOk_row hok2
          rw [List.length_drop] at htl2
          have Hn := Lib.hid (show P.rdTabR s = some (⟨n, lv, ct, sz, tx, P.tText (s.drop (a + ts)) 64, le, mo⟩, s.drop (a + ts + P.tSize (s.drop (a + ts)) 64)) by
            rw [Hr2.out]
            have : P.rdT (s.drop (a + ts)) = some (P.tText (s.drop (a + ts)) 64, s.drop (a + ts + P.tSize (s.drop (a + ts)) 64)) := by unfold P.rdT; rw [if_pos hok2, List.drop_drop]
            simp only [this, Option.bind_eq_bind, Option.bind_some])
          rw [hok2] at HT2
          clear Hr2 hok2
          generalize P.tText (s.drop (a + ts)) 64 = tx2 at *
          generalize P.tSize (s.drop (a + ts)) 64 = ts2 at *
          have hfin : s.length - (s.drop (a + ts + ts2)).length = a + ts + ts2 := by rw [List.length_drop]; omega
          have Hfin := Lib.hid hfin
          clear hfin
          have hw1 : IntKind.i64.wrap (lv : Int) = (lv : Int) := IntWalk.i64_in _ (by omega)
          have hw2 : IntKind.i64.wrap (ct : Int) = (ct : Int) := IntWalk.i64_in _ (by omega)
          have hw3 : IntKind.i64.wrap (sz : Int) = (sz : Int) := IntWalk.i64_in _ (by omega)
          have hwb : IntKind.i64.wrap ((a : Int) + (ts : Int) + (ts2 : Int)) = ((a + ts + ts2 : Nat) : Int) := by rw [IntWalk.i64_in _ (by omega)]; omega
          go_enter Try.func44, Try.ntmps44
          go_wp2_with (first
            | (go_at_call 45; (with_reducible refine HN.out.mono ?_); rintro e w1 ⟨v, rfl, hown, hb1⟩; obtain ⟨aa, ca, hv, hrows, _⟩ := hown.is numCells_len; (subst hv); obtain ⟨bb, oo, haa, _, _⟩ := hrows 0 (by simp); (subst haa); obtain ⟨g0, g1, g2, g3, g4, g5⟩ := six_at hown; have hx21 := hx2.up hb1)
            | (go_at_call 57; (with_reducible refine (HT.out _).mono ?_); rintro e w2 ⟨rfl, hb2⟩; have hx22 := hx21.up hb2; have hown2 := OwnR.up hown hb2)
            | (go_at_call 57; (with_reducible refine (HT2.out _).mono ?_); rintro e w3 ⟨rfl, hb3⟩; have hx23 := hx22.up hb3; have hown3 := OwnR.up hown2 hb3))
          have hsz0 := hlt0
          obtain ⟨⟨p0, p1, p2, p3⟩, p4, p5, p6, p7⟩ := hx23.eight
          obtain ⟨⟨q0, q1, q2, q3⟩, q4, q5, q6, q7⟩ := hx23.eightF
          refine wp_region_held_drew (S := fun wx => OwnNums wx _ (.slice (some ⟨bb, oo, none⟩) 6 ca) [n, lv, ct, sz, le, mo]) (by kernel_rfl) hown3 (fun hHeld => ?_)
          -- REGION 11
          refine wpAnyH_take (i := 0) (v := ?_) rfl (by kernel_rfl) (by kernel_rfl) (by kernel_rfl) (fun _ _ _ h => h) (Or.inl ⟨by rfl, ?_⟩) hHeld ?_
          rotate_left
          · intro wq hSw; go_simp; (try with_reducible rfl)
          simp only [Act.put, List.getElem_toArray, List.getElem_cons_succ, List.getElem_cons_zero, List.setIfInBounds_toArray, List.set_cons_zero, List.set_cons_succ]
          refine wpAnyH_take (i := 1) (v := ?_) rfl (by kernel_rfl) (by kernel_rfl) (by kernel_rfl) (fun _ _ _ h => h) (Or.inl ⟨by rfl, ?_⟩) hHeld ?_
          rotate_left
          · intro wq hSw; go_simp; (try with_reducible rfl)
          simp only [Act.put, List.getElem_toArray, List.getElem_cons_succ, List.getElem_cons_zero, List.setIfInBounds_toArray, List.set_cons_zero, List.set_cons_succ]
          refine wpAnyH_take (i := 2) (v := ?_) rfl (by kernel_rfl) (by kernel_rfl) (by kernel_rfl) (fun _ _ _ h => h) (Or.inl ⟨by rfl, ?_⟩) hHeld ?_
          rotate_left
          · intro wq hSw; obtain ⟨g0, g1, g2, g3, g4, g5⟩ := six_at hSw; go_simp; (try with_reducible rfl)
          simp only [Act.put, List.getElem_toArray, List.getElem_cons_succ, List.getElem_cons_zero, List.setIfInBounds_toArray, List.set_cons_zero, List.set_cons_succ]
          refine wpAnyH_take (i := 3) (v := ?_) rfl (by kernel_rfl) (by kernel_rfl) (by kernel_rfl) (fun _ _ _ h => h) (Or.inl ⟨by rfl, ?_⟩) hHeld ?_
          rotate_left
          · intro wq hSw; go_simp; (try with_reducible rfl)
          simp only [Act.put, List.getElem_toArray, List.getElem_cons_succ, List.getElem_cons_zero, List.setIfInBounds_toArray, List.set_cons_zero, List.set_cons_succ]
          refine wpAnyH_take (i := 4) (v := ?_) rfl (by kernel_rfl) (by kernel_rfl) (by kernel_rfl) (fun _ _ _ h => h) (Or.inl ⟨by rfl, ?_⟩) hHeld ?_
          rotate_left
          · intro wq hSw; go_simp; (try with_reducible rfl)
          simp only [Act.put, List.getElem_toArray, List.getElem_cons_succ, List.getElem_cons_zero, List.setIfInBounds_toArray, List.set_cons_zero, List.set_cons_succ]
          refine wpAnyH_take (i := 5) (v := ?_) rfl (by kernel_rfl) (by kernel_rfl) (by kernel_rfl) (fun _ _ _ h => h) (Or.inl ⟨by rfl, ?_⟩) hHeld ?_
          rotate_left
          · intro wq hSw; obtain ⟨g0, g1, g2, g3, g4, g5⟩ := six_at hSw; go_simp; (try with_reducible rfl)
          simp only [Act.put, List.getElem_toArray, List.getElem_cons_succ, List.getElem_cons_zero, List.setIfInBounds_toArray, List.set_cons_zero, List.set_cons_succ]
          refine wpAnyH_take (i := 6) (v := ?_) rfl (by kernel_rfl) (by kernel_rfl) (by kernel_rfl) (fun _ _ _ h => h) (Or.inl ⟨by rfl, ?_⟩) hHeld ?_
          rotate_left
          · intro wq hSw; go_simp; (try with_reducible rfl)
          simp only [Act.put, List.getElem_toArray, List.getElem_cons_succ, List.getElem_cons_zero, List.setIfInBounds_toArray, List.set_cons_zero, List.set_cons_succ]
          refine wpAnyH_take (i := 7) (v := ?_) rfl (by kernel_rfl) (by kernel_rfl) (by kernel_rfl) (fun _ _ _ h => h) (Or.inl ⟨by rfl, ?_⟩) hHeld ?_
          rotate_left
          · intro wq hSw; go_simp; (try with_reducible rfl)
          simp only [Act.put, List.getElem_toArray, List.getElem_cons_succ, List.getElem_cons_zero, List.setIfInBounds_toArray, List.set_cons_zero, List.set_cons_succ]
          refine wpAnyH_take (i := 8) (v := ?_) rfl (by kernel_rfl) (by kernel_rfl) (by kernel_rfl) (fun _ _ _ h => h) (Or.inl ⟨by rfl, ?_⟩) hHeld ?_
          rotate_left
          · intro wq hSw; go_simp; (try with_reducible rfl)
          simp only [Act.put, List.getElem_toArray, List.getElem_cons_succ, List.getElem_cons_zero, List.setIfInBounds_toArray, List.set_cons_zero, List.set_cons_succ]
          refine wpAnyH_take (i := 9) (v := ?_) rfl (by kernel_rfl) (by kernel_rfl) (by kernel_rfl) (fun _ _ _ h => h) (Or.inl ⟨by rfl, ?_⟩) hHeld ?_
          rotate_left
          · intro wq hSw; obtain ⟨g0, g1, g2, g3, g4, g5⟩ := six_at hSw; go_simp; (try with_reducible rfl)
          simp only [Act.put, List.getElem_toArray, List.getElem_cons_succ, List.getElem_cons_zero, List.setIfInBounds_toArray, List.set_cons_zero, List.set_cons_succ]
          refine wpAnyH_take (i := 10) (v := ?_) rfl (by kernel_rfl) (by kernel_rfl) (by kernel_rfl) (fun _ _ _ h => h) (Or.inl ⟨by rfl, ?_⟩) hHeld ?_
          rotate_left
          · intro wq hSw; go_simp; (try with_reducible rfl)
          simp only [Act.put, List.getElem_toArray, List.getElem_cons_succ, List.getElem_cons_zero, List.setIfInBounds_toArray, List.set_cons_zero, List.set_cons_succ]
          refine wpAnyH_take (i := 11) (v := ?_) rfl (by kernel_rfl) (by kernel_rfl) (by kernel_rfl) (fun _ _ _ h => h) (Or.inl ⟨by rfl, ?_⟩) hHeld ?_
          rotate_left
          · intro wq hSw; go_simp; (try with_reducible rfl)
          simp only [Act.put, List.getElem_toArray, List.getElem_cons_succ, List.getElem_cons_zero, List.setIfInBounds_toArray, List.set_cons_zero, List.set_cons_succ]
          refine wpAnyH_take (i := 12) (v := ?_) rfl (by kernel_rfl) (by kernel_rfl) (by kernel_rfl) (fun _ _ _ h => h) (Or.inl ⟨by rfl, ?_⟩) hHeld ?_
          rotate_left
          · intro wq hSw; go_simp; (try with_reducible rfl)
          simp only [Act.put, List.getElem_toArray, List.getElem_cons_succ, List.getElem_cons_zero, List.setIfInBounds_toArray, List.set_cons_zero, List.set_cons_succ]
          refine wpAnyH_take (i := 13) (v := ?_) rfl (by kernel_rfl) (by kernel_rfl) (by kernel_rfl) (fun _ _ _ h => h) (Or.inl ⟨by rfl, ?_⟩) hHeld ?_
          rotate_left
          · intro wq hSw; obtain ⟨g0, g1, g2, g3, g4, g5⟩ := six_at hSw; go_simp; (try with_reducible rfl)
          simp only [Act.put, List.getElem_toArray, List.getElem_cons_succ, List.getElem_cons_zero, List.setIfInBounds_toArray, List.set_cons_zero, List.set_cons_succ]
          refine wpAnyH_take (i := 14) (v := ?_) rfl (by kernel_rfl) (by kernel_rfl) (by kernel_rfl) (fun _ _ _ h => h) (Or.inl ⟨by rfl, ?_⟩) hHeld ?_
          rotate_left
          · intro wq hSw; go_simp; (try with_reducible rfl)
          simp only [Act.put, List.getElem_toArray, List.getElem_cons_succ, List.getElem_cons_zero, List.setIfInBounds_toArray, List.set_cons_zero, List.set_cons_succ]
          refine wpAnyH_take (i := 15) (v := ?_) rfl (by kernel_rfl) (by kernel_rfl) (by kernel_rfl) (fun _ _ _ h => h) (Or.inl ⟨by rfl, ?_⟩) hHeld ?_
          rotate_left
          · intro wq hSw; go_simp; (try with_reducible rfl)
          simp only [Act.put, List.getElem_toArray, List.getElem_cons_succ, List.getElem_cons_zero, List.setIfInBounds_toArray, List.set_cons_zero, List.set_cons_succ]
          refine wpAnyH_take (i := 16) (v := ?_) rfl (by kernel_rfl) (by kernel_rfl) (by kernel_rfl) (fun _ _ _ h => h) (Or.inl ⟨by rfl, ?_⟩) hHeld ?_
          rotate_left
          · intro wq hSw; go_simp; (try with_reducible rfl)
          simp only [Act.put, List.getElem_toArray, List.getElem_cons_succ, List.getElem_cons_zero, List.setIfInBounds_toArray, List.set_cons_zero, List.set_cons_succ]
          refine wpAnyH_take (i := 17) (v := ?_) rfl (by kernel_rfl) (by kernel_rfl) (by kernel_rfl) (fun _ _ _ h => h) (Or.inl ⟨by rfl, ?_⟩) hHeld ?_
          rotate_left
          · intro wq hSw; obtain ⟨g0, g1, g2, g3, g4, g5⟩ := six_at hSw; go_simp; (try with_reducible rfl)
          simp only [Act.put, List.getElem_toArray, List.getElem_cons_succ, List.getElem_cons_zero, List.setIfInBounds_toArray, List.set_cons_zero, List.set_cons_succ]
          refine wpAnyH_take (i := 18) (v := ?_) rfl (by kernel_rfl) (by kernel_rfl) (by kernel_rfl) (fun _ _ _ h => h) (Or.inl ⟨by rfl, ?_⟩) hHeld ?_
          rotate_left
          · intro wq hSw; go_simp; (try with_reducible rfl)
          simp only [Act.put, List.getElem_toArray, List.getElem_cons_succ, List.getElem_cons_zero, List.setIfInBounds_toArray, List.set_cons_zero, List.set_cons_succ]
          refine wpAnyH_take (i := 19) (v := ?_) rfl (by kernel_rfl) (by kernel_rfl) (by kernel_rfl) (fun _ _ _ h => h) (Or.inl ⟨by rfl, ?_⟩) hHeld ?_
          rotate_left
          · intro wq hSw; go_simp; (try with_reducible rfl)
          simp only [Act.put, List.getElem_toArray, List.getElem_cons_succ, List.getElem_cons_zero, List.setIfInBounds_toArray, List.set_cons_zero, List.set_cons_succ]
          refine wpAnyH_take (i := 20) (v := ?_) rfl (by kernel_rfl) (by kernel_rfl) (by kernel_rfl) (fun _ _ _ h => h) (Or.inl ⟨by rfl, ?_⟩) hHeld ?_
          rotate_left
          · intro wq hSw; obtain ⟨g0, g1, g2, g3, g4, g5⟩ := six_at hSw; go_simp; (try with_reducible rfl)
          simp only [Act.put, List.getElem_toArray, List.getElem_cons_succ, List.getElem_cons_zero, List.setIfInBounds_toArray, List.set_cons_zero, List.set_cons_succ]
          refine wpAnyH_take (i := 21) (v := ?_) rfl (by kernel_rfl) (by kernel_rfl) (by kernel_rfl) (fun _ _ _ h => h) (Or.inl ⟨by rfl, ?_⟩) hHeld ?_
          rotate_left
          · intro wq hSw; go_simp; (try with_reducible rfl)
          simp only [Act.put, List.getElem_toArray, List.getElem_cons_succ, List.getElem_cons_zero, List.setIfInBounds_toArray, List.set_cons_zero, List.set_cons_succ]
          refine wpAnyH_take (i := 22) (v := ?_) rfl (by kernel_rfl) (by kernel_rfl) (by kernel_rfl) (fun _ _ _ h => h) (Or.inl ⟨by rfl, ?_⟩) hHeld ?_
          rotate_left
          · intro wq hSw; go_simp; (try with_reducible rfl)
          simp only [Act.put, List.getElem_toArray, List.getElem_cons_succ, List.getElem_cons_zero, List.setIfInBounds_toArray, List.set_cons_zero, List.set_cons_succ]
          refine wpAnyH_take (i := 23) (v := ?_) rfl (by kernel_rfl) (by kernel_rfl) (by kernel_rfl) (fun _ _ _ h => h) (Or.inl ⟨by rfl, ?_⟩) hHeld ?_
          rotate_left
          · intro wq hSw; go_simp; (try with_reducible rfl)
          simp only [Act.put, List.getElem_toArray, List.getElem_cons_succ, List.getElem_cons_zero, List.setIfInBounds_toArray, List.set_cons_zero, List.set_cons_succ]
          refine wpAnyH_take (i := 24) (v := ?_) rfl (by kernel_rfl) (by kernel_rfl) (by kernel_rfl) (fun _ _ _ h => h) (Or.inl ⟨by rfl, ?_⟩) hHeld ?_
          rotate_left
          · intro wq hSw; go_simp; (try with_reducible rfl)
          simp only [Act.put, List.getElem_toArray, List.getElem_cons_succ, List.getElem_cons_zero, List.setIfInBounds_toArray, List.set_cons_zero, List.set_cons_succ]
          refine wpAnyH_take (i := 25) (v := ?_) rfl (by kernel_rfl) (by kernel_rfl) (by kernel_rfl) (fun _ _ _ h => h) (Or.inl ⟨by rfl, ?_⟩) hHeld ?_
          rotate_left
          · intro wq hSw; go_simp; (try with_reducible rfl)
          simp only [Act.put, List.getElem_toArray, List.getElem_cons_succ, List.getElem_cons_zero, List.setIfInBounds_toArray, List.set_cons_zero, List.set_cons_succ]
          refine wpAnyH_take (i := 26) (v := ?_) rfl (by kernel_rfl) (by kernel_rfl) (by kernel_rfl) (fun _ _ _ h => h) (Or.inl ⟨by rfl, ?_⟩) hHeld ?_
          rotate_left
          · intro wq hSw; go_simp; (try with_reducible rfl)
          simp only [Act.put, List.getElem_toArray, List.getElem_cons_succ, List.getElem_cons_zero, List.setIfInBounds_toArray, List.set_cons_zero, List.set_cons_succ]
          have hO9 := own8 hown3 hsz0 (V64 n) (.int .i64 (lv : Int)) (.int .i64 (ct : Int)) (.int .i64 (sz : Int)) (S tx) (S tx2) (V64 le) (V64 mo)
          have hx29 := hx23.set8 (V64 n) (.int .i64 (lv : Int)) (.int .i64 (ct : Int)) (.int .i64 (sz : Int)) (S tx) (S tx2) (V64 le) (V64 mo)
          have hb9 := below_set8 (Chain.up (Chain.up (Chain.up ha hb1) hb2) hb3) (Nat.le_refl _) (V64 n) (.int .i64 (lv : Int)) (.int .i64 (ct : Int)) (.int .i64 (sz : Int)) (S tx) (S tx2) (V64 le) (V64 mo)
          refine wpAnyH_one (i := 27) (by kernel_rfl) rfl (fun K hK => ?_)
          simp only [List.getElem_toArray, List.getElem_cons_succ, List.getElem_cons_zero]
          go_simp
          generalize (((((((w3.setCell ⟨w.heap.size, 0, none⟩ (V64 n)).setCell ⟨w.heap.size, 1, none⟩ (.int .i64 (lv : Int))).setCell ⟨w.heap.size, 2, none⟩ (.int .i64 (ct : Int))).setCell ⟨w.heap.size, 3, none⟩ (.int .i64 (sz : Int))).setCell ⟨w.heap.size, 4, none⟩ (S tx)).setCell ⟨w.heap.size, 5, none⟩ (S tx2)).setCell ⟨w.heap.size, 6, none⟩ (V64 le)).setCell ⟨w.heap.size, 7, none⟩ (V64 mo) = w9 at *
          have hO9d : OwnNums w9.drew _ _ _ := hO9
          refine hK.out _ _ hO9d ?_
          clear hK K
          refine wpAnyH_take (i := 28) (v := ?_) rfl (by kernel_rfl) (by kernel_rfl) (by kernel_rfl) (fun _ _ _ h => h) (Or.inl ⟨by rfl, ?_⟩) hO9d ?_
          rotate_left
          · intro wq hSw; go_simp; (try with_reducible rfl)
          simp only [Act.put, List.getElem_toArray, List.getElem_cons_succ, List.getElem_cons_zero, List.setIfInBounds_toArray, List.set_cons_zero, List.set_cons_succ]
          refine wpAnyH_done (by kernel_rfl) ?_ _
          -- END REGION 11
          go_wp2_with fail
          obtain ⟨⟨r0, r1, r2, r3⟩, r4, r5, r6, r7⟩ := hx29.drew.eight
          exact bodyPost_ret (v := .tuple #[tabV ⟨n, lv, ct, sz, tx, tx2, le, mo⟩, .int .i64 ((a + ts + ts2 : Nat) : Int)]) (by simp [results, Try.results44, go_sem, r0, r1, r2, r3, r4, r5, r6, r7]) rfl ⟨by rw [Hn.out]; show _ = _; rw [Hfin.out], hb9.drew⟩
    · have Hn := Lib.hid (show P.rdTabR s = none by rw [Hr.out, if_neg hlv])
      clear Hr
      have i1 : ((3 : Int) < (lv : Int)) ∨ ((lv : Int) ≤ 3 ∧ (9223372036854775807 : Int) < (ct : Int)) ∨ ((lv : Int) ≤ 3 ∧ (ct : Int) ≤ 9223372036854775807 ∧ (9223372036854775807 : Int) < (sz : Int)) := by omega
      clear hlv
      rcases i1 with i1 | ⟨i1, i2⟩ | ⟨i1, i2, i3⟩
      all_goals
        go_enter Try.func44, Try.ntmps44
        go_wp2_with (first
          | (go_at_call 45; (with_reducible refine HN.out.mono ?_); rintro e w1 ⟨v, rfl, hown, hb1⟩; obtain ⟨aa, ca, hv, hrows, _⟩ := hown.is numCells_len; (subst hv); obtain ⟨bb, oo, haa, _, _⟩ := hrows 0 (by simp); (subst haa); obtain ⟨g0, g1, g2, g3, g4, g5⟩ := six_at hown; have hx21 := hx2.up hb1; obtain ⟨⟨p0, p1, p2, p3⟩, p4, p5, p6, p7⟩ := hx21.eight; obtain ⟨⟨q0, q1, q2, q3⟩, q4, q5, q6, q7⟩ := hx21.eightF))
        obtain ⟨⟨r0, r1, r2, r3⟩, r4, r5, r6, r7⟩ := (hx21.set8 (.int .u64 0) (.int .i64 0) (.int .i64 0) (.int .i64 0) (S []) (S []) (.int .u64 0) (.int .u64 0)).eight
        have hbf := below_set8 (Chain.up ha hb1) (Nat.le_refl _) (.int .u64 0) (.int .i64 0) (.int .i64 0) (.int .i64 0) (S []) (S []) (.int .u64 0) (.int .u64 0)
        exact bodyPost_ret (v := .tuple #[noTabV, .int .i64 (-1)]) (by simp [results, Try.results44, go_sem, r0, r1, r2, r3, r4, r5, r6, r7]) rfl ⟨by rw [Hn.out]; exact rfl, hbf⟩
end Go.Proofs.Ythpgigjplknomaa
