/- The walk of copied: an edit in memory of its own. -/
import Derived.Test.YthpgigjplknomaaWEdJoin
namespace Go.Proofs.Ythpgigjplknomaa
open Go.RowKit
set_option linter.unusedVariables false

set_option maxRecDepth 100000 in
set_option maxHeartbeats 4000000 in
theorem copied_any (x : P.Ed) (a b : Option Addr) (n c m d : Nat) (hn : n = x.add.length) (hm : m = x.drop.length) (w : World) (hl : n ≤ 60) (hk : m ≤ 60) (hp : EdAt w a b x) :
    Calls Try.prog 23 #[edV a n c b m d x.log x.seq x.next] w fun e w' => ∃ va vb, e = .returned (.agg #[va, vb, V64 x.log, V64 x.seq, V64 x.next]) ∧ OwnTabs w' w.heap.size va x.add ∧ OwnNums w' w.heap.size vb x.drop ∧ Below w.heap.size w w' := by
  have HT := Lib.hid (fun wx (hx : Below w.heap.size w wx) => RowsAt.up hp.1 hx)
  have HD := Lib.hid (fun wx (hx : Below w.heap.size w wx) => NumsAt.below hp.2 hx)
  obtain ⟨A, D, lo, se, ne⟩ := x
  simp only at hn hm HT HD ⊢
  clear hp
  have Hn := Lib.hid hn
  have Hm := Lib.hid hm
  have Hl := Lib.hid (show ([] : List P.Tab).length + A.length ≤ 1000000 by simp; omega)
  have Hk := Lib.hid (show ([] : List Nat).length + D.length ≤ 1000000 by simp; omega)
  clear hn hm hl hk
  obtain ⟨h1, h2, h3⟩ : Bx ((w.alloc (.cells #[.slice a n c, .slice b m d, V64 lo, V64 se, V64 ne] 29)).alloc (.cells #[.slice none 0 0, .slice none 0 0, .int .u64 0, .int .u64 0, .int .u64 0] 29)) w.heap.size 29 #[.slice a n c, .slice b m d, V64 lo, V64 se, V64 ne] ∧ Bx ((w.alloc (.cells #[.slice a n c, .slice b m d, V64 lo, V64 se, V64 ne] 29)).alloc (.cells #[.slice none 0 0, .slice none 0 0, .int .u64 0, .int .u64 0, .int .u64 0] 29)) (w.heap.size + 1) 29 #[.slice none 0 0, .slice none 0 0, .int .u64 0, .int .u64 0, .int .u64 0] ∧ Below w.heap.size w ((w.alloc (.cells #[.slice a n c, .slice b m d, V64 lo, V64 se, V64 ne] 29)).alloc (.cells #[.slice none 0 0, .slice none 0 0, .int .u64 0, .int .u64 0, .int .u64 0] 29)) := by
    have hb := (Below.refl (w.heap.size + 1) (w.alloc (.cells #[.slice a n c, .slice b m d, V64 lo, V64 se, V64 ne] 29))).alloc (by simp) (.cells #[.slice none 0 0, .slice none 0 0, .int .u64 0, .int .u64 0, .int .u64 0] 29)
    have h2 := Bx.fresh (w.alloc (.cells #[.slice a n c, .slice b m d, V64 lo, V64 se, V64 ne] 29)) 29 #[.slice none 0 0, .slice none 0 0, .int .u64 0, .int .u64 0, .int .u64 0]
    rw [show (w.alloc (.cells #[.slice a n c, .slice b m d, V64 lo, V64 se, V64 ne] 29)).heap.size = w.heap.size + 1 by simp] at h2
    exact ⟨(Bx.fresh w 29 #[.slice a n c, .slice b m d, V64 lo, V64 se, V64 ne]).up ((Below.refl _ _).alloc (Nat.le_refl _) _), h2, ((Below.refl w.heap.size w).alloc (Nat.le_refl _) _).alloc (by simp) _⟩
  have HO1 := Lib.hid (show OwnTabs (((w.alloc (.cells #[.slice a n c, .slice b m d, V64 lo, V64 se, V64 ne] 29)).alloc (.cells #[.slice none 0 0, .slice none 0 0, .int .u64 0, .int .u64 0, .int .u64 0] 29)).alloc (.cells #[] 31)) w.heap.size (.slice (some ⟨w.heap.size + 1 + 1, 0, none⟩) 0 0) [] from OwnR.lit tabCells_len [] #[] rfl (by simp) (by simp; omega) _ _ _ (by simp) rfl rfl)
  have ha := (Below.refl ((w.alloc (.cells #[.slice a n c, .slice b m d, V64 lo, V64 se, V64 ne] 29)).alloc (.cells #[.slice none 0 0, .slice none 0 0, .int .u64 0, .int .u64 0, .int .u64 0] 29)).heap.size ((w.alloc (.cells #[.slice a n c, .slice b m d, V64 lo, V64 se, V64 ne] 29)).alloc (.cells #[.slice none 0 0, .slice none 0 0, .int .u64 0, .int .u64 0, .int .u64 0] 29))).alloc (Nat.le_refl _) (.cells #[] 31)
  have hx1 := h1.up ha
  have hx2 := h2.up ha
  have hb1 := Chain.up h3 ha
  clear h1 h2 h3 ha
  go_enter Try.func23, Try.ntmps23
  go_wp2_with (first
    | (at_builtin; (refine wpList_appTabs (by rfl) _ _ (by rfl) w.heap.size _ [] A (by rfl) HO1.out Hl.out _ _ _ (by rfl) Hn.out (HT.out _ hb1) hb1.size ?_); intro v8 w8 hown8 hb8 hk8; obtain ⟨ad, cc, hv', _, _⟩ := hown8.is tabCells_len; (subst hv'); (simp only [List.nil_append] at hown8); have hx18 := hx1.kept (by decide) hk8; have hx28 := hx2.kept (by decide) hk8; have hc8 := hb1.trans hb8; have hbu := (But.refl w.heap.size w8).set 0 (.slice ad A.length cc); have hx1s := hx18.set 0 (.slice ad A.length cc); have hx2s := hx28.but hbu (by omega); have hT8 := hown8.but hx18 (by decide) hbu; have hcs := hc8.trans (hbu.below (Nat.le_refl _) hc8.size); obtain ⟨q0, q1, q2, q3, q4⟩ := hx18.five; have qf0 := hx18.frozen 0; have hx1a := hx1s.up ((Below.refl _ _).alloc (Nat.le_refl _) (.cells #[] 27)); simp only [List.setIfInBounds_toArray, List.set_cons_zero] at hx1a; obtain ⟨p0, p1, p2, p3, p4⟩ := hx1a.five)
    | (at_builtin; (refine wpList_appNums (by rfl) _ _ (by rfl) w.heap.size _ [] D (by rfl) (OwnR.lit numCells_len [] #[] rfl (by simp) hcs.size w8.heap.size 0 0 (by simp) rfl rfl) Hk.out _ _ _ (by rfl) Hm.out (HD.out _ (hcs.alloc hcs.size _)) (hcs.alloc hcs.size _).size ?_); intro v9 w9 hown9 hb9 hk9; obtain ⟨ad9, cc9, hv', _, _⟩ := hown9.is numCells_len; (subst hv'); (simp only [List.nil_append] at hown9); have hx19 := (hx1s.up ((Below.refl _ _).alloc (Nat.le_refl _) (.cells #[] 27))).kept (by decide) hk9; have hx29 := (hx2s.up ((Below.refl _ _).alloc (Nat.le_refl _) (.cells #[] 27))).kept (by decide) hk9; have hT9 := (hT8.alloc (.cells #[] 27)).keptT hk9 (by decide); have hc9 := (hcs.alloc hcs.size _).trans hb9; have hbu9 := (But.refl w.heap.size w9).set 1 (.slice ad9 D.length cc9); have hx1e := hx19.set 1 (.slice ad9 D.length cc9); have hx2e := hx29.but hbu9 (by omega); have hTe := hT9.but hx19 (by decide) hbu9; have hNe := hown9.but hx19 (by decide) hbu9; have hce := hc9.trans (hbu9.below (Nat.le_refl _) hc9.size); simp only [List.setIfInBounds_toArray, List.set_cons_zero, List.set_cons_succ] at hx19 hx1e; obtain ⟨u0, u1, u2, u3, u4⟩ := hx19.five; have uf1 := hx19.frozen 1; obtain ⟨y0, y1, y2, y3, y4⟩ := hx1e.five; obtain ⟨z0, z1, z2, z3, z4⟩ := hx2e.five; have zf0 := hx2e.frozen 0; have zf1 := hx2e.frozen 1; have zf2 := hx2e.frozen 2; have zf3 := hx2e.frozen 3; have zf4 := hx2e.frozen 4))
  clear hx19 hx1e hx29 u0 u1 u2 u3 u4 y0 y1 y2 y3 y4 z0 z1 z2 z3 z4
  generalize w9.setCell ⟨w.heap.size, 1, none⟩ (.slice ad9 D.length cc9) = wE at *
  have hbe := (((((But.refl (w.heap.size + 1) wE).set 0 (.slice ad A.length cc)).set 1 (.slice ad9 D.length cc9)).set 2 (.int .u64 lo)).set 3 (.int .u64 se)).set 4 (.int .u64 ne)
  have hTf := hTe.but hx2e (by decide) hbe
  have hNf := hNe.but hx2e (by decide) hbe
  have hcf := hce.trans (hbe.below (by omega) hce.size)
  have hxf := ((((hx2e.set 0 (.slice ad A.length cc)).set 1 (.slice ad9 D.length cc9)).set 2 (.int .u64 lo)).set 3 (.int .u64 se)).set 4 (.int .u64 ne)
  simp only [List.setIfInBounds_toArray, List.set_cons_zero, List.set_cons_succ] at hxf
  obtain ⟨q0, q1, q2, q3, q4⟩ := hxf.five
  exact bodyPost_ret (v := .agg #[.slice ad A.length cc, .slice ad9 D.length cc9, V64 lo, V64 se, V64 ne]) (by simp [results, Try.results23, go_sem, q0, q1, q2, q3, q4]) rfl ⟨_, _, rfl, hTf, hNf, hcf⟩
end Go.Proofs.Ythpgigjplknomaa
