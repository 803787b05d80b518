/- The walk of edit's join. -/
import Derived.Test.YthpgigjplknomaaWEdCont
import Derived.Deep.RegionHeld3
import Derived.Test.YthpgigjplknomaaWInv
namespace Go.Proofs.Ythpgigjplknomaa
open Go.RowKit
set_option linter.unusedVariables false
set_option linter.unusedSimpArgs false

theorem Bx.kept {w w' : World} {g : Nat} {t e : TypeId} {cs : Array Value} (h : Bx w g t cs) (hne : t ≠ e) (hk : KeptT e w w') : Bx w' g t cs := hk g t cs (0, 0) hne h
/-- What the slots of join's making hold. -/
def joinR (B : Nat) (D : List Nat) (lz sz nz : Nat) (i : Nat) (v : Value) (w : World) : Prop :=
  match i with
  | 2 => OwnNums w B v D
  | 18 => ∃ av cv, v = .agg #[.slice none 0 0, .slice av D.length cv, V64 lz, V64 sz, V64 nz] ∧ OwnNums w B (.slice av D.length cv) D
  | 19 => ∃ g, v = .pointer (some ⟨g, 0, none⟩) ∧ B ≤ g ∧ Bx w g 29 #[.slice none 0 0, .slice none 0 0, .int .u64 0, .int .u64 0, .int .u64 0]
  | _ => True
theorem joinR_up (B : Nat) (D : List Nat) (lz sz nz : Nat) (i : Nat) (v : Value) (w w' : World) (h : joinR B D lz sz nz i v w) (hb : Below w.heap.size w w') : joinR B D lz sz nz i v w' := by
  unfold joinR at *
  split at h
  · exact OwnR.up h hb
  · obtain ⟨a, c, h1, h2⟩ := h; exact ⟨a, c, h1, OwnR.up h2 hb⟩
  · obtain ⟨g, h1, h2, h3⟩ := h; exact ⟨g, h1, h2, h3.up hb⟩
  · trivial

set_option maxRecDepth 100000 in
set_option maxHeartbeats 8000000 in
theorem join_any (x y : P.Ed) (a b a' b' : Option Addr) (n c m d n' c' m' d' : Nat) (hn : n = x.add.length) (hm : m = x.drop.length) (hn' : n' = y.add.length) (hm' : m' = y.drop.length) (w : World)
    (h1 : x.add.length ≤ 100000) (h2 : x.drop.length ≤ 100000) (h3 : y.add.length ≤ 100000) (h4 : y.drop.length ≤ 100000) (hp : EdAt w a b x) (hq : EdAt w a' b' y) :
    Calls Try.prog 39 #[edV a n c b m d x.log x.seq x.next, edV a' n' c' b' m' d' y.log y.seq y.next] w fun e w' =>
      ∃ va vb, e = .returned (.agg #[va, vb, V64 (P.joinE x y).log, V64 (P.joinE x y).seq, V64 (P.joinE x y).next]) ∧ OwnTabs w' w.heap.size va (P.joinE x y).add ∧ OwnNums w' w.heap.size vb (P.joinE x y).drop ∧ Below w.heap.size w w' := by
  obtain ⟨A, D, lo, se, ne⟩ := x
  obtain ⟨A', D', lo', se', ne'⟩ := y
  simp only at *
  have HJ := Lib.hid (show P.joinE ⟨A, D, lo, se, ne⟩ ⟨A', D', lo', se', ne'⟩ = ⟨A.filter (fun t => !P.hasN D' t.n) ++ A', D ++ D'.filter (fun n => !A.any (P.isN n)), P.maxN lo lo', P.maxN se se', P.maxN ne ne'⟩ from rfl)
  generalize P.joinE ⟨A, D, lo, se, ne⟩ ⟨A', D', lo', se', ne'⟩ = z at *
  have m1 := P.more_is lo lo'
  have m2 := P.more_is se se'
  have m3 := P.more_is ne ne'
  generalize P.maxN lo lo' = lz at *
  generalize P.maxN se se' = sz at *
  generalize P.maxN ne ne' = nz at *
  obtain ⟨hpA, hpD⟩ := hp
  obtain ⟨hqA, hqD⟩ := hq
  have HA := Lib.hid hpA
  have HD := Lib.hid hpD
  have HA' := Lib.hid hqA
  have HD' := Lib.hid hqD
  have HC := Lib.hid (fun wx (hx : Below w.heap.size w wx) => clone_nums b m d D hm wx (by omega) (NumsAt.below hpD hx))
  have Hn := Lib.hid hn
  have Hm := Lib.hid hm
  have Hn' := Lib.hid hn'
  have Hm' := Lib.hid hm'
  clear hpA hpD hqA hqD hn hm hn' hm'
  go_enter Try.func39, Try.ntmps39
  go_wp2_with fail
  have hb3 : Below w.heap.size w (((w.alloc (.cells #[.slice a n c, .slice b m d, V64 lo, V64 se, V64 ne] 29)).alloc (.cells #[.slice a' n' c', .slice b' m' d', V64 lo', V64 se', V64 ne'] 29)).alloc (.cells #[.slice none 0 0, .slice none 0 0, .int .u64 0, .int .u64 0, .int .u64 0] 29)) := (((Below.refl _ _).alloc (Nat.le_refl _) _).alloc (by simp) _).alloc (by simp; omega) _
  obtain ⟨hx0, hx1, hx2, hs3⟩ := three_boxes w #[.slice a n c, .slice b m d, V64 lo, V64 se, V64 ne] #[.slice a' n' c', .slice b' m' d', V64 lo', V64 se', V64 ne'] #[.slice none 0 0, .slice none 0 0, .int .u64 0, .int .u64 0, .int .u64 0] 29 29 29
  generalize ((w.alloc (.cells #[.slice a n c, .slice b m d, V64 lo, V64 se, V64 ne] 29)).alloc (.cells #[.slice a' n' c', .slice b' m' d', V64 lo', V64 se', V64 ne'] 29)).alloc (.cells #[.slice none 0 0, .slice none 0 0, .int .u64 0, .int .u64 0, .int .u64 0] 29) = w3 at *
  obtain ⟨_, e1, e2, e3, e4⟩ := hx0.five
  obtain ⟨_, _, f2, f3, f4⟩ := hx1.five
  -- REGION 1
  refine wp_region_held (S := fun wx => Below w3.heap.size w3 wx) (by kernel_rfl) ?_
  have hbr : Below w3.heap.size w3 w3.drew := (Below.refl _ _).drew
  refine wpAnyH_take (i := 0) (v := ?_) rfl (by kernel_rfl) (by kernel_rfl) (by kernel_rfl) (fun _ _ _ h => h) (Or.inl ⟨by rfl, ?_⟩) hbr ?_
  rotate_left
  · intro wq hSw; go_simp; (try with_reducible rfl)
  simp only [Act.put, List.getElem_toArray, List.getElem_cons_succ, List.getElem_cons_zero, List.setIfInBounds_toArray, List.set_cons_zero, List.set_cons_succ]
  refine wpAnyH_take (i := 1) (v := ?_) rfl (by kernel_rfl) (by kernel_rfl) (by kernel_rfl) (fun _ _ _ h => h) (Or.inl ⟨by rfl, ?_⟩) hbr ?_
  rotate_left
  · intro wq hSw; have hqc := cell_up hSw e1; go_simp; (try with_reducible rfl)
  simp only [Act.put, List.getElem_toArray, List.getElem_cons_succ, List.getElem_cons_zero, List.setIfInBounds_toArray, List.set_cons_zero, List.set_cons_succ]
  refine wpAnyH_take (i := 3) (v := ?_) rfl (by kernel_rfl) (by kernel_rfl) (by kernel_rfl) (fun _ _ _ h => h) (Or.inl ⟨by rfl, ?_⟩) hbr ?_
  rotate_left
  · intro wq hSw; go_simp; (try with_reducible rfl)
  simp only [Act.put, List.getElem_toArray, List.getElem_cons_succ, List.getElem_cons_zero, List.setIfInBounds_toArray, List.set_cons_zero, List.set_cons_succ]
  refine wpAnyH_take (i := 4) (v := ?_) rfl (by kernel_rfl) (by kernel_rfl) (by kernel_rfl) (fun _ _ _ h => h) (Or.inl ⟨by rfl, ?_⟩) hbr ?_
  rotate_left
  · intro wq hSw; have hqc := cell_up hSw e2; go_simp; (try with_reducible rfl)
  simp only [Act.put, List.getElem_toArray, List.getElem_cons_succ, List.getElem_cons_zero, List.setIfInBounds_toArray, List.set_cons_zero, List.set_cons_succ]
  refine wpAnyH_take (i := 5) (v := ?_) rfl (by kernel_rfl) (by kernel_rfl) (by kernel_rfl) (fun _ _ _ h => h) (Or.inl ⟨by rfl, ?_⟩) hbr ?_
  rotate_left
  · intro wq hSw; go_simp; (try with_reducible rfl)
  simp only [Act.put, List.getElem_toArray, List.getElem_cons_succ, List.getElem_cons_zero, List.setIfInBounds_toArray, List.set_cons_zero, List.set_cons_succ]
  refine wpAnyH_take (i := 6) (v := ?_) rfl (by kernel_rfl) (by kernel_rfl) (by kernel_rfl) (fun _ _ _ h => h) (Or.inl ⟨by rfl, ?_⟩) hbr ?_
  rotate_left
  · intro wq hSw; have hqc := cell_up hSw f2; go_simp; (try with_reducible rfl)
  simp only [Act.put, List.getElem_toArray, List.getElem_cons_succ, List.getElem_cons_zero, List.setIfInBounds_toArray, List.set_cons_zero, List.set_cons_succ]
  refine wpAnyH_take (i := 7) (v := ?_) rfl (by kernel_rfl) (by kernel_rfl) (by kernel_rfl) (fun _ _ _ h => h) (Or.inl ⟨by rfl, ?_⟩) hbr ?_
  rotate_left
  · intro wq hSw; go_simp; (try with_reducible rfl)
  simp only [Act.put, List.getElem_toArray, List.getElem_cons_succ, List.getElem_cons_zero, List.setIfInBounds_toArray, List.set_cons_zero, List.set_cons_succ]
  refine wpAnyH_take (i := 8) (v := ?_) rfl (by kernel_rfl) (by kernel_rfl) (by kernel_rfl) (fun _ _ _ h => h) (Or.inl ⟨by rfl, ?_⟩) hbr ?_
  rotate_left
  · intro wq hSw; go_simp; (try with_reducible rfl)
  simp only [Act.put, List.getElem_toArray, List.getElem_cons_succ, List.getElem_cons_zero, List.setIfInBounds_toArray, List.set_cons_zero, List.set_cons_succ]
  refine wpAnyH_take (i := 9) (v := ?_) rfl (by kernel_rfl) (by kernel_rfl) (by kernel_rfl) (fun _ _ _ h => h) (Or.inl ⟨by rfl, ?_⟩) hbr ?_
  rotate_left
  · intro wq hSw; have hqc := cell_up hSw e3; go_simp; (try with_reducible rfl)
  simp only [Act.put, List.getElem_toArray, List.getElem_cons_succ, List.getElem_cons_zero, List.setIfInBounds_toArray, List.set_cons_zero, List.set_cons_succ]
  refine wpAnyH_take (i := 10) (v := ?_) rfl (by kernel_rfl) (by kernel_rfl) (by kernel_rfl) (fun _ _ _ h => h) (Or.inl ⟨by rfl, ?_⟩) hbr ?_
  rotate_left
  · intro wq hSw; go_simp; (try with_reducible rfl)
  simp only [Act.put, List.getElem_toArray, List.getElem_cons_succ, List.getElem_cons_zero, List.setIfInBounds_toArray, List.set_cons_zero, List.set_cons_succ]
  refine wpAnyH_take (i := 11) (v := ?_) rfl (by kernel_rfl) (by kernel_rfl) (by kernel_rfl) (fun _ _ _ h => h) (Or.inl ⟨by rfl, ?_⟩) hbr ?_
  rotate_left
  · intro wq hSw; have hqc := cell_up hSw f3; go_simp; (try with_reducible rfl)
  simp only [Act.put, List.getElem_toArray, List.getElem_cons_succ, List.getElem_cons_zero, List.setIfInBounds_toArray, List.set_cons_zero, List.set_cons_succ]
  refine wpAnyH_take (i := 12) (v := ?_) rfl (by kernel_rfl) (by kernel_rfl) (by kernel_rfl) (fun _ _ _ h => h) (Or.inl ⟨by rfl, ?_⟩) hbr ?_
  rotate_left
  · intro wq hSw; go_simp; (try with_reducible rfl)
  simp only [Act.put, List.getElem_toArray, List.getElem_cons_succ, List.getElem_cons_zero, List.setIfInBounds_toArray, List.set_cons_zero, List.set_cons_succ]
  refine wpAnyH_take (i := 13) (v := ?_) rfl (by kernel_rfl) (by kernel_rfl) (by kernel_rfl) (fun _ _ _ h => h) (Or.inl ⟨by rfl, ?_⟩) hbr ?_
  rotate_left
  · intro wq hSw; go_simp; (try with_reducible rfl)
  simp only [Act.put, List.getElem_toArray, List.getElem_cons_succ, List.getElem_cons_zero, List.setIfInBounds_toArray, List.set_cons_zero, List.set_cons_succ]
  refine wpAnyH_take (i := 14) (v := ?_) rfl (by kernel_rfl) (by kernel_rfl) (by kernel_rfl) (fun _ _ _ h => h) (Or.inl ⟨by rfl, ?_⟩) hbr ?_
  rotate_left
  · intro wq hSw; have hqc := cell_up hSw e4; go_simp; (try with_reducible rfl)
  simp only [Act.put, List.getElem_toArray, List.getElem_cons_succ, List.getElem_cons_zero, List.setIfInBounds_toArray, List.set_cons_zero, List.set_cons_succ]
  refine wpAnyH_take (i := 15) (v := ?_) rfl (by kernel_rfl) (by kernel_rfl) (by kernel_rfl) (fun _ _ _ h => h) (Or.inl ⟨by rfl, ?_⟩) hbr ?_
  rotate_left
  · intro wq hSw; go_simp; (try with_reducible rfl)
  simp only [Act.put, List.getElem_toArray, List.getElem_cons_succ, List.getElem_cons_zero, List.setIfInBounds_toArray, List.set_cons_zero, List.set_cons_succ]
  refine wpAnyH_take (i := 16) (v := ?_) rfl (by kernel_rfl) (by kernel_rfl) (by kernel_rfl) (fun _ _ _ h => h) (Or.inl ⟨by rfl, ?_⟩) hbr ?_
  rotate_left
  · intro wq hSw; have hqc := cell_up hSw f4; go_simp; (try with_reducible rfl)
  simp only [Act.put, List.getElem_toArray, List.getElem_cons_succ, List.getElem_cons_zero, List.setIfInBounds_toArray, List.set_cons_zero, List.set_cons_succ]
  refine wpAnyH_take (i := 17) (v := ?_) rfl (by kernel_rfl) (by kernel_rfl) (by kernel_rfl) (fun _ _ _ h => h) (Or.inl ⟨by rfl, ?_⟩) hbr ?_
  rotate_left
  · intro wq hSw; go_simp; (try with_reducible rfl)
  simp only [Act.put, List.getElem_toArray, List.getElem_cons_succ, List.getElem_cons_zero, List.setIfInBounds_toArray, List.set_cons_zero, List.set_cons_succ]
  refine wpAnyH_by (joinR w3.heap.size D lz sz nz) (fun wx wy => Below wx.heap.size wx wy) [(2, some 12), (18, some 28), (19, some 5)] 1 rfl (by kernel_rfl) (by kernel_rfl) (by kernel_rfl) (by kernel_rfl) (by kernel_rfl) (by kernel_rfl) (by kernel_rfl) (joinR_up w3.heap.size D lz sz nz) hbr ?_ ?_
  · skip
    refine StepsI.skip (by kernel_rfl) ?_
    refine StepsI.skip (by kernel_rfl) ?_
    refine StepsI.cons (fun vals wx hS hd K hK => ?_) ?_
    · simp only [fillA, Act.put, List.setIfInBounds_toArray, List.set_cons_zero, List.set_cons_succ] at hK ⊢
      go_simp
      (with_reducible refine (HC.out _ (Chain.up hb3 hS)).mono ?_)
      rintro e w4 ⟨v, rfl, hown, hbL⟩
      exact hK.out _ _ (hown.low hS.size) (Chain.up hS hbL) hbL
    refine StepsI.skip (by kernel_rfl) ?_
    refine StepsI.skip (by kernel_rfl) ?_
    refine StepsI.skip (by kernel_rfl) ?_
    refine StepsI.skip (by kernel_rfl) ?_
    refine StepsI.skip (by kernel_rfl) ?_
    refine StepsI.skip (by kernel_rfl) ?_
    refine StepsI.skip (by kernel_rfl) ?_
    refine StepsI.skip (by kernel_rfl) ?_
    refine StepsI.skip (by kernel_rfl) ?_
    refine StepsI.skip (by kernel_rfl) ?_
    refine StepsI.skip (by kernel_rfl) ?_
    refine StepsI.skip (by kernel_rfl) ?_
    refine StepsI.skip (by kernel_rfl) ?_
    refine StepsI.skip (by kernel_rfl) ?_
    refine StepsI.skip (by kernel_rfl) ?_
    refine StepsI.cons (fun vals wx hS hd K hK => ?_) ?_
    · simp only [fillA, Act.put, List.setIfInBounds_toArray, List.set_cons_zero, List.set_cons_succ] at hK ⊢
      have p1 : OwnNums wx w3.heap.size (vals 2) D := hd 2 (some 12) (by decide) (by kernel_rfl)
      obtain ⟨av, cv, hv, _, _⟩ := p1.is numCells_len
      simp only [hv] at p1 hK ⊢
      go_simp
      exact hK.out _ _ ⟨av, cv, rfl, p1⟩ hS (Below.refl _ _)
    refine StepsI.cons (fun vals wx hS hd K hK => ?_) ?_
    · simp only [fillA, Act.put, List.setIfInBounds_toArray, List.set_cons_zero, List.set_cons_succ] at hK ⊢
      go_simp
      exact hK.out _ _ ⟨_, rfl, hS.size, Bx.fresh _ _ _⟩ (hS.alloc hS.size _) ((Below.refl _ _).alloc (Nat.le_refl _) _)
    refine StepsI.skip (by kernel_rfl) ?_
    exact StepsI.nil
  -- END 1
  · intro vals wx hS hR
    obtain ⟨g, hg, hgB, hbx⟩ : ∃ g, vals 19 = .pointer (some ⟨g, 0, none⟩) ∧ w3.heap.size ≤ g ∧ Bx wx g 29 #[.slice none 0 0, .slice none 0 0, .int .u64 0, .int .u64 0, .int .u64 0] := hR (19, some 5) (by decide)
    obtain ⟨av, cv, h18, hown⟩ : ∃ av cv, vals 18 = .agg #[.slice none 0 0, .slice av D.length cv, V64 lz, V64 sz, V64 nz] ∧ OwnNums wx w3.heap.size (.slice av D.length cv) D := hR (18, some 28) (by decide)
    simp only [fillA, Act.put, List.setIfInBounds_toArray, List.set_cons_zero, List.set_cons_succ, hg, h18]
    generalize vals 2 = v2
    clear hR hg h18 vals
    refine wpAnyH_one (i := 20) (by kernel_rfl) rfl (fun K hK => ?_)
    simp only [List.getElem_toArray, List.getElem_cons_succ, List.getElem_cons_zero]
    obtain ⟨p0, p1, p2, p3, p4⟩ := hbx.five
    have pf0 := hbx.frozen 0
    have pf1 := hbx.frozen 1
    have pf2 := hbx.frozen 2
    have pf3 := hbx.frozen 3
    have pf4 := hbx.frozen 4
    have hbx1 := hbx.set5 (.slice none 0 0) (.slice av D.length cv) (V64 lz) (V64 sz) (V64 nz)
    have hbut := (((((But.refl g wx).set 0 (.slice none 0 0)).set 1 (.slice av D.length cv)).set 2 (V64 lz)).set 3 (V64 sz)).set 4 (V64 nz)
    have hown1 := hown.but hbx (by decide) hbut
    have hS1 := below_set5 hS hgB (.slice none 0 0) (.slice av D.length cv) (V64 lz) (V64 sz) (V64 nz)
    go_simp
    generalize ((((wx.setCell ⟨g, 0, none⟩ (.slice none 0 0)).setCell ⟨g, 1, none⟩ (.slice av D.length cv)).setCell ⟨g, 2, none⟩ (V64 lz)).setCell ⟨g, 3, none⟩ (V64 sz)).setCell ⟨g, 4, none⟩ (V64 nz) = w6 at *
    refine hK.out _ _ hS1 ?_
    clear hK K p0 p1 p2 p3 p4 pf0 pf1 pf2 pf3 pf4 hbx hown hS hbut
    refine wpAnyH_done (by kernel_rfl) ?_ _
    have hB : w.heap.size ≤ w3.heap.size := hs3.size
    have hfar : ∀ wr, Below w3.heap.size w3 wr → Below w.heap.size w wr := fun wr h => Chain.up hs3 h
    have Hfar := Lib.hid hfar
    clear hfar
    have k1 := cell_up hS1 hx0.five.1
    generalize hdn : D.length = dn at *
    have Hdn := Lib.hid hdn
    clear hdn hbr
    have HCon := Lib.hid (fun (v : Nat) (r : Bool) (hr : P.hasN D' v = r) (wy : World) (hy : Below w.heap.size w wy) => contains_n b' m' d' D' v Hm'.out wy (by omega) (NumsAt.below HD'.out hy) r hr)
    go_wp2_with fail
    go_loopw [32] (fun i wr => ∃ (k : Nat) (va : Value), k ≤ n ∧ i = .int .i64 k ∧ Bx wr g 29 #[va, .slice av dn cv, V64 lz, V64 sz, V64 nz] ∧ OwnTabs wr w3.heap.size va ((A.take k).filter (fun t => !P.hasN D' t.n)) ∧ OwnNums wr w3.heap.size (.slice av dn cv) D ∧ Below w3.heap.size w3 wr) (fun i _ => n - (intOf i).toNat)
    case atStart => exact ⟨0, _, by omega, rfl, hbx1, ownR_nil _ _, hown1, hS1⟩
    case round =>
      clear hbx1 hown1 hS1 k1
      obtain ⟨k, va, hk, rfl, hbx, hown, hownN, hb⟩ := hrel
      have hcw := Hfar.out _ hb
      by_cases hlt : k < n
      · have hltA : k < A.length := by have := Hn.out; omega
        obtain ⟨bb, o, rfl, hbb, c0, c1, c2, c3, c4, c5, c6, c7⟩ := tab_at (RowsAt.up HA.out hcw) k hltA
        have Hyes := Lib.hid (show P.hasN D' A[k].n = false → (A.take (k + 1)).filter (fun t => !P.hasN D' t.n) = (A.take k).filter (fun t => !P.hasN D' t.n) ++ [A[k]] from fun h => P.keep_yes hltA (by rw [h]; rfl))
        have Hno := Lib.hid (show P.hasN D' A[k].n = true → (A.take (k + 1)).filter (fun t => !P.hasN D' t.n) = (A.take k).filter (fun t => !P.hasN D' t.n) from fun h => P.keep_no hltA (by rw [h]; rfl))
        have hll : ((A.take k).filter (fun t => !P.hasN D' t.n)).length ≤ 100000 := Nat.le_trans (List.length_filter_le _ _) (by rw [List.length_take]; omega)
        have HK := Lib.hid (fun r => HCon.out A[k].n r)
        generalize (A.take k).filter (fun t => !P.hasN D' t.n) = la at *
        generalize A[k] = q at *
        obtain ⟨tn, level, count, size, first, last, least, most⟩ := q
        simp only at c0 c1 c2 c3 c4 c5 c6 c7 Hyes Hno HK
        have ha := (Below.refl wr.heap.size wr).alloc (Nat.le_refl _) (.cells #[V64 tn, .int .i64 level, .int .i64 count, .int .i64 size, S first, S last, V64 least, V64 most] 31)
        have hbt := Bx.fresh wr 31 #[V64 tn, .int .i64 level, .int .i64 count, .int .i64 size, S first, S last, V64 least, V64 most]
        have hca := Chain.up hcw ha
        have f1 := cell_up hb hx1.five.2.1
        have f1a := cell_up ha f1
        cases hr : P.hasN D' tn with
        | true =>
          have HK1 := Lib.hid (HK.out true hr)
          have Hnx := Lib.hid (Hno.out hr)
          clear HK Hyes Hno hr
          go_wp2_with (first
            | (go_at_call 54; (with_reducible refine (HK1.out _ hca).mono ?_); rintro e w7 ⟨rfl, hb7⟩; have hc7 := Chain.up ha hb7))
          go_roundw
          case rel => exact ⟨k + 1, va, by omega, by go_num, hbx.up hc7, by rw [Hnx.out]; exact OwnR.up hown hc7, OwnR.up hownN hc7, Chain.up hb hc7⟩
          case measure => simp [intOf]; omega
        | false =>
          have HK1 := Lib.hid (HK.out false hr)
          have Hnx := Lib.hid (Hyes.out hr)
          clear HK Hyes Hno hr
          go_wp2_with (first
            | (go_at_call 54; (with_reducible refine (HK1.out _ hca).mono ?_); rintro e w7 ⟨rfl, hb7⟩; have hc7 := Chain.up ha hb7; obtain ⟨⟨t0, t1, t2, t3⟩, t4, t5, t6, t7⟩ := (hbt.up hb7).eight; obtain ⟨p0, p1, p2, p3, p4⟩ := (hbx.up hc7).five; have ha7 := (Below.refl w7.heap.size w7).alloc (Nat.le_refl _) (.cells #[V64 tn, .int .i64 level, .int .i64 count, .int .i64 size, S first, S last, V64 least, V64 most] 31))
            | (at_builtin; (refine wpList_appTabs (by rfl) _ _ (by rfl) w3.heap.size _ la [⟨tn, level, count, size, first, last, least, most⟩] (by rfl) (OwnR.alloc (OwnR.up hown hc7) _) (by simp; omega) _ _ _ (by rfl) (by rfl) (rows_new 8 tabCells tabCells_len w7 _ _ _ (by rfl)) (Chain.up (Chain.up hb hc7) ha7).size ?_); intro v' w8 hown8 hb8 hk8; obtain ⟨ad, cc, hv', _, _⟩ := hown8.is tabCells_len; (subst hv'); have hbx8 := ((hbx.up hc7).up ha7).kept (by decide) hk8; obtain ⟨q0, q1, q2, q3, q4⟩ := hbx8.five; have qf0 := hbx8.frozen 0))
          go_roundw
          case rel =>
            have hbu := (But.refl g w8).set 0 (.slice ad (la.length + 1) cc)
            simp only [List.length_append, List.length_singleton] at hown8
            exact ⟨k + 1, .slice ad (la.length + 1) cc, by omega, by go_num, by simpa using hbx8.set 0 (.slice ad (la.length + 1) cc), by rw [Hnx.out]; exact hown8.but hbx8 (by decide) hbu,
              ((OwnR.up (OwnR.up hownN hc7) ha7).keptT hk8 (by decide)).but hbx8 (by decide) hbu, ((Chain.up (Chain.up hb hc7) ha7).trans hb8).setCell hgB _⟩
          case measure => simp [intOf]; omega
      · obtain rfl : k = n := by omega
        clear hlt hk
        have hAk : A.take k = A := List.take_of_length_le (by have := Hn.out; omega)
        rw [hAk] at hown
        clear hAk
        have hlA : (A.filter (fun t => !P.hasN D' t.n)).length ≤ 100000 := Nat.le_trans (List.length_filter_le _ _) h1
        generalize A.filter (fun t => !P.hasN D' t.n) = lA at *
        obtain ⟨aa, ca, hva, _, _⟩ := hown.is tabCells_len
        subst hva
        have f1 := cell_up hb hx1.five.2.1
        have f0 := cell_up hb hx1.five.1
        have g0 := cell_up hb hx0.five.1
        generalize hlAn : lA.length = nA at *
        have HlA := Lib.hid hlAn
        clear hlAn
        go_wp2_with fail
        clear HCon
        have HCJ := Lib.hid (fun (v : Nat) (r : Bool) (hr : A.any (P.isN v) = r) (gv : Nat) (wy : World) (hy : Below w.heap.size w wy) (hxv : Bx wy gv 27 #[V64 v]) => contains_join a k c A gv v Hn.out wy (by omega) (RowsAt.up HA.out hy) hxv r hr)
        have hD0 : D = D ++ (D'.take 0).filter (fun n => !A.any (P.isN n)) := by simp
        go_loopw [52] (fun i wr => ∃ (j : Nat) (vb : Value), j ≤ m' ∧ i = .int .i64 j ∧ Bx wr g 29 #[.slice aa nA ca, vb, V64 lz, V64 sz, V64 nz] ∧ OwnTabs wr w3.heap.size (.slice aa nA ca) lA ∧ OwnNums wr w3.heap.size vb (D ++ (D'.take j).filter (fun n => !A.any (P.isN n))) ∧ Below w3.heap.size w3 wr) (fun i _ => m' - (intOf i).toNat)
        case atStart => exact ⟨0, _, by omega, rfl, hbx, hown, by rw [← hD0]; exact hownN, hb⟩
        case round =>
          clear hbx hown hownN hb hcw f0 f1 g0 hD0
          obtain ⟨j, vb, hj, rfl, hbx, hown, hownN, hb⟩ := hrel
          have hcw := Hfar.out _ hb
          by_cases hlt : j < m'
          · have hltD : j < D'.length := by have := Hm'.out; omega
            obtain ⟨bb, o, rfl, hbb, c0⟩ := NumsAt.below HD'.out hcw j hltD
            have Hyes := Lib.hid (show A.any (P.isN D'[j]) = false → D ++ (D'.take (j + 1)).filter (fun n => !A.any (P.isN n)) = (D ++ (D'.take j).filter (fun n => !A.any (P.isN n))) ++ [D'[j]] from fun h => by rw [P.keep_yes hltD (by rw [h]; rfl), List.append_assoc])
            have Hno := Lib.hid (show A.any (P.isN D'[j]) = true → D ++ (D'.take (j + 1)).filter (fun n => !A.any (P.isN n)) = D ++ (D'.take j).filter (fun n => !A.any (P.isN n)) from fun h => by rw [P.keep_no hltD (by rw [h]; rfl)])
            have hll : (D ++ (D'.take j).filter (fun n => !A.any (P.isN n))).length ≤ 200000 := by
              rw [List.length_append]
              have := List.length_filter_le (fun n => !A.any (P.isN n)) (D'.take j)
              rw [List.length_take] at this
              have := Hdn.out
              omega
            have HK := Lib.hid (fun r => HCJ.out D'[j] r)
            generalize D ++ (D'.take j).filter (fun n => !A.any (P.isN n)) = la at *
            generalize D'[j] = q at *
            have ha := (Below.refl wr.heap.size wr).alloc (Nat.le_refl _) (.cells #[V64 q] 27)
            have hbt := Bx.fresh wr 27 #[V64 q]
            have hca := Chain.up hcw ha
            have g0 := cell_up hb hx0.five.1
            have g0a := cell_up ha g0
            cases hr : A.any (P.isN q) with
            | true =>
              have HK1 := Lib.hid (HK.out true hr)
              have Hnx := Lib.hid (Hno.out hr)
              clear HK Hyes Hno hr
              go_wp2_with (first
                | (go_at_call 29; (with_reducible refine (HK1.out _ _ hca hbt).mono ?_); rintro e w7 ⟨rfl, hb7⟩; have hc7 := Chain.up ha hb7))
              go_roundw
              case rel => exact ⟨j + 1, vb, by omega, by go_num, hbx.up hc7, OwnR.up hown hc7, by rw [Hnx.out]; exact OwnR.up hownN hc7, Chain.up hb hc7⟩
              case measure => simp [intOf]; omega
            | false =>
              have HK1 := Lib.hid (HK.out false hr)
              have Hnx := Lib.hid (Hyes.out hr)
              clear HK Hyes Hno hr
              go_wp2_with (first
                | (go_at_call 29; (with_reducible refine (HK1.out _ _ hca hbt).mono ?_); rintro e w7 ⟨rfl, hb7⟩; have hc7 := Chain.up ha hb7; have t0 := (hbt.up hb7).cell 0; obtain ⟨p0, p1, p2, p3, p4⟩ := (hbx.up hc7).five; have ha7 := (Below.refl w7.heap.size w7).alloc (Nat.le_refl _) (.cells #[V64 q] 27))
                | (at_builtin; (refine wpList_appNums (by rfl) _ _ (by rfl) w3.heap.size _ la [q] (by rfl) (OwnR.alloc (OwnR.up hownN hc7) _) (by simp; omega) _ _ _ (by rfl) (by rfl) (NumsAt.of (rows_new 1 numCells numCells_len w7 _ _ _ (by rfl))) (Chain.up (Chain.up hb hc7) ha7).size ?_); intro v' w8 hown8 hb8 hk8; obtain ⟨ad, cc, hv', _, _⟩ := hown8.is numCells_len; (subst hv'); have hbx8 := ((hbx.up hc7).up ha7).kept (by decide) hk8; obtain ⟨q0, q1, q2, q3, q4⟩ := hbx8.five; have qf0 := hbx8.frozen 1))
              go_roundw
              case rel =>
                have hbu := (But.refl g w8).set 1 (.slice ad (la.length + 1) cc)
                simp only [List.length_append, List.length_singleton] at hown8
                exact ⟨j + 1, .slice ad (la.length + 1) cc, by omega, by go_num, by simpa using hbx8.set 1 (.slice ad (la.length + 1) cc), ((OwnR.up (OwnR.up hown hc7) ha7).keptT hk8 (by decide)).but hbx8 (by decide) hbu, by rw [Hnx.out]; exact hown8.but hbx8 (by decide) hbu,
                  ((Chain.up (Chain.up hb hc7) ha7).trans hb8).setCell hgB _⟩
              case measure => simp [intOf]; omega
          · obtain rfl : j = m' := by omega
            clear hlt hj
            have hDj : D'.take j = D' := List.take_of_length_le (by have := Hm'.out; omega)
            rw [hDj] at hownN
            clear hDj
            generalize D ++ D'.filter (fun n => !A.any (P.isN n)) = lD at *
            obtain ⟨ab, cb, hvb, _, _⟩ := hownN.is numCells_len
            subst hvb
            have f0 := cell_up hb hx1.five.1
            obtain ⟨p0, p1, p2, p3, p4⟩ := hbx.five
            have hne : g ≠ w.heap.size + 1 + 1 := by have := hx2.lt; omega
            have hlt2 : w.heap.size + 1 + 1 < w3.heap.size := hx2.lt
            generalize hlDn : lD.length = nD at *
            have HlD := Lib.hid hlDn
            clear hlDn
            go_wp2_with (first
              | (at_builtin; (refine wpList_appTabs (by rfl) _ _ (by rfl) w3.heap.size _ lA A' (by rfl) hown ?hlen _ _ _ (by rfl) Hn'.out (RowsAt.up HA'.out hcw) hb.size ?_); (case hlen => have := HlA.out; omega); intro v' w8 hown8 hb8 hk8; obtain ⟨ad, cc, hv', _, _⟩ := hown8.is tabCells_len; (subst hv'); have hbx8 := hbx.kept (by decide) hk8; have hN8 := hownN.keptT hk8 (by decide); obtain ⟨q0, q1, q2, q3, q4⟩ := hbx8.five; have qf0 := hbx8.frozen 0; have hx29 := ((hx2.up hb).below hb8 hlt2).other hne 0 (.slice ad (lA.length + A'.length) cc); obtain ⟨r0, r1, r2, r3, r4⟩ := hx29.five; have rf0 := hx29.frozen 0; have rf1 := hx29.frozen 1; have rf2 := hx29.frozen 2; have rf3 := hx29.frozen 3; have rf4 := hx29.frozen 4; obtain ⟨s0, s1, s2, s3, s4⟩ := (hbx8.set 0 (.slice ad (lA.length + A'.length) cc)).five))
            have hbu := (But.refl g w8).set 0 (.slice ad (lA.length + A'.length) cc)
            simp only [List.length_append] at hown8
            have hT9 := (((((hown8.but hbx8 (by decide) hbu).other hlt2 0 (.slice ad (lA.length + A'.length) cc)).other hlt2 1 (.slice ab nD cb)).other hlt2 2 (V64 lz)).other hlt2 3 (V64 sz)).other hlt2 4 (V64 nz)
            have hN9 := (((((hN8.but hbx8 (by decide) hbu).other hlt2 0 (.slice ad (lA.length + A'.length) cc)).other hlt2 1 (.slice ab nD cb)).other hlt2 2 (V64 lz)).other hlt2 3 (V64 sz)).other hlt2 4 (V64 nz)
            obtain ⟨q0, q1, q2, q3, q4⟩ := (hx29.set5 (.slice ad (lA.length + A'.length) cc) (.slice ab nD cb) (V64 lz) (V64 sz) (V64 nz)).five
            exact bodyPost_ret (v := edV ad (lA.length + A'.length) cc ab nD cb lz sz nz) (by simp [results, Try.results39, go_sem, q0, q1, q2, q3, q4]) rfl
              ⟨_, _, by rw [HJ.out], by rw [HJ.out]; exact hT9.low hB, by rw [HJ.out]; exact hN9.low hB, below_set5 ((hcw.trans (hb8.mono hB)).setCell (Nat.le_trans hB hgB) _) (show w.heap.size ≤ w.heap.size + 1 + 1 by omega) _ _ _ _ _⟩
end Go.Proofs.Ythpgigjplknomaa
