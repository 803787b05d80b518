/- The walk of the builder's Finish. -/
import Derived.Test.YthaiekilifoegaaWAdd
import Derived.Test.YthaiekilifoegaaWBigP
namespace Go.Proofs.Ythaiekilifoegaa
open Go.RowKit
set_option linter.unusedVariables false
set_option linter.unusedSimpArgs false

/-- What region 4's slots hold. -/
def finR (vs : Value) (N : Nat) (i : Nat) (v : Value) (w : World) : Prop := match i with
  | 3 => v = vs
  | 7 => v = .int .i64 N
  | 8 => v = V64 N
  | 9 => ∃ g f, v = .slice (some ⟨g, 0, none⟩) 1 1 ∧ w.heap[g]? = some (.cells #[V64 N] 55 f)
  | _ => True
theorem finR_up (vs : Value) (N : Nat) (i : Nat) (v : Value) (w w' : World) (h : finR vs N i v w) (hb : Below w.heap.size w w') : finR vs N i v w' := by
  unfold finR at h ⊢
  split at h
  · exact h
  · exact h
  · exact h
  · obtain ⟨g, f, h1, h3⟩ := h; exact ⟨g, f, h1, (hb.block g (lt_of_cells h3)).trans h3⟩
  · trivial
def P.places (l : List Nat) : List UInt8 := (l.map (P.be 4)).flatten
theorem P.places_snoc (l : List Nat) (n : Nat) : P.places (l ++ [n]) = P.places l ++ P.be 4 n := by simp [P.places]
theorem P.places_len (l : List Nat) : (P.places l).length = 4 * l.length := by
  induction l with
  | nil => rfl
  | cons x m ih =>
    have : P.places (x :: m) = P.be 4 x ++ P.places m := rfl
    rw [this, List.length_append, ih, P.be_length, List.length_cons]; omega
theorem Bx.grownO {w w' : World} {g B : Nat} {t : TypeId} {cs : Array Value} {v : Value} {l : List UInt8} (h : Bx w g t cs) (ho : Own w B v l) (hg : w.grownBy w' v.ownBlock) (ht : t ≠ 5) : Bx w' g t cs :=
  h.butS (ButS.grown (p := fun b => v.ownBlock = some b) hg (fun i hi => hi.symm)) (fun e => by
    obtain ⟨_, _, cur, hx⟩ := ho.lt e
    exact bx_ne h hx ht rfl)
theorem OwnR.grownO {α : Type} {e : TypeId} {k : Nat} {cs : α → List Value} {w w' : World} {B B' : Nat} {u v : Value} {r : List α} {l : List UInt8} (h : OwnR e k cs w B' u r) (ho : Own w B v l) (hg : w.grownBy w' v.ownBlock) (ht : e ≠ 5) : OwnR e k cs w' B' u r :=
  h.butS (ButS.grown (p := fun b => v.ownBlock = some b) hg (fun i hi => hi.symm)) (fun q hq hh => by
    obtain ⟨_, _, cur, hx⟩ := ho.lt hh
    obtain ⟨_, _, cur', hx'⟩ := h.lt hq
    exact bx_ne hx' hx ht rfl)
theorem below_own {a w w' : World} {B : Nat} {v : Value} {l : List UInt8} (hb : Below B a w) (h : Own w B v l) (hB : B ≤ w.heap.size) (hg : w.grownBy w' v.ownBlock) : Below B a w' :=
  hb.grown hg hB (fun k hk => (h.lt hk).1)
theorem P.bigS4 (n : Nat) (h : n < 4294967296) : P.bigS n 4 = P.be 4 n := (P.bigE_ok n 4 (by omega) (by omega) ((P.dig_iff n 4 (by omega)).2 (by omega))).2
/-- An empty builder. -/
theorem BldR.empty (w : World) (B g : Nat) (hg : B ≤ g) (hx : Bx w g 26 #[.slice none 0 0, .slice none 0 0, .int .i64 0, S []]) : BldR w B g (.slice none 0 0) (.slice none 0 0) 0 [] [] [] :=
  ⟨hg, hx, own_nil _ _, ownR_nil _ _⟩

set_option maxRecDepth 100000 in
set_option maxHeartbeats 4000000 in
theorem finish_any {w : World} {B g n : Nat} {vb vs : Value} {last bs : List UInt8} {ns : List Nat} (h : BldR w B g vb vs n last bs ns) (hn : n < 4294967296) (hbs : bs.length ≤ 1000000000) (hns : ns.length < 1000000) (hsm : ∀ m ∈ ns, m < 4294967296) (hB : B ≤ w.heap.size) :
    Calls Try.prog 12 #[.pointer (some ⟨g, 0, none⟩)] w fun e w' => e = .returned (S (bs ++ P.places (ns ++ [n]))) ∧ BldR w' B g (.slice none 0 0) (.slice none 0 0) 0 [] [] [] ∧ Below B w w' ∧ ButS (Blks g vb vs) w w' := by
  have hwb : IntKind.u64.wrap (n : Int) = (n : Int) := by rw [IntKind.wrap_u64]; omega
  obtain ⟨⟨c0, c1, c2, c3⟩, hf⟩ := h.box.four
  have HM := Lib.hid (show ∀ m ∈ ns ++ [n], m < 4294967296 from fun m hm => by
    rcases List.mem_append.1 hm with h | h
    · exact hsm m h
    · rw [List.mem_singleton.1 h]; exact hn)
  clear hsm
  obtain ⟨all, hall⟩ : ∃ all, all = ns ++ [n] := ⟨_, rfl⟩
  have hml : ns.length + 1 = all.length := by rw [hall]; simp
  rw [← hall] at HM ⊢
  have Hall := Lib.hid hall
  have Hml := Lib.hid hml
  have hal : all.length ≤ 1000000 := by omega
  clear hall hml
  have H := Lib.hid h
  clear h
  obtain ⟨a1, d1, hva, _⟩ := H.out.own.isO
  obtain ⟨a2, d2, hvs, _, _⟩ := H.out.nums.is numCells_len
  go_enter Try.func12, Try.ntmps12
  go_wp2_with fail
  -- REGION 4
  refine wp_region_held_drew (S := fun wx => ButS (fun b => vs.ownBlock = some b) w wx) (by kernel_rfl) (ButS.refl _ _) (fun hHeld => ?_)
  refine wpAnyH_take (i := 0) (v := ?_) rfl (by kernel_rfl) (by kernel_rfl) (by kernel_rfl) (fun _ _ _ h => h) (Or.inl ⟨by rfl, ?_⟩) hHeld ?_
  rotate_left
  · intro wq hSw; go_simp; (try with_reducible rfl)
  simp only [Act.put, List.getElem_toArray, List.getElem_cons_succ, List.getElem_cons_zero, List.setIfInBounds_toArray, List.set_cons_zero, List.set_cons_succ]
  refine wpAnyH_take (i := 1) (v := ?_) rfl (by kernel_rfl) (by kernel_rfl) (by kernel_rfl) (fun _ _ _ h => h) (Or.inl ⟨by rfl, ?_⟩) hHeld ?_
  rotate_left
  · intro wq hSw; go_simp; (try with_reducible rfl)
  simp only [Act.put, List.getElem_toArray, List.getElem_cons_succ, List.getElem_cons_zero, List.setIfInBounds_toArray, List.set_cons_zero, List.set_cons_succ]
  refine wpAnyH_take (i := 2) (v := ?_) rfl (by kernel_rfl) (by kernel_rfl) (by kernel_rfl) (fun _ _ _ h => h) (Or.inl ⟨by rfl, ?_⟩) hHeld ?_
  rotate_left
  · intro wq hSw; go_simp; (try with_reducible rfl)
  simp only [Act.put, List.getElem_toArray, List.getElem_cons_succ, List.getElem_cons_zero, List.setIfInBounds_toArray, List.set_cons_zero, List.set_cons_succ]
  refine wpAnyH_take (i := 4) (v := ?_) rfl (by kernel_rfl) (by kernel_rfl) (by kernel_rfl) (fun _ _ _ h => h) (Or.inl ⟨by rfl, ?_⟩) hHeld ?_
  rotate_left
  · intro wq hSw; go_simp; (try with_reducible rfl)
  simp only [Act.put, List.getElem_toArray, List.getElem_cons_succ, List.getElem_cons_zero, List.setIfInBounds_toArray, List.set_cons_zero, List.set_cons_succ]
  refine wpAnyH_take (i := 5) (v := ?_) rfl (by kernel_rfl) (by kernel_rfl) (by kernel_rfl) (fun _ _ _ h => h) (Or.inl ⟨by rfl, ?_⟩) hHeld ?_
  rotate_left
  · intro wq hSw; go_simp; (try with_reducible rfl)
  simp only [Act.put, List.getElem_toArray, List.getElem_cons_succ, List.getElem_cons_zero, List.setIfInBounds_toArray, List.set_cons_zero, List.set_cons_succ]
  refine wpAnyH_take (i := 6) (v := ?_) rfl (by kernel_rfl) (by kernel_rfl) (by kernel_rfl) (fun _ _ _ h => h) (Or.inl ⟨by rfl, ?_⟩) hHeld ?_
  rotate_left
  · intro wq hSw; go_simp; (try with_reducible rfl)
  simp only [Act.put, List.getElem_toArray, List.getElem_cons_succ, List.getElem_cons_zero, List.setIfInBounds_toArray, List.set_cons_zero, List.set_cons_succ]
  refine wpAnyH_take (i := 12) (v := ?_) rfl (by kernel_rfl) (by kernel_rfl) (by kernel_rfl) (fun _ _ _ h => h) (Or.inl ⟨by rfl, ?_⟩) hHeld ?_
  rotate_left
  · intro wq hSw; go_simp; (try with_reducible rfl)
  simp only [Act.put, List.getElem_toArray, List.getElem_cons_succ, List.getElem_cons_zero, List.setIfInBounds_toArray, List.set_cons_zero, List.set_cons_succ]
  refine wpAnyH_by2 (finR vs n) (fun wx => Below w.heap.size w wx) (fun wx wy => Below wx.heap.size wx wy) [(3, some 17), (7, some 21), (8, some 22), (9, some 23)] 2 (fun wx hx => ButS.of hx) rfl (by kernel_rfl) (by kernel_rfl) (by kernel_rfl) (by kernel_rfl) (by kernel_rfl) (by kernel_rfl) (by kernel_rfl) (finR_up vs n) (Below.refl _ _).drew ?_ ?_
  · skip
    refine StepsI.skip (by kernel_rfl) ?_
    refine StepsI.skip (by kernel_rfl) ?_
    refine StepsI.skip (by kernel_rfl) ?_
    refine StepsI.cons (fun vals wx hS hd K hK => ?_) ?_
    · simp only [fillA, Act.put, List.setIfInBounds_toArray, List.set_cons_zero, List.set_cons_succ] at hK ⊢
      obtain ⟨⟨q0, q1, q2, q3⟩, qf⟩ := (H.out.box.up hS).four
      go_simp
      exact hK.out _ _ (by first | rfl | exact hvs.symm) hS (Below.refl _ _)
    refine StepsI.skip (by kernel_rfl) ?_
    refine StepsI.skip (by kernel_rfl) ?_
    refine StepsI.skip (by kernel_rfl) ?_
    refine StepsI.cons (fun vals wx hS hd K hK => ?_) ?_
    · simp only [fillA, Act.put, List.setIfInBounds_toArray, List.set_cons_zero, List.set_cons_succ] at hK ⊢
      obtain ⟨⟨q0, q1, q2, q3⟩, qf⟩ := (H.out.box.up hS).four
      go_simp
      exact hK.out _ _ rfl hS (Below.refl _ _)
    refine StepsI.cons (fun vals wx hS hd K hK => ?_) ?_
    · simp only [fillA, Act.put, List.setIfInBounds_toArray, List.set_cons_zero, List.set_cons_succ] at hK ⊢
      have h1 : vals 7 = .int .i64 n := hd 7 (some 21) (by decide) (by kernel_rfl)
      simp only [h1] at hK ⊢
      go_simp
      exact hK.out _ _ rfl hS (Below.refl _ _)
    refine StepsI.cons (fun vals wx hS hd K hK => ?_) ?_
    · simp only [fillA, Act.put, List.setIfInBounds_toArray, List.set_cons_zero, List.set_cons_succ] at hK ⊢
      have h1 : vals 8 = V64 n := hd 8 (some 22) (by decide) (by kernel_rfl)
      simp only [h1] at hK ⊢
      go_simp
      exact hK.out _ _ ⟨wx.heap.size, _, rfl, heap_alloc_new wx _⟩ (hS.alloc hS.size _) ((Below.refl _ _).alloc (Nat.le_refl _) _)
    refine StepsI.skip (by kernel_rfl) ?_
    refine StepsI.skip (by kernel_rfl) ?_
    refine StepsI.skip (by kernel_rfl) ?_
    exact StepsI.nil
  · intro vals wx hS hR
    have hv4 : vals 3 = vs := hR (3, some 17) (by decide)
    obtain ⟨gx, A, hv11, hA⟩ : ∃ gx f, vals 9 = .slice (some ⟨gx, 0, none⟩) 1 1 ∧ wx.heap[gx]? = some (.cells #[V64 n] 55 f) := hR (9, some 23) (by decide)
    simp only [fillA, Act.put, List.setIfInBounds_toArray, List.set_cons_zero, List.set_cons_succ, hv4, hv11]
    clear hR hv4 hv11
    generalize vals 7 = x7
    generalize vals 8 = x8
    clear vals
    have HU := H.out.up hS
    have hbt1 : ButS (fun b => vs.ownBlock = some b) w wx := ButS.of hS
    refine wpAnyH_one (i := 10) (by kernel_rfl) rfl (fun K hK => ?_)
    simp only [List.getElem_toArray, List.getElem_cons_succ, List.getElem_cons_zero]
    rw [if_pos (by rfl)]
    refine wp_pushNum _ _ (by rfl) B vs ns n (by rfl) HU.nums hns gx _ _ hA (by rfl) (by rfl) (Nat.le_trans hB hS.size) ?_
    intro vs1 w8 hN8 hg8
    obtain ⟨a3, d3, hv3, hat3, _⟩ := hN8.is numCells_len
    have hbt2 : ButS (fun b => vs.ownBlock = some b) w w8 := hbt1.trans (ButS.grown (p := fun b => vs.ownBlock = some b) hg8 (fun i hi => hi.symm)) (fun _ _ h => h)
    rw [List.length_append, List.length_singleton] at hv3
    subst hv3
    refine hK.out _ _ hbt2 ?_
    simp only [Act.put, List.getElem_toArray, List.getElem_cons_succ, List.getElem_cons_zero, List.setIfInBounds_toArray, List.set_cons_zero, List.set_cons_succ]
    clear hK K
    refine wpAnyH_take (i := 11) (v := ?_) rfl (by kernel_rfl) (by kernel_rfl) (by kernel_rfl) (fun _ _ _ h => h) (Or.inl ⟨by rfl, ?_⟩) hbt2 ?_
    rotate_left
    · intro wq hSw; go_simp; (try with_reducible rfl)
    simp only [Act.put, List.getElem_toArray, List.getElem_cons_succ, List.getElem_cons_zero, List.setIfInBounds_toArray, List.set_cons_zero, List.set_cons_succ]
    refine wpAnyH_done (by kernel_rfl) ?_ _
  -- END REGION 4
    have hbs8 : ButS (Blks g vb vs) w w8 := hbt2.mono (fun i _ hi => .inr (.inr hi))
    have hbx8 : Bx w8 g 26 #[vb, vs, .int .i64 n, S last] := H.out.box.butS hbt2 H.out.nn
    have hO8 : Own w8 B vb bs := H.out.own.butS hbt2 (fun q hq e => H.out.two hq e)
    have hb8 : Below B w w8 := hbt2.below (fun i hi => (H.out.nums.lt hi).1) hB
    have hB8 := Nat.le_trans hB hbt2.size
    have hnb : vb.ownBlock ≠ some g := H.out.nb
    have hHg := H.out.hg
    have Hat := Lib.hid (show ∀ (i : Nat) (hi : i < ns.length + 1), ∃ b, a3 = some ⟨b, 0, none⟩ from fun i hi => by
      rcases hN8.2 with ⟨h1, h2⟩ | ⟨q, cap, cur, h1, _⟩
      · simp at h2
      · injection h1 with h1
        exact ⟨q, h1⟩)
    clear hS hA hbt1 HU hg8 hat3 hHeld
    rw [← Hall.out, Hml.out] at hN8
    rw [Hml.out] at Hat ⊢
    rw [← hva]
    clear hva hvs c0 c1 c2 c3
    have hmi : (ns.length : Int) + 1 = (all.length : Int) := by have := Hml.out; omega
    rw [hmi]
    clear hmi
    go_wp2_with fail
    go_loopw [26, 3] (fun i o wr => ∃ j : Nat, j ≤ all.length ∧ i = .int .i64 j ∧ Own wr B o (bs ++ P.places (all.take j)) ∧ OwnNums wr B (.slice a3 all.length d3) all ∧ Bx wr g 26 #[vb, vs, .int .i64 n, S last] ∧ B ≤ wr.heap.size ∧ Below B w wr ∧ ButS (Blks g vb vs) w wr ∧ (o.ownBlock = vb.ownBlock ∨ ∀ b, o.ownBlock = some b → w.heap.size ≤ b)) (fun i _ _ => all.length - (intOf i).toNat)
    case atStart => exact ⟨0, by omega, rfl, by simpa [P.places] using hO8, hN8, hbx8, hB8, hb8, hbs8, .inl rfl⟩
    case round =>
      clear hO8 hN8 hbx8 hB8 hb8 hbs8
      obtain ⟨j, hj, rfl, hO, hN, hbx, hBr, hbr, hbs, hsn⟩ := hrel
      by_cases hlt : j < all.length
      · obtain ⟨b, o, rfl, hbb, hc0⟩ := NumsAt.of (hN.at numCells_len) j hlt
        have HB := Lib.hid (fun wx => bigPut_any all[j] 4 wx (by have := HM.out _ (List.getElem_mem hlt); omega) (by omega) (by omega))
        rw [P.bigS4 _ (HM.out _ (List.getElem_mem hlt))] at HB
        have Hpl := Lib.hid (show P.places (all.take (j + 1)) = P.places (all.take j) ++ P.be 4 all[j] by rw [List.take_succ_eq_append_getElem hlt, P.places_snoc])
        have hbl := P.be_length 4 all[j]
        have hpl : (P.places (all.take j)).length ≤ 4000000 := by rw [P.places_len, List.length_take]; omega
        generalize P.bigE all[j] 4 = er at *
        generalize all[j] = x at *
        generalize hmm : P.be 4 x = mm at *
        have Hmm := Lib.hid hmm
        clear hmm
        go_wp2_with (first
          | (go_at_call 27; (with_reducible refine (HB.out _).mono ?_); rintro e4 w4 ⟨rfl, hb4⟩; have hO4 := hO.upO hb4; have hbx4 := hbx.up hb4; have hN4 := hN.up hb4)
          | (at_builtin; go_loud ((refine wpList_appOwn (by rfl) _ _ (by rfl) B u3 (bs ++ P.places (all.take j)) mm (by rfl) hO4 (by rfl) (by rw [List.length_append]; omega) (Nat.le_trans hBr hb4.size) ?_); intro v6 w6 hO6 hg6 hsn6; have hbx6 := hbx4.grownO hO4 hg6 (by decide); have hN6 := hN4.grownO hO4 hg6 (by decide); have hb6 := below_own (hbr.trans (hb4.mono hBr)) hO4 (Nat.le_trans hBr hb4.size) hg6)))
        go_roundw
        case rel => exact ⟨j + 1, by omega, by go_num, by rw [Hpl.out, ← List.append_assoc]; exact hO6, hN6, hbx6, Nat.le_trans (Nat.le_trans hBr hb4.size) hg6.size, hb6, (hbs.up hb4).trans (ButS.grown (p := fun b => u3.ownBlock = some b) hg6 (fun i hi => hi.symm)) (fun i hi hh => by
          rcases hsn with h1 | h1
          · exact .inr (.inl (h1 ▸ hh))
          · exact absurd (h1 i hh) (by omega)), by
          rcases hsn6 with h1 | h1
          · rw [h1]; exact hsn
          · exact .inr fun b hb => Nat.le_trans hbs.size (Nat.le_trans hb4.size (h1 b hb))⟩
        case measure => simp [intOf]; omega
      · obtain rfl : all.length = j := by omega
        rw [List.take_length] at hO
        obtain ⟨⟨q0, q1, q2, q3⟩, qf⟩ := hbx.four
        have hOg : u3.ownBlock ≠ some g := fun e => by
          obtain ⟨_, _, cur, hx⟩ := hO.lt e
          exact bx_ne hx hbx (by decide) rfl
        have hx4 := (((hbx.set 0 (.slice none 0 0)).set 1 (.slice none 0 0)).set 2 (.int .i64 0)).set 3 (S [])
        have hO4 := own_set (own_set (own_set (own_set hO hOg 0 (.slice none 0 0)) hOg 1 (.slice none 0 0)) hOg 2 (.int .i64 0)) hOg 3 (S [])
        have hb4 := (((hbr.setCell (p := ⟨g, 0, none⟩) hHg (.slice none 0 0)).setCell (p := ⟨g, 1, none⟩) hHg (.slice none 0 0)).setCell (p := ⟨g, 2, none⟩) hHg (.int .i64 0)).setCell (p := ⟨g, 3, none⟩) hHg (S [])
        have qf0 := qf 0
        have qf1 := qf 1
        have qf2 := qf 2
        have qf3 := qf 3
        go_wp2_with fail
        rw [hO4.string]
        go_wp2_with fail
        go_ret
        exact ⟨rfl, BldR.empty _ _ _ hHg hx4, hb4, (((hbs.trans (ButS.set (p := Blks g vb vs) (.inl rfl) _ 0 _) (fun _ _ h => h)).trans (ButS.set (p := Blks g vb vs) (.inl rfl) _ 1 _) (fun _ _ h => h)).trans (ButS.set (p := Blks g vb vs) (.inl rfl) _ 2 _) (fun _ _ h => h)).trans (ButS.set (p := Blks g vb vs) (.inl rfl) _ 3 _) (fun _ _ h => h)⟩
end Go.Proofs.Ythaiekilifoegaa
