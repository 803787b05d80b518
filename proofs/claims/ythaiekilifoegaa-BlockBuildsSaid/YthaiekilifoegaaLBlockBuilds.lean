/- The walk of BlockBuilds: it answers true. -/
import Derived.Test.YthaiekilifoegaaWLawK
namespace Go.Proofs.Ythaiekilifoegaa
open Go.RowKit
set_option linter.unusedVariables false
set_option linter.unusedSimpArgs false

theorem cell_lowB {w w' : World} {B b o : Nat} {v : Value} (hb : Below B w w') (hlt : b < B) (h : w.cell? ⟨b, o, none⟩ = some v) : w'.cell? ⟨b, o, none⟩ = some v := (hb.cell (p := ⟨b, o, none⟩) hlt).trans h
theorem P.addL_len (l : List P.En) (k v : List UInt8) : (P.addL l k v).length ≤ l.length + 1 := by
  unfold P.addL
  split
  · simp
  · omega

set_option maxRecDepth 100000 in
set_option maxHeartbeats 8000000 in
theorem builds_great (l : List P.Act) (a : Option Addr) (n c : Nat) (W : World) (hn : l.length = n) (hl : l.length ≤ 9223372036854775807) (hx : ∀ x ∈ l, x.d < 256 ∧ x.k.length ≤ 9223372036854775807 ∧ x.v.length ≤ 9223372036854775807) (hp : ActsAt W a l) (hg : P.greatA l = true) :
    Calls Try.prog 4 #[.slice a n c] W fun e w' => e = .returned (.bool true) ∧ Below W.heap.size W w' := by
  have HG := Lib.hid (fun (_ : Unit) => greatA_any a n c l hn.symm W hl (fun x h => (hx x h).2) hp)
  rw [hg] at HG
  clear hp hx hn hl hg
  go_enter Try.func4, Try.ntmps4
  go_wp2_with (first
    | (go_at_call 18; (with_reducible refine (HG.out ()).mono ?_); rintro e w1 ⟨rfl, hb1⟩)
    | (go_at_call 17; (with_reducible refine (awake_any _).mono ?_); rintro e w9 ⟨rfl, hb9⟩))
  go_ret
  exact ⟨rfl, Chain.up hb1 hb9⟩

set_option maxRecDepth 100000 in
set_option maxHeartbeats 8000000 in
theorem builds_few (l : List P.Act) (a : Option Addr) (n c : Nat) (W : World) (hn : l.length = n) (hx : ∀ x ∈ l, x.d < 256 ∧ x.k.length ≤ 9223372036854775807 ∧ x.v.length ≤ 9223372036854775807) (hp : ActsAt W a l) (hg : P.greatA l = false) :
    Calls Try.prog 4 #[.slice a n c] W fun e w' => e = .returned (.bool true) ∧ Below W.heap.size W w' := by
  obtain ⟨h120, h12⟩ := P.greatA_no hg
  have HG := Lib.hid (fun (_ : Unit) => greatA_any a n c l hn.symm W (by omega) (fun x h => (hx x h).2) hp)
  rw [hg] at HG
  have HX := Lib.hid (show ∀ (i : Nat) (hi : i < l.length), l[i].k.length ≤ 12000 ∧ l[i].v.length ≤ 12000 ∧ l[i].d < 256 from fun i hi => by
    have h1 := P.totA_mem l i hi
    have h2 := hx _ (List.getElem_mem hi)
    omega)
  have HP := Lib.hid hp
  have Hn := Lib.hid hn
  have hn120 : n ≤ 120 := by omega
  clear hp hx hn hg
  go_enter Try.func4, Try.ntmps4
  go_wp2_with (go_at_call 18; (with_reducible refine (HG.out ()).mono ?_); rintro e w1 ⟨rfl, hb1⟩)
  have hd1 := BldAt.fresh w1 w1.heap.size (Nat.le_refl _)
  have hc1 := (Below.refl w1.heap.size w1).alloc (Nat.le_refl _) (.cells #[.slice none 0 0, .slice none 0 0, .int .i64 0, S []] 26)
  generalize w1.alloc (.cells #[.slice none 0 0, .slice none 0 0, .int .i64 0, S []] 26) = w0 at *
  have hBW := hb1.size
  generalize hBB : w1.heap.size = B at *
  go_loopw [5, 4] (fun i u wr => ∃ (j : Nat) (li : List P.En) (a2 : Option Addr) (c2 : Nat), j ≤ n ∧ i = .int .i64 j ∧ u = .slice a2 li.length c2 ∧ li.length ≤ j ∧ BldAt wr B B li ∧ OwnEns wr B (.slice a2 li.length c2) li ∧ Below B w1 wr) (fun i _ _ => n - (intOf i).toNat)
  case atStart => exact ⟨0, [], none, 0, by omega, rfl, rfl, by simp, hd1, ownR_nil _ _, hc1⟩
  case round =>
    clear hd1 hc1
    obtain ⟨j, li, a2, c2, hj, rfl, rfl, hlj, hd, hO, hc⟩ := hrel
    have hBr : B ≤ wr.heap.size := by have := hc.size; omega
    by_cases hlt : j < n
    · have hjl : j < l.length := by have := Hn.out; omega
      obtain ⟨b, o, rfl, hbb, x0, x1, x2⟩ := acts_at HP.out j hjl
      have hcW : Below W.heap.size W wr := hb1.trans (hc.mono (by omega))
      have y0 := cell_up hcW x0
      have y1 := cell_up hcW x1
      have y2 := cell_up hcW x2
      clear x0 x1 x2
      obtain ⟨hk, hv, hd256⟩ := HX.out j hjl
      generalize l[j] = x at *
      obtain ⟨xd, k, v⟩ := x
      simp only at y0 y1 y2 hk hv hd256
      have hbB : b < B := by omega
      by_cases hx0 : xd = 0
      · subst hx0
        have HAdd := Lib.hid (fun wx (hx : Below wr.heap.size wr wx) => add_at (hd.up hx) k v (by omega) (by omega) (by omega) (Nat.le_trans hBr hx.size))
        have HRef := Lib.hid (fun (wx : World) (ho : OwnEns wx B (.slice a2 li.length c2) li) (hs : B ≤ wx.heap.size) => refAdd_own li B a2 li.length c2 rfl k v wx (by omega) (by omega) ho (by omega) hs)
        have hl9 : (P.addL li k v).length ≤ 100000 := by have := P.addL_len li k v; omega
        have hl10 : (P.addL li k v).length ≤ j + 1 := by have := P.addL_len li k v; omega
        generalize P.addL li k v = li2 at *
        generalize P.addE li.length (P.lastK li) k v = ee at *
        go_wp2_with fail
        refine wp_region_held_drew (S := fun wx => Below B wr wx) (by kernel_rfl) (Below.refl _ _).drew (fun hHeld => ?_)
        refine wpAnyH_take (i := 0) (v := ?_) rfl (by kernel_rfl) (by kernel_rfl) (by kernel_rfl) (fun _ _ _ h => h) (Or.inl ⟨by rfl, ?_⟩) hHeld ?_
        rotate_left
        · intro wq hSw; go_simp; (try with_reducible rfl)
        simp only [Act.put, List.getElem_toArray, List.getElem_cons_succ, List.getElem_cons_zero, List.setIfInBounds_toArray, List.set_cons_zero, List.set_cons_succ]
        refine wpAnyH_take (i := 1) (v := ?_) rfl (by kernel_rfl) (by kernel_rfl) (by kernel_rfl) (fun _ _ _ h => h) (Or.inl ⟨by rfl, ?_⟩) hHeld ?_
        rotate_left
        · intro wq hSw; go_simp; (try with_reducible rfl)
        simp only [Act.put, List.getElem_toArray, List.getElem_cons_succ, List.getElem_cons_zero, List.setIfInBounds_toArray, List.set_cons_zero, List.set_cons_succ]
        refine wpAnyH_take (i := 2) (v := ?_) rfl (by kernel_rfl) (by kernel_rfl) (by kernel_rfl) (fun _ _ _ h => h) (Or.inl ⟨by rfl, ?_⟩) hHeld ?_
        rotate_left
        · intro wq hSw; go_simp; (try with_reducible rfl)
        simp only [Act.put, List.getElem_toArray, List.getElem_cons_succ, List.getElem_cons_zero, List.setIfInBounds_toArray, List.set_cons_zero, List.set_cons_succ]
        refine wpAnyH_take (i := 3) (v := ?_) rfl (by kernel_rfl) (by kernel_rfl) (by kernel_rfl) (fun _ _ _ h => h) (Or.inl ⟨by rfl, ?_⟩) hHeld ?_
        rotate_left
        · intro wq hSw; go_simp; (try with_reducible rfl)
        simp only [Act.put, List.getElem_toArray, List.getElem_cons_succ, List.getElem_cons_zero, List.setIfInBounds_toArray, List.set_cons_zero, List.set_cons_succ]
        refine wpAnyH_take (i := 4) (v := ?_) rfl (by kernel_rfl) (by kernel_rfl) (by kernel_rfl) (fun _ _ _ h => h) (Or.inl ⟨by rfl, ?_⟩) hHeld ?_
        rotate_left
        · intro wq hSw; go_simp; (try with_reducible rfl)
        simp only [Act.put, List.getElem_toArray, List.getElem_cons_succ, List.getElem_cons_zero, List.setIfInBounds_toArray, List.set_cons_zero, List.set_cons_succ]
        refine wpAnyH_take (i := 5) (v := ?_) rfl (by kernel_rfl) (by kernel_rfl) (by kernel_rfl) (fun _ _ _ h => h) (Or.inl ⟨by rfl, ?_⟩) hHeld ?_
        rotate_left
        · intro wq hSw; have q1 := cell_lowB hSw (by omega) y1; have q2 := cell_lowB hSw (by omega) y2; go_simp; (try with_reducible rfl)
        simp only [Act.put, List.getElem_toArray, List.getElem_cons_succ, List.getElem_cons_zero, List.setIfInBounds_toArray, List.set_cons_zero, List.set_cons_succ]
        refine wpAnyH_take (i := 6) (v := ?_) rfl (by kernel_rfl) (by kernel_rfl) (by kernel_rfl) (fun _ _ _ h => h) (Or.inl ⟨by rfl, ?_⟩) hHeld ?_
        rotate_left
        · intro wq hSw; go_simp; (try with_reducible rfl)
        simp only [Act.put, List.getElem_toArray, List.getElem_cons_succ, List.getElem_cons_zero, List.setIfInBounds_toArray, List.set_cons_zero, List.set_cons_succ]
        refine wpAnyH_take (i := 7) (v := ?_) rfl (by kernel_rfl) (by kernel_rfl) (by kernel_rfl) (fun _ _ _ h => h) (Or.inl ⟨by rfl, ?_⟩) hHeld ?_
        rotate_left
        · intro wq hSw; go_simp; (try with_reducible rfl)
        simp only [Act.put, List.getElem_toArray, List.getElem_cons_succ, List.getElem_cons_zero, List.setIfInBounds_toArray, List.set_cons_zero, List.set_cons_succ]
        refine wpAnyH_take (i := 8) (v := ?_) rfl (by kernel_rfl) (by kernel_rfl) (by kernel_rfl) (fun _ _ _ h => h) (Or.inl ⟨by rfl, ?_⟩) hHeld ?_
        rotate_left
        · intro wq hSw; go_simp; (try with_reducible rfl)
        simp only [Act.put, List.getElem_toArray, List.getElem_cons_succ, List.getElem_cons_zero, List.setIfInBounds_toArray, List.set_cons_zero, List.set_cons_succ]
        refine wpAnyH_take (i := 9) (v := ?_) rfl (by kernel_rfl) (by kernel_rfl) (by kernel_rfl) (fun _ _ _ h => h) (Or.inl ⟨by rfl, ?_⟩) hHeld ?_
        rotate_left
        · intro wq hSw; go_simp; (try with_reducible rfl)
        simp only [Act.put, List.getElem_toArray, List.getElem_cons_succ, List.getElem_cons_zero, List.setIfInBounds_toArray, List.set_cons_zero, List.set_cons_succ]
        refine wpAnyH_take (i := 10) (v := ?_) rfl (by kernel_rfl) (by kernel_rfl) (by kernel_rfl) (fun _ _ _ h => h) (Or.inl ⟨by rfl, ?_⟩) hHeld ?_
        rotate_left
        · intro wq hSw; have q1 := cell_lowB hSw (by omega) y1; have q2 := cell_lowB hSw (by omega) y2; go_simp; (try with_reducible rfl)
        simp only [Act.put, List.getElem_toArray, List.getElem_cons_succ, List.getElem_cons_zero, List.setIfInBounds_toArray, List.set_cons_zero, List.set_cons_succ]
        refine wpAnyH_one (i := 11) (by kernel_rfl) rfl (fun K hK => ?_)
        simp only [List.getElem_toArray, List.getElem_cons_succ, List.getElem_cons_zero]
        go_simp
        (with_reducible refine (HAdd.out _ ((Below.refl wr.heap.size wr).drew)).mono ?_)
        rintro e w3 ⟨rfl, hd3, hb3, hk3⟩
        have hc3 : Below B wr w3 := (Below.refl B wr).drew.trans hb3
        refine hK.out _ _ hc3 ?_
        clear hK K
        refine wpAnyH_take (i := 12) (v := ?_) rfl (by kernel_rfl) (by kernel_rfl) (by kernel_rfl) (fun _ _ _ h => h) (Or.inl ⟨by rfl, ?_⟩) hc3 ?_
        rotate_left
        · intro wq hSw; go_simp; (try with_reducible rfl)
        simp only [Act.put, List.getElem_toArray, List.getElem_cons_succ, List.getElem_cons_zero, List.setIfInBounds_toArray, List.set_cons_zero, List.set_cons_succ]
        refine wpAnyH_done (by kernel_rfl) ?_ _
        have hO3 := hk3 _ _ _ (OwnR.up hO ((Below.refl wr.heap.size wr).drew))
        have y1 := cell_lowB hc3 hbB y1
        have y2 := cell_lowB hc3 hbB y2
        have hB3 := Nat.le_trans hBr hc3.size
        have hB3d : B ≤ w3.drew.heap.size := hB3
        go_wp2_with fail
        refine wp_region_held_drew (S := fun wx => Below B w3 wx) (by kernel_rfl) (Below.refl _ _).drew (fun hHeld => ?_)
        refine wpAnyH_take (i := 0) (v := ?_) rfl (by kernel_rfl) (by kernel_rfl) (by kernel_rfl) (fun _ _ _ h => h) (Or.inl ⟨by rfl, ?_⟩) hHeld ?_
        rotate_left
        · intro wq hSw; go_simp; (try with_reducible rfl)
        simp only [Act.put, List.getElem_toArray, List.getElem_cons_succ, List.getElem_cons_zero, List.setIfInBounds_toArray, List.set_cons_zero, List.set_cons_succ]
        refine wpAnyH_take (i := 1) (v := ?_) rfl (by kernel_rfl) (by kernel_rfl) (by kernel_rfl) (fun _ _ _ h => h) (Or.inl ⟨by rfl, ?_⟩) hHeld ?_
        rotate_left
        · intro wq hSw; go_simp; (try with_reducible rfl)
        simp only [Act.put, List.getElem_toArray, List.getElem_cons_succ, List.getElem_cons_zero, List.setIfInBounds_toArray, List.set_cons_zero, List.set_cons_succ]
        refine wpAnyH_take (i := 2) (v := ?_) rfl (by kernel_rfl) (by kernel_rfl) (by kernel_rfl) (fun _ _ _ h => h) (Or.inl ⟨by rfl, ?_⟩) hHeld ?_
        rotate_left
        · intro wq hSw; go_simp; (try with_reducible rfl)
        simp only [Act.put, List.getElem_toArray, List.getElem_cons_succ, List.getElem_cons_zero, List.setIfInBounds_toArray, List.set_cons_zero, List.set_cons_succ]
        refine wpAnyH_take (i := 3) (v := ?_) rfl (by kernel_rfl) (by kernel_rfl) (by kernel_rfl) (fun _ _ _ h => h) (Or.inl ⟨by rfl, ?_⟩) hHeld ?_
        rotate_left
        · intro wq hSw; go_simp; (try with_reducible rfl)
        simp only [Act.put, List.getElem_toArray, List.getElem_cons_succ, List.getElem_cons_zero, List.setIfInBounds_toArray, List.set_cons_zero, List.set_cons_succ]
        refine wpAnyH_take (i := 4) (v := ?_) rfl (by kernel_rfl) (by kernel_rfl) (by kernel_rfl) (fun _ _ _ h => h) (Or.inl ⟨by rfl, ?_⟩) hHeld ?_
        rotate_left
        · intro wq hSw; go_simp; (try with_reducible rfl)
        simp only [Act.put, List.getElem_toArray, List.getElem_cons_succ, List.getElem_cons_zero, List.setIfInBounds_toArray, List.set_cons_zero, List.set_cons_succ]
        refine wpAnyH_take (i := 5) (v := ?_) rfl (by kernel_rfl) (by kernel_rfl) (by kernel_rfl) (fun _ _ _ h => h) (Or.inl ⟨by rfl, ?_⟩) hHeld ?_
        rotate_left
        · intro wq hSw; have q1 := cell_lowB hSw (by omega) y1; have q2 := cell_lowB hSw (by omega) y2; go_simp; (try with_reducible rfl)
        simp only [Act.put, List.getElem_toArray, List.getElem_cons_succ, List.getElem_cons_zero, List.setIfInBounds_toArray, List.set_cons_zero, List.set_cons_succ]
        refine wpAnyH_take (i := 6) (v := ?_) rfl (by kernel_rfl) (by kernel_rfl) (by kernel_rfl) (fun _ _ _ h => h) (Or.inl ⟨by rfl, ?_⟩) hHeld ?_
        rotate_left
        · intro wq hSw; go_simp; (try with_reducible rfl)
        simp only [Act.put, List.getElem_toArray, List.getElem_cons_succ, List.getElem_cons_zero, List.setIfInBounds_toArray, List.set_cons_zero, List.set_cons_succ]
        refine wpAnyH_take (i := 7) (v := ?_) rfl (by kernel_rfl) (by kernel_rfl) (by kernel_rfl) (fun _ _ _ h => h) (Or.inl ⟨by rfl, ?_⟩) hHeld ?_
        rotate_left
        · intro wq hSw; go_simp; (try with_reducible rfl)
        simp only [Act.put, List.getElem_toArray, List.getElem_cons_succ, List.getElem_cons_zero, List.setIfInBounds_toArray, List.set_cons_zero, List.set_cons_succ]
        refine wpAnyH_take (i := 8) (v := ?_) rfl (by kernel_rfl) (by kernel_rfl) (by kernel_rfl) (fun _ _ _ h => h) (Or.inl ⟨by rfl, ?_⟩) hHeld ?_
        rotate_left
        · intro wq hSw; go_simp; (try with_reducible rfl)
        simp only [Act.put, List.getElem_toArray, List.getElem_cons_succ, List.getElem_cons_zero, List.setIfInBounds_toArray, List.set_cons_zero, List.set_cons_succ]
        refine wpAnyH_take (i := 9) (v := ?_) rfl (by kernel_rfl) (by kernel_rfl) (by kernel_rfl) (fun _ _ _ h => h) (Or.inl ⟨by rfl, ?_⟩) hHeld ?_
        rotate_left
        · intro wq hSw; go_simp; (try with_reducible rfl)
        simp only [Act.put, List.getElem_toArray, List.getElem_cons_succ, List.getElem_cons_zero, List.setIfInBounds_toArray, List.set_cons_zero, List.set_cons_succ]
        refine wpAnyH_take (i := 10) (v := ?_) rfl (by kernel_rfl) (by kernel_rfl) (by kernel_rfl) (fun _ _ _ h => h) (Or.inl ⟨by rfl, ?_⟩) hHeld ?_
        rotate_left
        · intro wq hSw; have q1 := cell_lowB hSw (by omega) y1; have q2 := cell_lowB hSw (by omega) y2; go_simp; (try with_reducible rfl)
        simp only [Act.put, List.getElem_toArray, List.getElem_cons_succ, List.getElem_cons_zero, List.setIfInBounds_toArray, List.set_cons_zero, List.set_cons_succ]
        refine wpAnyH_one (i := 11) (by kernel_rfl) rfl (fun K hK => ?_)
        simp only [List.getElem_toArray, List.getElem_cons_succ, List.getElem_cons_zero]
        go_simp
        (with_reducible refine (HRef.out _ (OwnR.up hO3 ((Below.refl w3.heap.size w3).drew)) hB3d).mono ?_)
        rintro e w4 ⟨⟨a4, c4, rfl, hO4⟩, hb4⟩
        have hb4' : Below w3.heap.size w3 w4 := (Below.refl w3.heap.size w3).drew.trans hb4
        have hc4 : Below B w3 w4 := hb4'.mono hB3
        refine hK.out _ _ hc4 ?_
        clear hK K
        refine wpAnyH_take (i := 12) (v := ?_) rfl (by kernel_rfl) (by kernel_rfl) (by kernel_rfl) (fun _ _ _ h => h) (Or.inl ⟨by rfl, ?_⟩) hc4 ?_
        rotate_left
        · intro wq hSw; go_simp; (try with_reducible rfl)
        simp only [Act.put, List.getElem_toArray, List.getElem_cons_succ, List.getElem_cons_zero, List.setIfInBounds_toArray, List.set_cons_zero, List.set_cons_succ]
        refine wpAnyH_take (i := 13) (v := ?_) rfl (by kernel_rfl) (by kernel_rfl) (by kernel_rfl) (fun _ _ _ h => h) (Or.inl ⟨by rfl, ?_⟩) hc4 ?_
        rotate_left
        · intro wq hSw; go_simp; (try with_reducible rfl)
        simp only [Act.put, List.getElem_toArray, List.getElem_cons_succ, List.getElem_cons_zero, List.setIfInBounds_toArray, List.set_cons_zero, List.set_cons_succ]
        refine wpAnyH_take (i := 14) (v := ?_) rfl (by kernel_rfl) (by kernel_rfl) (by kernel_rfl) (fun _ _ _ h => h) (Or.inl ⟨by rfl, ?_⟩) hc4 ?_
        rotate_left
        · intro wq hSw; go_simp; (try with_reducible rfl)
        simp only [Act.put, List.getElem_toArray, List.getElem_cons_succ, List.getElem_cons_zero, List.setIfInBounds_toArray, List.set_cons_zero, List.set_cons_succ]
        refine wpAnyH_take (i := 15) (v := ?_) rfl (by kernel_rfl) (by kernel_rfl) (by kernel_rfl) (fun _ _ _ h => h) (Or.inl ⟨by rfl, ?_⟩) hc4 ?_
        rotate_left
        · intro wq hSw; go_simp; (try with_reducible rfl)
        simp only [Act.put, List.getElem_toArray, List.getElem_cons_succ, List.getElem_cons_zero, List.setIfInBounds_toArray, List.set_cons_zero, List.set_cons_succ]
        refine wpAnyH_take (i := 16) (v := ?_) rfl (by kernel_rfl) (by kernel_rfl) (by kernel_rfl) (fun _ _ _ h => h) (Or.inl ⟨by rfl, ?_⟩) hc4 ?_
        rotate_left
        · intro wq hSw; go_simp; (try with_reducible rfl)
        simp only [Act.put, List.getElem_toArray, List.getElem_cons_succ, List.getElem_cons_zero, List.setIfInBounds_toArray, List.set_cons_zero, List.set_cons_succ]
        refine wpAnyH_done (by kernel_rfl) ?_ _
        have hd4 := hd3.up hb4'
        have hw4 := (hc.trans hc3).trans hc4
        clear hd hd3 hO hO3 HAdd HRef
        have hgd9 := hd4.1
        have HC := Lib.hid (fun wx (hx : Below w4.heap.size w4 wx) => count_at (hd4.up hx))
        have HS := Lib.hid (fun wx (hx : Below w4.heap.size w4 wx) => size_at (hd4.up hx) hl9)
        have HB := Lib.hid (fun wx (hx : Below w4.heap.size w4 wx) => refBytes_any (li2) a4 _ c4 rfl wx (((hO4).at enCells_len).up hx) hgd9 hl9)
        generalize hbl9 : (P.bytesB (li2)).length = bl9 at *
        go_wp2_with (first
          | (go_at_call 10; (with_reducible refine (HC.out _ (Below.refl _ _)).mono ?_); rintro e w5 ⟨rfl, hb5⟩)
          | (go_at_call 9; (with_reducible refine (HS.out _ hb5).mono ?_); rintro e w6 ⟨rfl, hb6⟩; have hb56 := Chain.up hb5 hb6)
          | (go_at_call 20; (with_reducible refine (HB.out _ hb56).mono ?_); rintro e w7 ⟨rfl, hb7⟩; have hb57 := Chain.up hb56 hb7))
        go_roundw
        case rel => exact ⟨j + 1, li2, _, _, by omega, by go_num, rfl, by omega, hd4.up hb57, OwnR.up (hO4) hb57, hw4.trans (hb57.mono (by have := hw4.size; omega))⟩
        case measure => simp [intOf]; omega
      · by_cases hx1 : xd = 1
        · subst hx1
          have HFin := Lib.hid (fun wx (hx : Below wr.heap.size wr wx) => finish_at (hd.up hx) (by omega) (Nat.le_trans hBr hx.size))
          have HBy := Lib.hid (fun (wx : World) (ho : OwnEns wx B (.slice a2 li.length c2) li) => refBytes_any li a2 li.length c2 rfl wx (ho.at enCells_len) hd.1 (by omega))
          have hl9 : ([] : List P.En).length ≤ 100000 := by simp
          generalize P.bytesB li = bl at *
          go_wp2_with (first
            | (go_at_call 12; (with_reducible refine (HFin.out _ (Below.refl _ _)).mono ?_); rintro e w3 ⟨rfl, hd3, hb3, hk3⟩; have hO3 := hk3 _ _ _ hO)
            | (go_at_call 20; (with_reducible refine (HBy.out _ hO3).mono ?_); rintro e w4 ⟨rfl, hb4⟩; have hd4 := hd3.up hb4; have hw4 := (hc.trans hb3).trans (hb4.mono (Nat.le_trans hBr hb3.size)); have HC := Lib.hid (fun wx (hx : Below w4.heap.size w4 wx) => count_at (hd4.up hx)); have HS := Lib.hid (fun wx (hx : Below w4.heap.size w4 wx) => size_at (hd4.up hx) hl9); have HB := Lib.hid (fun wx => refBytes_any [] none 0 0 rfl wx (fun i h => by simp at h) P.good_nil hl9))
            | (go_at_call 10; (with_reducible refine (HC.out _ (Below.refl _ _)).mono ?_); rintro e w5 ⟨rfl, hb5⟩)
            | (go_at_call 9; (with_reducible refine (HS.out _ hb5).mono ?_); rintro e w6 ⟨rfl, hb6⟩; have hb56 := Chain.up hb5 hb6)
            | (go_at_call 20; (with_reducible refine (HB.out _).mono ?_); rintro e w7 ⟨rfl, hb7⟩; have hb57 := Chain.up hb56 hb7))
          go_roundw
          case rel => exact ⟨j + 1, [], none, 0, by omega, by go_num, rfl, by simp, hd4.up hb57, ownR_nil _ _, hw4.trans (hb57.mono (by have := hw4.size; omega))⟩
          case measure => simp [intOf]; omega
        · have hi0 : ((xd : Int) == 0) = false := beq_eq_false_iff_ne.2 (by omega)
          have hi1 : ((xd : Int) == 1) = false := beq_eq_false_iff_ne.2 (by omega)
          have hl9 : li.length ≤ 100000 := by omega
          go_wp2_with fail
          have hgd9 := hd.1
          have HC := Lib.hid (fun wx (hx : Below wr.heap.size wr wx) => count_at (hd.up hx))
          have HS := Lib.hid (fun wx (hx : Below wr.heap.size wr wx) => size_at (hd.up hx) hl9)
          have HB := Lib.hid (fun wx (hx : Below wr.heap.size wr wx) => refBytes_any (li) a2 _ c2 rfl wx (((hO).at enCells_len).up hx) hgd9 hl9)
          generalize hbl9 : (P.bytesB (li)).length = bl9 at *
          go_wp2_with (first
            | (go_at_call 10; (with_reducible refine (HC.out _ (Below.refl _ _)).mono ?_); rintro e w5 ⟨rfl, hb5⟩)
            | (go_at_call 9; (with_reducible refine (HS.out _ hb5).mono ?_); rintro e w6 ⟨rfl, hb6⟩; have hb56 := Chain.up hb5 hb6)
            | (go_at_call 20; (with_reducible refine (HB.out _ hb56).mono ?_); rintro e w7 ⟨rfl, hb7⟩; have hb57 := Chain.up hb56 hb7))
          go_roundw
          case rel => exact ⟨j + 1, li, _, _, by omega, by go_num, rfl, by omega, hd.up hb57, OwnR.up (hO) hb57, hc.trans (hb57.mono (by have := hc.size; omega))⟩
          case measure => simp [intOf]; omega
    · obtain rfl : j = n := by omega
      go_wp2_with (go_at_call 17; (with_reducible refine (awake_any _).mono ?_); rintro e w9 ⟨rfl, hb9⟩)
      go_ret
      exact ⟨rfl, hb1.trans ((hc.mono (by omega)).trans (hb9.mono (by omega)))⟩
theorem law_builds (l : List P.Act) (a : Option Addr) (n c : Nat) (W : World) (hn : l.length = n) (hl : l.length ≤ 9223372036854775807) (hx : ∀ x ∈ l, x.d < 256 ∧ x.k.length ≤ 9223372036854775807 ∧ x.v.length ≤ 9223372036854775807) (hp : ActsAt W a l) :
    Calls Try.prog 4 #[.slice a n c] W fun e w' => e = .returned (.bool true) ∧ Below W.heap.size W w' := by
  cases hg : P.greatA l with
  | true => exact builds_great l a n c W hn hl hx hp hg
  | false => exact builds_few l a n c W hn hx hp hg
end Go.Proofs.Ythaiekilifoegaa
