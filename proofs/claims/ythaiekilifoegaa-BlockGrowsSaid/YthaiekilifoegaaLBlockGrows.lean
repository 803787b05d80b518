/- The walk of BlockGrows: it answers true. -/
import Derived.Test.YthaiekilifoegaaWLawK
import Derived.BigQuiet
import Derived.Deep.QuietTactic
namespace Go.Proofs.Ythaiekilifoegaa
open Go.RowKit
set_option linter.unusedVariables false
set_option linter.unusedSimpArgs false

theorem cell_lowB {w w' : World} {B b o : Nat} {v : Value} (hb : Below B w w') (hlt : b < B) (h : w.cell? ⟨b, o, none⟩ = some v) : w'.cell? ⟨b, o, none⟩ = some v := (hb.cell (p := ⟨b, o, none⟩) hlt).trans h
theorem P.entB_three (n : Nat) (k v : List UInt8) (hn : n < 65536) (hk : k.length ≤ 1024) (hv : v.length ≤ 1024) : (P.entB n k v).length ≤ 9 + k.length + v.length := by
  have h1 := P.row_len3 n hn
  have h2 := P.row_len3 (k.length - n) (by omega)
  have h3 := P.row_len3 v.length (by omega)
  rw [P.entB_length]; omega
theorem P.grow {l : List P.En} {k v : List UInt8} (h : P.addE l.length (P.lastK l) k v = 0) :
    P.addL l k v = l ++ [⟨k, v⟩] ∧ (P.bytesB l).length + 3 + v.length ≤ (P.bytesB (l ++ [⟨k, v⟩])).length ∧ (P.bytesB (l ++ [⟨k, v⟩])).length ≤ (P.bytesB l).length + (13 + k.length + v.length) := by
  obtain ⟨h1, h2, _⟩ := P.addE_zero.1 h
  refine ⟨by unfold P.addL; rw [if_pos h], ?_, ?_⟩
  · rw [P.bytesB_length, P.bytesB_length, List.length_append, List.length_singleton, P.upTo_snoc, List.length_append]
    have := P.entB_least (if l.length % 4 = 0 then 0 else P.lcp (P.lastK l) k) k v
    simp only at this ⊢
    omega
  · rw [P.bytesB_length, P.bytesB_length, List.length_append, List.length_singleton, P.upTo_snoc, List.length_append]
    have hle := P.lcp_le (P.lastK l) k
    have := P.entB_three (if l.length % 4 = 0 then 0 else P.lcp (P.lastK l) k) k v (by split <;> omega) h1 h2
    simp only at this ⊢
    omega

set_option maxRecDepth 100000 in
set_option maxHeartbeats 8000000 in
theorem grows_great (l : List P.Act) (a : Option Addr) (n c : Nat) (W : World) (hn : l.length = n) (hl : l.length ≤ 9223372036854775807) (hx : ∀ x ∈ l, x.d < 256 ∧ x.k.length ≤ 9223372036854775807 ∧ x.v.length ≤ 9223372036854775807) (hp : ActsAt W a l) (hg : P.greatA l = true) :
    Calls Try.prog 8 #[.slice a n c] W fun e w' => e = .returned (.bool true) ∧ Below W.heap.size W w' := by
  have HG := Lib.hid (fun (_ : Unit) => greatA_any a n c l hn.symm W hl (fun x h => (hx x h).2) hp)
  rw [hg] at HG
  clear hp hx hn hl hg
  go_enter Try.func8, Try.ntmps8
  go_wp2_with (first
    | (go_at_call 18; (with_reducible refine (HG.out ()).mono ?_); rintro e w1 ⟨rfl, hb1⟩)
    | (go_at_call 17; (with_reducible refine (awake_any _).mono ?_); rintro e w9 ⟨rfl, hb9⟩))
  go_ret
  exact ⟨rfl, Chain.up hb1 hb9⟩

set_option maxRecDepth 100000 in
set_option maxHeartbeats 8000000 in
theorem grows_few (l : List P.Act) (a : Option Addr) (n c : Nat) (W : World) (hn : l.length = n) (hx : ∀ x ∈ l, x.d < 256 ∧ x.k.length ≤ 9223372036854775807 ∧ x.v.length ≤ 9223372036854775807) (hp : ActsAt W a l) (hg : P.greatA l = false) :
    Calls Try.prog 8 #[.slice a n c] W fun e w' => e = .returned (.bool true) ∧ Below W.heap.size W w' := by
  obtain ⟨h120, h12⟩ := P.greatA_no hg
  have HG := Lib.hid (fun (_ : Unit) => greatA_any a n c l hn.symm W (by omega) (fun x h => (hx x h).2) hp)
  rw [hg] at HG
  have HX := Lib.hid (show ∀ (i : Nat) (hi : i < l.length), l[i].k.length ≤ 12000 ∧ l[i].v.length ≤ 12000 ∧ l[i].d < 256 from fun i hi => by
    have h1 := P.totA_mem l i hi
    have h2 := hx _ (List.getElem_mem hi)
    omega)
  have HP := Lib.hid hp
  have Hn := Lib.hid hn
  have hn120 : n ≤ 120 := by omega
  clear hp hx hn hg
  go_enter Try.func8, Try.ntmps8
  go_wp2_with (go_at_call 18; (with_reducible refine (HG.out ()).mono ?_); rintro e w1 ⟨rfl, hb1⟩)
  have hd1 := BldAt.fresh w1 w1.heap.size (Nat.le_refl _)
  have hc1 := (Below.refl w1.heap.size w1).alloc (Nat.le_refl _) (.cells #[.slice none 0 0, .slice none 0 0, .int .i64 0, S []] 26)
  generalize w1.alloc (.cells #[.slice none 0 0, .slice none 0 0, .int .i64 0, S []] 26) = w0 at *
  have hBW := hb1.size
  generalize hBB : w1.heap.size = B at *
  go_loopw [4] (fun i wr => ∃ (j : Nat) (li : List P.En), j ≤ n ∧ i = .int .i64 j ∧ li.length ≤ j ∧ BldAt wr B B li ∧ Below B w1 wr) (fun i _ => n - (intOf i).toNat)
  case atStart => exact ⟨0, [], by omega, rfl, by simp, hd1, hc1⟩
  case round =>
    clear hd1 hc1
    obtain ⟨j, li, hj, rfl, hlj, hd, hc⟩ := hrel
    have hBr : B ≤ wr.heap.size := by have := hc.size; omega
    by_cases hlt : j < n
    · have hjl : j < l.length := by have := Hn.out; omega
      obtain ⟨b, o, rfl, hbb, x0, x1, x2⟩ := acts_at HP.out j hjl
      have hcW : Below W.heap.size W wr := hb1.trans (hc.mono (by omega))
      have y1 := cell_up hcW x1
      have y2 := cell_up hcW x2
      clear x0 x1 x2
      obtain ⟨hk, hv, hd256⟩ := HX.out j hjl
      generalize l[j] = x at *
      obtain ⟨xd, k, v⟩ := x
      simp only at y1 y2 hk hv hd256
      have hbB : b < B := by omega
      have HS0 := Lib.hid (fun wx (hx : Below wr.heap.size wr wx) => size_at (hd.up hx) (by omega))
      have HC0 := Lib.hid (fun wx (hx : Below wr.heap.size wr wx) => count_at (hd.up hx))
      have hm0 := P.upTo_most hd.1 li.length
      have hN0 : (P.bytesB li).length ≤ 1000000000 := by rw [P.bytesB_length]; omega
      by_cases hE : P.addE li.length (P.lastK li) k v = 0
      · obtain ⟨g1, g2, g3⟩ := P.grow hE
        have HAdd := Lib.hid (fun wx (hx : Below wr.heap.size wr wx) => show Calls Try.prog 11 #[.pointer (some ⟨B, 0, none⟩), S k, S v] wx fun e w' => e = .returned (.int .i64 0) ∧ BldAt w' B B (li ++ [⟨k, v⟩]) ∧ Below B wx w' from by
          have := add_at (hd.up hx) k v (by omega) (by omega) (by omega) (Nat.le_trans hBr hx.size)
          rw [hE, g1] at this
          exact this.mono fun e w' h => ⟨h.1, h.2.1, h.2.2.1⟩)
        have hlen : (li ++ [(⟨k, v⟩ : P.En)]).length = li.length + 1 := by simp
        generalize hli2 : li ++ [(⟨k, v⟩ : P.En)] = li2 at *
        have Hli2 := Lib.hid hlen
        have hl2 : li2.length ≤ 100000 := by omega
        clear g1 hli2 hlen
        generalize hnl : li.length = nl at *
        generalize (P.bytesB li).length = N0 at *
        go_wp2_with (first
          | (go_at_call 9; (with_reducible refine (HS0.out _ (Below.refl _ _)).mono ?_); rintro e w2 ⟨rfl, hb2⟩)
          | (go_at_call 10; (with_reducible refine (HC0.out _ hb2).mono ?_); rintro e w3 ⟨rfl, hb3⟩; have hb23 := Chain.up hb2 hb3))
        have y1 := cell_up hb23 y1
        have y2 := cell_up hb23 y2
        have hw3 := hc.trans (hb23.mono hBr)
        have hB3 := Nat.le_trans hBr hb23.size
        refine wp_region_held_drew (S := fun wx => Below B w3 wx) (by kernel_rfl) (Below.refl _ _).drew (fun hHeld => ?_)
        refine wpAnyH_take (i := 0) (v := ?_) rfl (by kernel_rfl) (by kernel_rfl) (by kernel_rfl) (fun _ _ _ h => h) (Or.inl ⟨by rfl, ?_⟩) hHeld ?_
        rotate_left
        · intro wq hSw; go_simp; (try with_reducible rfl)
        simp only [Act.put, List.getElem_toArray, List.getElem_cons_succ, List.getElem_cons_zero, List.setIfInBounds_toArray, List.set_cons_zero, List.set_cons_succ]
        refine wpAnyH_take (i := 1) (v := ?_) rfl (by kernel_rfl) (by kernel_rfl) (by kernel_rfl) (fun _ _ _ h => h) (Or.inl ⟨by rfl, ?_⟩) hHeld ?_
        rotate_left
        · intro wq hSw; go_simp; (try with_reducible rfl)
        simp only [Act.put, List.getElem_toArray, List.getElem_cons_succ, List.getElem_cons_zero, List.setIfInBounds_toArray, List.set_cons_zero, List.set_cons_succ]
        refine wpAnyH_take (i := 2) (v := ?_) rfl (by kernel_rfl) (by kernel_rfl) (by kernel_rfl) (fun _ _ _ h => h) (Or.inl ⟨by rfl, ?_⟩) hHeld ?_
        rotate_left
        · intro wq hSw; go_simp; (try with_reducible rfl)
        simp only [Act.put, List.getElem_toArray, List.getElem_cons_succ, List.getElem_cons_zero, List.setIfInBounds_toArray, List.set_cons_zero, List.set_cons_succ]
        refine wpAnyH_take (i := 3) (v := ?_) rfl (by kernel_rfl) (by kernel_rfl) (by kernel_rfl) (fun _ _ _ h => h) (Or.inl ⟨by rfl, ?_⟩) hHeld ?_
        rotate_left
        · intro wq hSw; go_simp; (try with_reducible rfl)
        simp only [Act.put, List.getElem_toArray, List.getElem_cons_succ, List.getElem_cons_zero, List.setIfInBounds_toArray, List.set_cons_zero, List.set_cons_succ]
        refine wpAnyH_take (i := 4) (v := ?_) rfl (by kernel_rfl) (by kernel_rfl) (by kernel_rfl) (fun _ _ _ h => h) (Or.inl ⟨by rfl, ?_⟩) hHeld ?_
        rotate_left
        · intro wq hSw; go_simp; (try with_reducible rfl)
        simp only [Act.put, List.getElem_toArray, List.getElem_cons_succ, List.getElem_cons_zero, List.setIfInBounds_toArray, List.set_cons_zero, List.set_cons_succ]
        refine wpAnyH_take (i := 5) (v := ?_) rfl (by kernel_rfl) (by kernel_rfl) (by kernel_rfl) (fun _ _ _ h => h) (Or.inl ⟨by rfl, ?_⟩) hHeld ?_
        rotate_left
        · intro wq hSw; have q1 := cell_lowB hSw (by omega) y1; have q2 := cell_lowB hSw (by omega) y2; go_simp; (try with_reducible rfl)
        simp only [Act.put, List.getElem_toArray, List.getElem_cons_succ, List.getElem_cons_zero, List.setIfInBounds_toArray, List.set_cons_zero, List.set_cons_succ]
        refine wpAnyH_take (i := 6) (v := ?_) rfl (by kernel_rfl) (by kernel_rfl) (by kernel_rfl) (fun _ _ _ h => h) (Or.inl ⟨by rfl, ?_⟩) hHeld ?_
        rotate_left
        · intro wq hSw; go_simp; (try with_reducible rfl)
        simp only [Act.put, List.getElem_toArray, List.getElem_cons_succ, List.getElem_cons_zero, List.setIfInBounds_toArray, List.set_cons_zero, List.set_cons_succ]
        refine wpAnyH_take (i := 7) (v := ?_) rfl (by kernel_rfl) (by kernel_rfl) (by kernel_rfl) (fun _ _ _ h => h) (Or.inl ⟨by rfl, ?_⟩) hHeld ?_
        rotate_left
        · intro wq hSw; go_simp; (try with_reducible rfl)
        simp only [Act.put, List.getElem_toArray, List.getElem_cons_succ, List.getElem_cons_zero, List.setIfInBounds_toArray, List.set_cons_zero, List.set_cons_succ]
        refine wpAnyH_take (i := 8) (v := ?_) rfl (by kernel_rfl) (by kernel_rfl) (by kernel_rfl) (fun _ _ _ h => h) (Or.inl ⟨by rfl, ?_⟩) hHeld ?_
        rotate_left
        · intro wq hSw; go_simp; (try with_reducible rfl)
        simp only [Act.put, List.getElem_toArray, List.getElem_cons_succ, List.getElem_cons_zero, List.setIfInBounds_toArray, List.set_cons_zero, List.set_cons_succ]
        refine wpAnyH_take (i := 9) (v := ?_) rfl (by kernel_rfl) (by kernel_rfl) (by kernel_rfl) (fun _ _ _ h => h) (Or.inl ⟨by rfl, ?_⟩) hHeld ?_
        rotate_left
        · intro wq hSw; go_simp; (try with_reducible rfl)
        simp only [Act.put, List.getElem_toArray, List.getElem_cons_succ, List.getElem_cons_zero, List.setIfInBounds_toArray, List.set_cons_zero, List.set_cons_succ]
        refine wpAnyH_take (i := 10) (v := ?_) rfl (by kernel_rfl) (by kernel_rfl) (by kernel_rfl) (fun _ _ _ h => h) (Or.inl ⟨by rfl, ?_⟩) hHeld ?_
        rotate_left
        · intro wq hSw; have q1 := cell_lowB hSw (by omega) y1; have q2 := cell_lowB hSw (by omega) y2; go_simp; (try with_reducible rfl)
        simp only [Act.put, List.getElem_toArray, List.getElem_cons_succ, List.getElem_cons_zero, List.setIfInBounds_toArray, List.set_cons_zero, List.set_cons_succ]
        refine wpAnyH_one (i := 11) (by kernel_rfl) rfl (fun K hK => ?_)
        simp only [List.getElem_toArray, List.getElem_cons_succ, List.getElem_cons_zero]
        go_simp
        (with_reducible refine (HAdd.out _ (hb23.trans ((Below.refl w3.heap.size w3).drew.mono hb23.size))).mono ?_)
        rintro e w4 ⟨rfl, hd4, hb4⟩
        have hc4 : Below B w3 w4 := (Below.refl B w3).drew.trans hb4
        refine hK.out _ _ hc4 ?_
        clear hK K
        refine wpAnyH_take (i := 12) (v := ?_) rfl (by kernel_rfl) (by kernel_rfl) (by kernel_rfl) (fun _ _ _ h => h) (Or.inl ⟨by rfl, ?_⟩) hc4 ?_
        rotate_left
        · intro wq hSw; go_simp; (try with_reducible rfl)
        simp only [Act.put, List.getElem_toArray, List.getElem_cons_succ, List.getElem_cons_zero, List.setIfInBounds_toArray, List.set_cons_zero, List.set_cons_succ]
        refine wpAnyH_done (by kernel_rfl) ?_ _
        have z1 := cell_lowB hc4 hbB y1
        have z2 := cell_lowB hc4 hbB y2
        have hB4 := Nat.le_trans hB3 hc4.size
        go_wp2_with fail
        go_quiet (fail)
        have hw5 : Below B w1 (w4.drewN nq) := below_drewN (hw3.trans hc4) nq
        have z2 : (w4.drewN nq).cell? ⟨b, o + j * 3 + 2, none⟩ = some (S v) := z2
        have hd5 := hd4.up (below_drewN (Below.refl w4.heap.size w4) nq)
        have hB5 : B ≤ (w4.drewN nq).heap.size := hB4
        generalize w4.drewN nq = w5 at *
        have HC4 := Lib.hid (fun wx (hx : Below w5.heap.size w5 wx) => show Calls Try.prog 10 #[.pointer (some ⟨B, 0, none⟩)] wx fun e w' => e = .returned (.int .i64 ((nl : Int) + 1)) ∧ Below wx.heap.size wx w' from by
          have := count_at (hd5.up hx)
          rw [Hli2.out] at this
          exact this)
        have HS4 := Lib.hid (fun wx (hx : Below w5.heap.size w5 wx) => size_at (hd5.up hx) hl2)
        generalize (P.bytesB li2).length = N1 at *
        have hs1 : ¬ ((N1 : Int) < (N0 : Int) + 3 + (v.length : Int)) := by omega
        have hs2 : ¬ (N1 < N0 + 3 + v.length) := by omega
        have hs3 : (N0 : Int) + 3 + (v.length : Int) ≤ (N1 : Int) := by omega
        have hs4 : ¬ ((N0 : Int) + (6 + (k.length : Int) + 3 + (v.length : Int) + 4) < (N1 : Int)) := by omega
        have hr1 : IntKind.i64.wrap ((nl : Int) + 1) = (nl : Int) + 1 := IntWalk.i64_in _ (by omega)
        have hr2 : IntKind.i64.wrap ((N0 : Int) + 3) = (N0 : Int) + 3 := IntWalk.i64_in _ (by omega)
        have hr3 : IntKind.i64.wrap ((N0 : Int) + 3 + (v.length : Int)) = (N0 : Int) + 3 + (v.length : Int) := IntWalk.i64_in _ (by omega)
        have hr4 : IntKind.i64.wrap ((N0 : Int) + (6 + (k.length : Int) + 3 + (v.length : Int) + 4)) = (N0 : Int) + (6 + (k.length : Int) + 3 + (v.length : Int) + 4) := IntWalk.i64_in _ (by omega)
        have hd1 : decide ((N1 : Int) < (N0 : Int) + 3 + (v.length : Int)) = false := decide_eq_false (by omega)
        have hd2 : decide ((N0 : Int) + (6 + (k.length : Int) + 3 + (v.length : Int) + 4) < (N1 : Int)) = false := decide_eq_false (by omega)
        have hs5 : (N1 : Int) ≤ (N0 : Int) + (6 + (k.length : Int) + 3 + (v.length : Int) + 4) := by omega
        go_wp2_with fail
        refine wp_region_held_drew (S := fun wx => Below w5.heap.size w5 wx) (by kernel_rfl) (Below.refl _ _).drew (fun hHeld => ?_)
        refine wpAnyH_take (i := 0) (v := ?_) rfl (by kernel_rfl) (by kernel_rfl) (by kernel_rfl) (fun _ _ _ h => h) (Or.inl ⟨by rfl, ?_⟩) hHeld ?_
        rotate_left
        · intro wq hSw; go_simp; (try with_reducible rfl)
        simp only [Act.put, List.getElem_toArray, List.getElem_cons_succ, List.getElem_cons_zero, List.setIfInBounds_toArray, List.set_cons_zero, List.set_cons_succ]
        refine wpAnyH_take (i := 2) (v := ?_) rfl (by kernel_rfl) (by kernel_rfl) (by kernel_rfl) (fun _ _ _ h => h) (Or.inl ⟨by rfl, ?_⟩) hHeld ?_
        rotate_left
        · intro wq hSw; go_simp; (try with_reducible rfl)
        simp only [Act.put, List.getElem_toArray, List.getElem_cons_succ, List.getElem_cons_zero, List.setIfInBounds_toArray, List.set_cons_zero, List.set_cons_succ]
        refine wpAnyH_take (i := 3) (v := ?_) rfl (by kernel_rfl) (by kernel_rfl) (by kernel_rfl) (fun _ _ _ h => h) (Or.inl ⟨by rfl, ?_⟩) hHeld ?_
        rotate_left
        · intro wq hSw; go_simp; (try with_reducible rfl)
        simp only [Act.put, List.getElem_toArray, List.getElem_cons_succ, List.getElem_cons_zero, List.setIfInBounds_toArray, List.set_cons_zero, List.set_cons_succ]
        refine wpAnyH_one (i := 1) (by kernel_rfl) rfl (fun K hK => ?_)
        simp only [List.getElem_toArray, List.getElem_cons_succ, List.getElem_cons_zero]
        go_simp
        (with_reducible refine (HC4.out _ hHeld).mono ?_)
        rintro e w6 ⟨rfl, hb6⟩
        have hc6 := Chain.up hHeld hb6
        refine hK.out _ _ hc6 ?_
        clear hK K
        refine wpAnyH_take (i := 4) (v := ?_) rfl (by kernel_rfl) (by kernel_rfl) (by kernel_rfl) (fun _ _ _ h => h) (Or.inl ⟨by rfl, ?_⟩) hc6 ?_
        rotate_left
        · intro wq hSw; go_simp; (try with_reducible rfl)
        simp only [Act.put, List.getElem_toArray, List.getElem_cons_succ, List.getElem_cons_zero, List.setIfInBounds_toArray, List.set_cons_zero, List.set_cons_succ]
        refine wpAnyH_take (i := 5) (v := ?_) rfl (by kernel_rfl) (by kernel_rfl) (by kernel_rfl) (fun _ _ _ h => h) (Or.inl ⟨by rfl, ?_⟩) hc6 ?_
        rotate_left
        · intro wq hSw; go_simp; (try with_reducible rfl)
        simp only [Act.put, List.getElem_toArray, List.getElem_cons_succ, List.getElem_cons_zero, List.setIfInBounds_toArray, List.set_cons_zero, List.set_cons_succ]
        refine wpAnyH_take (i := 6) (v := ?_) rfl (by kernel_rfl) (by kernel_rfl) (by kernel_rfl) (fun _ _ _ h => h) (Or.inl ⟨by rfl, ?_⟩) hc6 ?_
        rotate_left
        · intro wq hSw; go_simp; (try with_reducible rfl)
        simp only [Act.put, List.getElem_toArray, List.getElem_cons_succ, List.getElem_cons_zero, List.setIfInBounds_toArray, List.set_cons_zero, List.set_cons_succ]
        refine wpAnyH_take (i := 8) (v := ?_) rfl (by kernel_rfl) (by kernel_rfl) (by kernel_rfl) (fun _ _ _ h => h) (Or.inl ⟨by rfl, ?_⟩) hc6 ?_
        rotate_left
        · intro wq hSw; go_simp; (try with_reducible rfl)
        simp only [Act.put, List.getElem_toArray, List.getElem_cons_succ, List.getElem_cons_zero, List.setIfInBounds_toArray, List.set_cons_zero, List.set_cons_succ]
        refine wpAnyH_take (i := 9) (v := ?_) rfl (by kernel_rfl) (by kernel_rfl) (by kernel_rfl) (fun _ _ _ h => h) (Or.inl ⟨by rfl, ?_⟩) hc6 ?_
        rotate_left
        · intro wq hSw; go_simp; (try with_reducible rfl)
        simp only [Act.put, List.getElem_toArray, List.getElem_cons_succ, List.getElem_cons_zero, List.setIfInBounds_toArray, List.set_cons_zero, List.set_cons_succ]
        refine wpAnyH_take (i := 10) (v := ?_) rfl (by kernel_rfl) (by kernel_rfl) (by kernel_rfl) (fun _ _ _ h => h) (Or.inl ⟨by rfl, ?_⟩) hc6 ?_
        rotate_left
        · intro wq hSw; go_simp; (try with_reducible rfl)
        simp only [Act.put, List.getElem_toArray, List.getElem_cons_succ, List.getElem_cons_zero, List.setIfInBounds_toArray, List.set_cons_zero, List.set_cons_succ]
        refine wpAnyH_take (i := 11) (v := ?_) rfl (by kernel_rfl) (by kernel_rfl) (by kernel_rfl) (fun _ _ _ h => h) (Or.inl ⟨by rfl, ?_⟩) hc6 ?_
        rotate_left
        · intro wq hSw; go_simp; (try with_reducible rfl)
        simp only [Act.put, List.getElem_toArray, List.getElem_cons_succ, List.getElem_cons_zero, List.setIfInBounds_toArray, List.set_cons_zero, List.set_cons_succ]
        refine wpAnyH_take (i := 12) (v := ?_) rfl (by kernel_rfl) (by kernel_rfl) (by kernel_rfl) (fun _ _ _ h => h) (Or.inl ⟨by rfl, ?_⟩) hc6 ?_
        rotate_left
        · intro wq hSw; go_simp; (try with_reducible rfl)
        simp only [Act.put, List.getElem_toArray, List.getElem_cons_succ, List.getElem_cons_zero, List.setIfInBounds_toArray, List.set_cons_zero, List.set_cons_succ]
        refine wpAnyH_take (i := 13) (v := ?_) rfl (by kernel_rfl) (by kernel_rfl) (by kernel_rfl) (fun _ _ _ h => h) (Or.inl ⟨by rfl, ?_⟩) hc6 ?_
        rotate_left
        · intro wq hSw; go_simp; (try with_reducible rfl)
        simp only [Act.put, List.getElem_toArray, List.getElem_cons_succ, List.getElem_cons_zero, List.setIfInBounds_toArray, List.set_cons_zero, List.set_cons_succ]
        refine wpAnyH_take (i := 14) (v := ?_) rfl (by kernel_rfl) (by kernel_rfl) (by kernel_rfl) (fun _ _ _ h => h) (Or.inl ⟨by rfl, ?_⟩) hc6 ?_
        rotate_left
        · intro wq hSw; have q2 := cell_up hSw z2; go_simp; (try with_reducible rfl)
        simp only [Act.put, List.getElem_toArray, List.getElem_cons_succ, List.getElem_cons_zero, List.setIfInBounds_toArray, List.set_cons_zero, List.set_cons_succ]
        refine wpAnyH_take (i := 15) (v := ?_) rfl (by kernel_rfl) (by kernel_rfl) (by kernel_rfl) (fun _ _ _ h => h) (Or.inl ⟨by rfl, ?_⟩) hc6 ?_
        rotate_left
        · intro wq hSw; go_simp; (try with_reducible rfl)
        simp only [Act.put, List.getElem_toArray, List.getElem_cons_succ, List.getElem_cons_zero, List.setIfInBounds_toArray, List.set_cons_zero, List.set_cons_succ]
        refine wpAnyH_take (i := 16) (v := ?_) rfl (by kernel_rfl) (by kernel_rfl) (by kernel_rfl) (fun _ _ _ h => h) (Or.inl ⟨by rfl, ?_⟩) hc6 ?_
        rotate_left
        · intro wq hSw; go_simp; (try with_reducible rfl)
        simp only [Act.put, List.getElem_toArray, List.getElem_cons_succ, List.getElem_cons_zero, List.setIfInBounds_toArray, List.set_cons_zero, List.set_cons_succ]
        refine wpAnyH_one (i := 7) (by kernel_rfl) rfl (fun K hK => ?_)
        simp only [List.getElem_toArray, List.getElem_cons_succ, List.getElem_cons_zero]
        rw [if_pos (by rfl)]
        go_simp
        (with_reducible refine (HS4.out _ hc6).mono ?_)
        rintro e w7 ⟨rfl, hb7⟩
        have hc7 := Chain.up hc6 hb7
        refine hK.out _ _ hc7 ?_
        clear hK K
        refine wpAnyH_take (i := 17) (v := ?_) rfl (by kernel_rfl) (by kernel_rfl) (by kernel_rfl) (fun _ _ _ h => h) (Or.inl ⟨by rfl, ?_⟩) hc7 ?_
        rotate_left
        · intro wq hSw; go_simp; (try with_reducible rfl)
        simp only [Act.put, List.getElem_toArray, List.getElem_cons_succ, List.getElem_cons_zero, List.setIfInBounds_toArray, List.set_cons_zero, List.set_cons_succ]
        refine wpAnyH_take (i := 18) (v := ?_) rfl (by kernel_rfl) (by kernel_rfl) (by kernel_rfl) (fun _ _ _ h => h) (Or.inl ⟨by rfl, ?_⟩) hc7 ?_
        rotate_left
        · intro wq hSw; go_simp; (try with_reducible rfl)
        simp only [Act.put, List.getElem_toArray, List.getElem_cons_succ, List.getElem_cons_zero, List.setIfInBounds_toArray, List.set_cons_zero, List.set_cons_succ]
        refine wpAnyH_take (i := 19) (v := ?_) rfl (by kernel_rfl) (by kernel_rfl) (by kernel_rfl) (fun _ _ _ h => h) (Or.inl ⟨by rfl, ?_⟩) hc7 ?_
        rotate_left
        · intro wq hSw; go_simp; (try with_reducible rfl)
        simp only [Act.put, List.getElem_toArray, List.getElem_cons_succ, List.getElem_cons_zero, List.setIfInBounds_toArray, List.set_cons_zero, List.set_cons_succ]
        refine wpAnyH_take (i := 20) (v := ?_) rfl (by kernel_rfl) (by kernel_rfl) (by kernel_rfl) (fun _ _ _ h => h) (Or.inl ⟨by rfl, ?_⟩) hc7 ?_
        rotate_left
        · intro wq hSw; go_simp; (try with_reducible rfl)
        simp only [Act.put, List.getElem_toArray, List.getElem_cons_succ, List.getElem_cons_zero, List.setIfInBounds_toArray, List.set_cons_zero, List.set_cons_succ]
        refine wpAnyH_take (i := 22) (v := ?_) rfl (by kernel_rfl) (by kernel_rfl) (by kernel_rfl) (fun _ _ _ h => h) (Or.inl ⟨by rfl, ?_⟩) hc7 ?_
        rotate_left
        · intro wq hSw; go_simp; (try with_reducible rfl)
        simp only [Act.put, List.getElem_toArray, List.getElem_cons_succ, List.getElem_cons_zero, List.setIfInBounds_toArray, List.set_cons_zero, List.set_cons_succ]
        refine wpAnyH_take (i := 23) (v := ?_) rfl (by kernel_rfl) (by kernel_rfl) (by kernel_rfl) (fun _ _ _ h => h) (Or.inl ⟨by rfl, ?_⟩) hc7 ?_
        rotate_left
        · intro wq hSw; go_simp; (try with_reducible rfl)
        simp only [Act.put, List.getElem_toArray, List.getElem_cons_succ, List.getElem_cons_zero, List.setIfInBounds_toArray, List.set_cons_zero, List.set_cons_succ]
        refine wpAnyH_take (i := 24) (v := ?_) rfl (by kernel_rfl) (by kernel_rfl) (by kernel_rfl) (fun _ _ _ h => h) (Or.inl ⟨by rfl, ?_⟩) hc7 ?_
        rotate_left
        · intro wq hSw; go_simp; (try with_reducible rfl)
        simp only [Act.put, List.getElem_toArray, List.getElem_cons_succ, List.getElem_cons_zero, List.setIfInBounds_toArray, List.set_cons_zero, List.set_cons_succ]
        refine wpAnyH_one (i := 21) (by kernel_rfl) rfl (fun K hK => ?_)
        simp only [List.getElem_toArray, List.getElem_cons_succ, List.getElem_cons_zero]
        rw [if_pos (by rfl)]
        go_simp
        (with_reducible refine (HS4.out _ hc7).mono ?_)
        rintro e w8 ⟨rfl, hb8⟩
        have hc8 := Chain.up hc7 hb8
        refine hK.out _ _ hc8 ?_
        clear hK K
        refine wpAnyH_take (i := 25) (v := ?_) rfl (by kernel_rfl) (by kernel_rfl) (by kernel_rfl) (fun _ _ _ h => h) (Or.inl ⟨by rfl, ?_⟩) hc8 ?_
        rotate_left
        · intro wq hSw; go_simp; (try with_reducible rfl)
        simp only [Act.put, List.getElem_toArray, List.getElem_cons_succ, List.getElem_cons_zero, List.setIfInBounds_toArray, List.set_cons_zero, List.set_cons_succ]
        refine wpAnyH_take (i := 26) (v := ?_) rfl (by kernel_rfl) (by kernel_rfl) (by kernel_rfl) (fun _ _ _ h => h) (Or.inl ⟨by rfl, ?_⟩) hc8 ?_
        rotate_left
        · intro wq hSw; go_simp; (try with_reducible rfl)
        simp only [Act.put, List.getElem_toArray, List.getElem_cons_succ, List.getElem_cons_zero, List.setIfInBounds_toArray, List.set_cons_zero, List.set_cons_succ]
        refine wpAnyH_done (by kernel_rfl) ?_ _
        go_wp2_with fail
        go_roundw
        case rel => exact ⟨j + 1, li2, by omega, by go_num, by have := Hli2.out; omega, hd5.up hc8, hw5.trans (hc8.mono hB5)⟩
        case measure => simp [intOf]; omega
      · have HAdd := Lib.hid (fun wx (hx : Below wr.heap.size wr wx) => show Calls Try.prog 11 #[.pointer (some ⟨B, 0, none⟩), S k, S v] wx fun e w' => e = .returned (.int .i64 (P.addE li.length (P.lastK li) k v)) ∧ BldAt w' B B li ∧ Below B wx w' from by
          have := add_at (hd.up hx) k v (by omega) (by omega) (by omega) (Nat.le_trans hBr hx.size)
          rw [show P.addL li k v = li by unfold P.addL; rw [if_neg hE]] at this
          exact this.mono fun e w' h => ⟨h.1, h.2.1, h.2.2.1⟩)
        generalize P.addE li.length (P.lastK li) k v = ee at *
        have hEn : (((ee : Nat) : Int) != 0) = true := by rw [bne_iff_ne]; omega
        have hEb : (((ee : Nat) : Int) == 0) = false := beq_eq_false_iff_ne.2 (by omega)
        have hll : li.length ≤ 100000 := by omega
        go_wp2_with (first
          | (go_at_call 9; (with_reducible refine (HS0.out _ (Below.refl _ _)).mono ?_); rintro e w2 ⟨rfl, hb2⟩)
          | (go_at_call 10; (with_reducible refine (HC0.out _ hb2).mono ?_); rintro e w3 ⟨rfl, hb3⟩; have hb23 := Chain.up hb2 hb3))
        have y1 := cell_up hb23 y1
        have y2 := cell_up hb23 y2
        have hw3 := hc.trans (hb23.mono hBr)
        have hB3 := Nat.le_trans hBr hb23.size
        refine wp_region_held_drew (S := fun wx => Below B w3 wx) (by kernel_rfl) (Below.refl _ _).drew (fun hHeld => ?_)
        refine wpAnyH_take (i := 0) (v := ?_) rfl (by kernel_rfl) (by kernel_rfl) (by kernel_rfl) (fun _ _ _ h => h) (Or.inl ⟨by rfl, ?_⟩) hHeld ?_
        rotate_left
        · intro wq hSw; go_simp; (try with_reducible rfl)
        simp only [Act.put, List.getElem_toArray, List.getElem_cons_succ, List.getElem_cons_zero, List.setIfInBounds_toArray, List.set_cons_zero, List.set_cons_succ]
        refine wpAnyH_take (i := 1) (v := ?_) rfl (by kernel_rfl) (by kernel_rfl) (by kernel_rfl) (fun _ _ _ h => h) (Or.inl ⟨by rfl, ?_⟩) hHeld ?_
        rotate_left
        · intro wq hSw; go_simp; (try with_reducible rfl)
        simp only [Act.put, List.getElem_toArray, List.getElem_cons_succ, List.getElem_cons_zero, List.setIfInBounds_toArray, List.set_cons_zero, List.set_cons_succ]
        refine wpAnyH_take (i := 2) (v := ?_) rfl (by kernel_rfl) (by kernel_rfl) (by kernel_rfl) (fun _ _ _ h => h) (Or.inl ⟨by rfl, ?_⟩) hHeld ?_
        rotate_left
        · intro wq hSw; go_simp; (try with_reducible rfl)
        simp only [Act.put, List.getElem_toArray, List.getElem_cons_succ, List.getElem_cons_zero, List.setIfInBounds_toArray, List.set_cons_zero, List.set_cons_succ]
        refine wpAnyH_take (i := 3) (v := ?_) rfl (by kernel_rfl) (by kernel_rfl) (by kernel_rfl) (fun _ _ _ h => h) (Or.inl ⟨by rfl, ?_⟩) hHeld ?_
        rotate_left
        · intro wq hSw; go_simp; (try with_reducible rfl)
        simp only [Act.put, List.getElem_toArray, List.getElem_cons_succ, List.getElem_cons_zero, List.setIfInBounds_toArray, List.set_cons_zero, List.set_cons_succ]
        refine wpAnyH_take (i := 4) (v := ?_) rfl (by kernel_rfl) (by kernel_rfl) (by kernel_rfl) (fun _ _ _ h => h) (Or.inl ⟨by rfl, ?_⟩) hHeld ?_
        rotate_left
        · intro wq hSw; go_simp; (try with_reducible rfl)
        simp only [Act.put, List.getElem_toArray, List.getElem_cons_succ, List.getElem_cons_zero, List.setIfInBounds_toArray, List.set_cons_zero, List.set_cons_succ]
        refine wpAnyH_take (i := 5) (v := ?_) rfl (by kernel_rfl) (by kernel_rfl) (by kernel_rfl) (fun _ _ _ h => h) (Or.inl ⟨by rfl, ?_⟩) hHeld ?_
        rotate_left
        · intro wq hSw; have q1 := cell_lowB hSw (by omega) y1; have q2 := cell_lowB hSw (by omega) y2; go_simp; (try with_reducible rfl)
        simp only [Act.put, List.getElem_toArray, List.getElem_cons_succ, List.getElem_cons_zero, List.setIfInBounds_toArray, List.set_cons_zero, List.set_cons_succ]
        refine wpAnyH_take (i := 6) (v := ?_) rfl (by kernel_rfl) (by kernel_rfl) (by kernel_rfl) (fun _ _ _ h => h) (Or.inl ⟨by rfl, ?_⟩) hHeld ?_
        rotate_left
        · intro wq hSw; go_simp; (try with_reducible rfl)
        simp only [Act.put, List.getElem_toArray, List.getElem_cons_succ, List.getElem_cons_zero, List.setIfInBounds_toArray, List.set_cons_zero, List.set_cons_succ]
        refine wpAnyH_take (i := 7) (v := ?_) rfl (by kernel_rfl) (by kernel_rfl) (by kernel_rfl) (fun _ _ _ h => h) (Or.inl ⟨by rfl, ?_⟩) hHeld ?_
        rotate_left
        · intro wq hSw; go_simp; (try with_reducible rfl)
        simp only [Act.put, List.getElem_toArray, List.getElem_cons_succ, List.getElem_cons_zero, List.setIfInBounds_toArray, List.set_cons_zero, List.set_cons_succ]
        refine wpAnyH_take (i := 8) (v := ?_) rfl (by kernel_rfl) (by kernel_rfl) (by kernel_rfl) (fun _ _ _ h => h) (Or.inl ⟨by rfl, ?_⟩) hHeld ?_
        rotate_left
        · intro wq hSw; go_simp; (try with_reducible rfl)
        simp only [Act.put, List.getElem_toArray, List.getElem_cons_succ, List.getElem_cons_zero, List.setIfInBounds_toArray, List.set_cons_zero, List.set_cons_succ]
        refine wpAnyH_take (i := 9) (v := ?_) rfl (by kernel_rfl) (by kernel_rfl) (by kernel_rfl) (fun _ _ _ h => h) (Or.inl ⟨by rfl, ?_⟩) hHeld ?_
        rotate_left
        · intro wq hSw; go_simp; (try with_reducible rfl)
        simp only [Act.put, List.getElem_toArray, List.getElem_cons_succ, List.getElem_cons_zero, List.setIfInBounds_toArray, List.set_cons_zero, List.set_cons_succ]
        refine wpAnyH_take (i := 10) (v := ?_) rfl (by kernel_rfl) (by kernel_rfl) (by kernel_rfl) (fun _ _ _ h => h) (Or.inl ⟨by rfl, ?_⟩) hHeld ?_
        rotate_left
        · intro wq hSw; have q1 := cell_lowB hSw (by omega) y1; have q2 := cell_lowB hSw (by omega) y2; go_simp; (try with_reducible rfl)
        simp only [Act.put, List.getElem_toArray, List.getElem_cons_succ, List.getElem_cons_zero, List.setIfInBounds_toArray, List.set_cons_zero, List.set_cons_succ]
        refine wpAnyH_one (i := 11) (by kernel_rfl) rfl (fun K hK => ?_)
        simp only [List.getElem_toArray, List.getElem_cons_succ, List.getElem_cons_zero]
        go_simp
        (with_reducible refine (HAdd.out _ (hb23.trans ((Below.refl w3.heap.size w3).drew.mono hb23.size))).mono ?_)
        rintro e w4 ⟨rfl, hd4, hb4⟩
        have hc4 : Below B w3 w4 := (Below.refl B w3).drew.trans hb4
        refine hK.out _ _ hc4 ?_
        clear hK K
        refine wpAnyH_take (i := 12) (v := ?_) rfl (by kernel_rfl) (by kernel_rfl) (by kernel_rfl) (fun _ _ _ h => h) (Or.inl ⟨by rfl, ?_⟩) hc4 ?_
        rotate_left
        · intro wq hSw; go_simp; (try with_reducible rfl)
        simp only [Act.put, List.getElem_toArray, List.getElem_cons_succ, List.getElem_cons_zero, List.setIfInBounds_toArray, List.set_cons_zero, List.set_cons_succ]
        refine wpAnyH_done (by kernel_rfl) ?_ _
        have hB4 := Nat.le_trans hB3 hc4.size
        have HS4 := Lib.hid (fun wx (hx : Below w4.heap.size w4 wx) => size_at (hd4.up hx) hll)
        have HC4 := Lib.hid (fun wx (hx : Below w4.heap.size w4 wx) => count_at (hd4.up hx))
        go_wp2_with (first
          | (go_at_call 9; (with_reducible refine (HS4.out _ (Below.refl _ _)).mono ?_); rintro e w6 ⟨rfl, hb6⟩)
          | (go_at_call 10; (with_reducible refine (HC4.out _ hb6).mono ?_); rintro e w7 ⟨rfl, hb7⟩; have hb67 := Chain.up hb6 hb7))
        go_roundw
        case rel => exact ⟨j + 1, li, by omega, by go_num, by omega, hd4.up hb67, (hw3.trans hc4).trans (hb67.mono hB4)⟩
        case measure => simp [intOf]; omega
    · obtain rfl : j = n := by omega
      go_wp2_with (go_at_call 17; (with_reducible refine (awake_any _).mono ?_); rintro e w9 ⟨rfl, hb9⟩)
      go_ret
      exact ⟨rfl, hb1.trans ((hc.mono (by omega)).trans (hb9.mono (by omega)))⟩
theorem law_grows (l : List P.Act) (a : Option Addr) (n c : Nat) (W : World) (hn : l.length = n) (hl : l.length ≤ 9223372036854775807) (hx : ∀ x ∈ l, x.d < 256 ∧ x.k.length ≤ 9223372036854775807 ∧ x.v.length ≤ 9223372036854775807) (hp : ActsAt W a l) :
    Calls Try.prog 8 #[.slice a n c] W fun e w' => e = .returned (.bool true) ∧ Below W.heap.size W w' := by
  cases hg : P.greatA l with
  | true => exact grows_great l a n c W hn hl hx hp hg
  | false => exact grows_few l a n c W hn hx hp hg
end Go.Proofs.Ythaiekilifoegaa
