/- ScriptPuts: whether acts may be, and their script, are the document's. The walk of the law. -/
import Derived.Test.YtnflbgindcejjaaDoorWSLaw
import Derived.Test.YtnflbgindcejjaaDoorWSRefE
import Derived.Test.YtnflbgindcejjaaDoorWInv
namespace Go.Proofs.YtnflbgindcejjaaDoor
open Go.RowKit
set_option linter.unusedVariables false
set_option linter.unusedSimpArgs false

/-- How much acts hold. -/
def P.sizeA (a : P.Ac) : Nat := a.text.length + a.draws.length + a.cr.keep.length + a.cr.spoil.length
def P.sumA (l : List P.Ac) : Nat := (l.map P.sizeA).foldr (· + ·) 0
theorem P.sumA_snoc (l : List P.Ac) (a : P.Ac) : P.sumA (l ++ [a]) = P.sumA l + P.sizeA a := by
  induction l with
  | nil => simp [P.sumA]
  | cons b l ih =>
    show P.sizeA b + P.sumA (l ++ [a]) = (P.sizeA b + P.sumA l) + P.sizeA a
    rw [ih]
    omega
/-- What Great gives. -/
def GreatDid (n : Nat) (rs : List AcR) (w : World) (e : Ending) (w' : World) : Prop := (∃ b : Bool, e = .returned (.bool b) ∧ (b = false → n ≤ 120 ∧ (∀ r ∈ rs, r.x.text.length ≤ 12000) ∧ P.sumA (rs.map AcR.x) ≤ 12000)) ∧ Below w.heap.size w w'
set_option maxRecDepth 100000 in
set_option maxHeartbeats 8000000 in
theorem great_any (a : Option Addr) (rs : List AcR) (c n : Nat) (w : World) (hn : n = rs.length) (hl : n ≤ 9223372036854775807) (hat : ActsAt w a rs) :
    Calls Tryd.prog 15 #[.slice a n c] w (GreatDid n rs w) := by
  by_cases hlong : 120 < n
  · have hlong2 : (120 : Int) < (n : Int) := by omega
    clear hat hn
    go_enter Tryd.func15, Tryd.ntmps15
    go_wp2_with fail
    go_ret
    exact ⟨⟨true, rfl, fun h => by cases h⟩, Below.refl _ _⟩
  have hshort : ¬ (120 : Int) < (n : Int) := by omega
  have Hrows := Lib.hid hat.rows
  have Hn := Lib.hid hn
  clear hat hn
  go_enter Tryd.func15, Tryd.ntmps15
  go_wp2_with fail
  go_loopw [4, 3] (fun z y wr => ∃ j m : Nat, j ≤ n ∧ z = .int .i64 j ∧ y = .int .i64 m ∧ m ≤ 26000 * j ∧ m = P.sumA ((rs.map AcR.x).take j) ∧ (∀ r ∈ rs.take j, r.x.text.length ≤ 12000) ∧ Below w.heap.size w wr) (fun z _ _ => n - (intOf z).toNat)
  case atStart => exact ⟨0, 0, by omega, rfl, rfl, by omega, rfl, fun r hr => by simp at hr, Below.refl _ _⟩
  case round =>
    obtain ⟨j, m, hj, rfl, rfl, hm, hsum, hts, hw⟩ := hrel
    have Hsum := Lib.hid hsum
    have Hts := Lib.hid hts
    clear hsum hts
    by_cases hlt : j < n
    · have hltl : j < rs.length := by have := Hn.out; omega
      have hltm : j < (rs.map AcR.x).length := by rw [List.length_map]; exact hltl
      obtain ⟨bb, o, rfl, hbb, c0, c1, c2, c3, c4, c5, c6⟩ := act_at (RowsAt.up Hrows.out hw) j hltl
      have Hnx := Lib.hid (show P.sumA ((rs.map AcR.x).take (j + 1)) = m + P.sizeA rs[j].x by rw [List.take_succ_eq_append_getElem hltm, P.sumA_snoc, List.getElem_map, ← Hsum.out])
      have Htn := Lib.hid (show rs[j].x.text.length ≤ 12000 → ∀ r ∈ rs.take (j + 1), r.x.text.length ≤ 12000 from fun h r hr => by
        rw [List.take_succ_eq_append_getElem hltl] at hr
        rcases List.mem_append.1 hr with hr | hr
        · exact Hts.out r hr
        · rw [List.mem_singleton.1 hr]; exact h)
      generalize rs[j] = r at *
      have Hsz := Lib.hid (show P.sizeA r.x = r.x.text.length + r.x.draws.length + r.x.cr.keep.length + r.x.cr.spoil.length from rfl)
      have hw1 : ∀ O, Below w.heap.size w (wr.alloc O) := fun O => hw.alloc hw.size _
      by_cases h1 : r.x.text.length ≤ 12000
      case neg =>
        have h1' : 12000 < r.x.text.length := by omega
        go_wp2_with fail
        go_ret
        exact ⟨⟨true, rfl, fun h => by cases h⟩, hw1 _⟩
      by_cases h2 : r.x.draws.length ≤ 12000
      case neg =>
        have h2' : 12000 < r.x.draws.length := by omega
        go_wp2_with fail
        go_ret
        exact ⟨⟨true, rfl, fun h => by cases h⟩, hw1 _⟩
      by_cases h3 : r.x.cr.keep.length ≤ 1000
      case neg =>
        have h3' : 1000 < r.x.cr.keep.length := by omega
        go_wp2_with fail
        go_ret
        exact ⟨⟨true, rfl, fun h => by cases h⟩, hw1 _⟩
      by_cases h4 : r.x.cr.spoil.length ≤ 1000
      case neg =>
        have h4' : 1000 < r.x.cr.spoil.length := by omega
        go_wp2_with fail
        go_ret
        exact ⟨⟨true, rfl, fun h => by cases h⟩, hw1 _⟩
      have hmb : m ≤ 3200000 := by omega
      go_wp2_with fail
      go_roundw
      case rel => exact ⟨j + 1, m + P.sizeA r.x, by omega, by go_num, by rw [Hsz.out]; go_num, by rw [Hsz.out]; omega, Hnx.out.symm, Htn.out h1, hw1 _⟩
      case measure => simp [intOf]; omega
    · obtain rfl : j = n := by omega
      have hall : ∀ r ∈ rs, r.x.text.length ≤ 12000 := by
        have h := Hts.out
        rwa [List.take_of_length_le (by have := Hn.out; omega)] at h
      have hsm : P.sumA (rs.map AcR.x) = m := by
        have h := Hsum.out
        rw [List.take_of_length_le (by rw [List.length_map]; have := Hn.out; omega)] at h
        exact h.symm
      by_cases hbig : 12000 < m
      · have hb2 : decide (12000 < m) = true := decide_eq_true hbig
        go_wp2_with fail
        go_ret
        exact ⟨⟨true, ret_bool (by first | (simp [hbig]; done) | (simp [hbig]; omega)), fun h => by cases h⟩, hw⟩
      · have hb2 : decide (12000 < m) = false := decide_eq_false hbig
        go_wp2_with fail
        go_ret
        exact ⟨⟨false, ret_bool (by first | (simp [hbig]; done) | (simp [hbig]; omega)), fun _ => ⟨by omega, hall, by omega⟩⟩, hw⟩

set_option maxRecDepth 100000 in
set_option maxHeartbeats 8000000 in
theorem law_puts (rs : List AcR) (a : Option Addr) (n c : Nat) (w : World) (hn : n = rs.length) (hl : n ≤ 9223372036854775807) (hat : ActsAt w a rs) :
    Calls Tryd.prog 4 #[.slice a n c] w fun e w' => e = .returned (.bool true) ∧ Below w.heap.size w w' := by
  have Hat := Lib.hid hat
  have Hn := Lib.hid hn
  have HG := Lib.hid (great_any a rs c n w hn hl hat)
  clear hat hn
  go_enter Tryd.func4, Tryd.ntmps4
  go_wp2_with fail
  go_at_call 15
  (with_reducible refine HG.out.mono ?_)
  rintro e w1 ⟨⟨b, rfl, hgr⟩, hb1⟩
  cases b with
  | true =>
    go_wp2_with (go_at_call 14; (with_reducible refine (awake_any _).mono ?_); rintro e w2 ⟨rfl, hb2⟩)
    go_ret
    exact ⟨rfl, Chain.up hb1 hb2⟩
  | false =>
    obtain ⟨hn120, hts, _⟩ := hgr rfl
    have hst : SmallT rs := fun r hr _ => by have := hts r hr; omega
    have He0 := Lib.hid (rfl : P.encS (rs.map AcR.x) = P.encS (rs.map AcR.x))
    go_wp2_with (first
      | (go_at_call 9; (with_reducible refine (encode_any a rs c n w1 ?h1 ?h2 (Hat.out.up hb1) hst).mono ?_); (case h1 => exact Hn.out); (case h2 => omega); rintro e w2 ⟨v2, rfl, hown2, hb2⟩; have hb12 := Chain.up hb1 hb2)
      | (go_at_call 16; (with_reducible refine (refEncode_any a rs c n w2 ?h1 ?h2 (Hat.out.up hb12) hst).mono ?_); (case h1 => exact Hn.out); (case h2 => omega); rintro e w3 ⟨rfl, hb3⟩; have hb13 := Chain.up hb12 hb3; have hown3 := hown2.up hb3))
    generalize P.encS (rs.map AcR.x) = E at *
    obtain ⟨EB, EN⟩ := E
    simp only at hown2 hown3 ⊢
    clear He0 hown2 hb1 hb2 hb12 hb3
    go_loopw [7] (fun i wr => ∃ j : Nat, j ≤ n ∧ i = .int .i64 j ∧ Own wr w1.heap.size v2 EB ∧ Below w.heap.size w wr) (fun i _ => n - (intOf i).toNat)
    case atStart => exact ⟨0, by omega, rfl, hown3, hb13⟩
    case round =>
      clear hown3 hb13
      obtain ⟨j, hj, rfl, hown, hb⟩ := hrel
      by_cases hlt : j < n
      · have hltl : j < rs.length := by have := Hn.out; omega
        have hat3 := Hat.out.up hb
        obtain ⟨bb, o, rfl, hbb, c0, c1, c2, c3, c4, c5, c6⟩ := act_at hat3.rows j hltl
        have hac := hat3.acts _ (List.getElem_mem hltl)
        clear hat3
        generalize rs[j] = r at *
        have hcr := hac.2.2
        have HR := Lib.hid (fun wx (hp : CrAt wx r.a r.b r.x.cr) => right_any r.x r.da r.a r.b r.x.draws.length r.dc r.x.cr.keep.length r.k r.x.cr.spoil.length r.m rfl rfl rfl wx hp)
        have HQ := Lib.hid (fun wx (hp : CrAt wx r.a r.b r.x.cr) => refRight_any r.x r.da r.a r.b r.x.draws.length r.dc r.x.cr.keep.length r.k r.x.cr.spoil.length r.m rfl rfl rfl wx hp)
        generalize P.rightB r.x = rb at *
        go_wp2_with fail
        refine wp_region_held_drew (S := fun wx => Below wr.heap.size wr wx) (by kernel_rfl) (Below.refl _ _).drew (fun hHeld => ?_)
        refine wpAnyH_take (i := 0) (v := ?_) rfl (by kernel_rfl) (by kernel_rfl) (by kernel_rfl) (fun _ _ _ h => h) (Or.inl ⟨by rfl, ?_⟩) hHeld ?_
        rotate_left
        · intro wq hSw; go_simp; (try with_reducible rfl)
        simp only [Act.put, List.getElem_toArray, List.getElem_cons_succ, List.getElem_cons_zero, List.setIfInBounds_toArray, List.set_cons_zero, List.set_cons_succ]
        refine wpAnyH_take (i := 1) (v := ?_) rfl (by kernel_rfl) (by kernel_rfl) (by kernel_rfl) (fun _ _ _ h => h) (Or.inl ⟨by rfl, ?_⟩) hHeld ?_
        rotate_left
        · intro wq hSw; go_simp; (try with_reducible rfl)
        simp only [Act.put, List.getElem_toArray, List.getElem_cons_succ, List.getElem_cons_zero, List.setIfInBounds_toArray, List.set_cons_zero, List.set_cons_succ]
        refine wpAnyH_take (i := 2) (v := ?_) rfl (by kernel_rfl) (by kernel_rfl) (by kernel_rfl) (fun _ _ _ h => h) (Or.inl ⟨by rfl, ?_⟩) hHeld ?_
        rotate_left
        · intro wq hSw; go_simp; (try with_reducible rfl)
        simp only [Act.put, List.getElem_toArray, List.getElem_cons_succ, List.getElem_cons_zero, List.setIfInBounds_toArray, List.set_cons_zero, List.set_cons_succ]
        refine wpAnyH_take (i := 3) (v := ?_) rfl (by kernel_rfl) (by kernel_rfl) (by kernel_rfl) (fun _ _ _ h => h) (Or.inl ⟨by rfl, ?_⟩) hHeld ?_
        rotate_left
        · intro wq hSw; have d0 := cell_up hSw c0; have d1 := cell_up hSw c1; have d2 := cell_up hSw c2; have d3 := cell_up hSw c3; have d4 := cell_up hSw c4; have d5 := cell_up hSw c5; have d6 := cell_up hSw c6; go_simp; (try with_reducible rfl)
        simp only [Act.put, List.getElem_toArray, List.getElem_cons_succ, List.getElem_cons_zero, List.setIfInBounds_toArray, List.set_cons_zero, List.set_cons_succ]
        refine wpAnyH_take (i := 5) (v := ?_) rfl (by kernel_rfl) (by kernel_rfl) (by kernel_rfl) (fun _ _ _ h => h) (Or.inl ⟨by rfl, ?_⟩) hHeld ?_
        rotate_left
        · intro wq hSw; go_simp; (try with_reducible rfl)
        simp only [Act.put, List.getElem_toArray, List.getElem_cons_succ, List.getElem_cons_zero, List.setIfInBounds_toArray, List.set_cons_zero, List.set_cons_succ]
        refine wpAnyH_take (i := 6) (v := ?_) rfl (by kernel_rfl) (by kernel_rfl) (by kernel_rfl) (fun _ _ _ h => h) (Or.inl ⟨by rfl, ?_⟩) hHeld ?_
        rotate_left
        · intro wq hSw; go_simp; (try with_reducible rfl)
        simp only [Act.put, List.getElem_toArray, List.getElem_cons_succ, List.getElem_cons_zero, List.setIfInBounds_toArray, List.set_cons_zero, List.set_cons_succ]
        refine wpAnyH_take (i := 7) (v := ?_) rfl (by kernel_rfl) (by kernel_rfl) (by kernel_rfl) (fun _ _ _ h => h) (Or.inl ⟨by rfl, ?_⟩) hHeld ?_
        rotate_left
        · intro wq hSw; go_simp; (try with_reducible rfl)
        simp only [Act.put, List.getElem_toArray, List.getElem_cons_succ, List.getElem_cons_zero, List.setIfInBounds_toArray, List.set_cons_zero, List.set_cons_succ]
        refine wpAnyH_take (i := 8) (v := ?_) rfl (by kernel_rfl) (by kernel_rfl) (by kernel_rfl) (fun _ _ _ h => h) (Or.inl ⟨by rfl, ?_⟩) hHeld ?_
        rotate_left
        · intro wq hSw; have d0 := cell_up hSw c0; have d1 := cell_up hSw c1; have d2 := cell_up hSw c2; have d3 := cell_up hSw c3; have d4 := cell_up hSw c4; have d5 := cell_up hSw c5; have d6 := cell_up hSw c6; go_simp; (try with_reducible rfl)
        simp only [Act.put, List.getElem_toArray, List.getElem_cons_succ, List.getElem_cons_zero, List.setIfInBounds_toArray, List.set_cons_zero, List.set_cons_succ]
        refine wpAnyH_one (i := 4) (by kernel_rfl) rfl (fun K hK => ?_)
        simp only [List.getElem_toArray, List.getElem_cons_succ, List.getElem_cons_zero]
        go_simp
        (with_reducible refine (HR.out _ (hcr.up hHeld)).mono ?_)
        rintro e w7 ⟨rfl, hb7⟩
        have hH7 := Chain.up hHeld hb7
        refine hK.out _ _ hH7 ?_
        clear hK K
        refine wpAnyH_one (i := 9) (by kernel_rfl) rfl (fun K hK => ?_)
        simp only [List.getElem_toArray, List.getElem_cons_succ, List.getElem_cons_zero]
        go_simp
        (with_reducible refine (HQ.out _ (hcr.up hH7)).mono ?_)
        rintro e w8 ⟨rfl, hb8⟩
        have hH8 := Chain.up hH7 hb8
        refine hK.out _ _ hH8 ?_
        clear hK K
        refine wpAnyH_take (i := 10) (v := ?_) rfl (by kernel_rfl) (by kernel_rfl) (by kernel_rfl) (fun _ _ _ h => h) (Or.inl ⟨by rfl, ?_⟩) hH8 ?_
        rotate_left
        · intro wq hSw; go_simp; (try with_reducible rfl)
        simp only [Act.put, List.getElem_toArray, List.getElem_cons_succ, List.getElem_cons_zero, List.setIfInBounds_toArray, List.set_cons_zero, List.set_cons_succ]
        refine wpAnyH_done (by kernel_rfl) ?_ _
        have hbf := Chain.up hb hH8
        have hownf := hown.up hH8
        go_wp2_with fail
        go_roundw
        case rel => exact ⟨j + 1, by omega, by go_num, hownf, hbf⟩
        case measure => simp [intOf]; omega
      · obtain rfl : j = n := by omega
        go_wp2_with (first
          | (refine wpList_conv_own (by rfl) hown ?_)
          | (go_at_call 14; (with_reducible refine (awake_any _).mono ?_); rintro e w5 ⟨rfl, hb5⟩))
        go_ret
        exact ⟨rfl, Chain.up hb hb5⟩
end Go.Proofs.YtnflbgindcejjaaDoor
