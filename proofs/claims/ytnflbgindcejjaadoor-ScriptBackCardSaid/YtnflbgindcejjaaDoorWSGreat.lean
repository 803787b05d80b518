/- The walk of the script's law: Great. -/
import Derived.Test.YtnflbgindcejjaaDoorWSEnc
namespace Go.Proofs.YtnflbgindcejjaaDoor
open Go.RowKit
set_option linter.unusedVariables false
set_option linter.unusedSimpArgs false

/-- How much acts hold. -/
def P.sizeA (a : P.Ac) : Nat := a.text.length + a.draws.length + a.cr.keep.length + a.cr.spoil.length
def P.sumA (l : List P.Ac) : Nat := (l.map P.sizeA).foldr (· + ·) 0
theorem P.sumA_snoc (l : List P.Ac) (a : P.Ac) : P.sumA (l ++ [a]) = P.sumA l + P.sizeA a := by
  induction l with
  | nil => simp [P.sumA]
  | cons b l ih =>
    show P.sizeA b + P.sumA (l ++ [a]) = (P.sizeA b + P.sumA l) + P.sizeA a
    rw [ih]
    omega
/-- What Great gives. -/
def GreatDid (n : Nat) (rs : List AcR) (w : World) (e : Ending) (w' : World) : Prop := (∃ b : Bool, e = .returned (.bool b) ∧ (b = false → n ≤ 120 ∧ (∀ r ∈ rs, r.x.text.length ≤ 12000) ∧ P.sumA (rs.map AcR.x) ≤ 12000)) ∧ Below w.heap.size w w'
set_option maxRecDepth 100000 in
set_option maxHeartbeats 8000000 in
theorem great_any (a : Option Addr) (rs : List AcR) (c n : Nat) (w : World) (hn : n = rs.length) (hl : n ≤ 9223372036854775807) (hat : ActsAt w a rs) :
    Calls Tryd.prog 15 #[.slice a n c] w (GreatDid n rs w) := by
  by_cases hlong : 120 < n
  · have hlong2 : (120 : Int) < (n : Int) := by omega
    clear hat hn
    go_enter Tryd.func15, Tryd.ntmps15
    go_wp2_with fail
    go_ret
    exact ⟨⟨true, rfl, fun h => by cases h⟩, Below.refl _ _⟩
  have hshort : ¬ (120 : Int) < (n : Int) := by omega
  have Hrows := Lib.hid hat.rows
  have Hn := Lib.hid hn
  clear hat hn
  go_enter Tryd.func15, Tryd.ntmps15
  go_wp2_with fail
  go_loopw [4, 3] (fun z y wr => ∃ j m : Nat, j ≤ n ∧ z = .int .i64 j ∧ y = .int .i64 m ∧ m ≤ 26000 * j ∧ m = P.sumA ((rs.map AcR.x).take j) ∧ (∀ r ∈ rs.take j, r.x.text.length ≤ 12000) ∧ Below w.heap.size w wr) (fun z _ _ => n - (intOf z).toNat)
  case atStart => exact ⟨0, 0, by omega, rfl, rfl, by omega, rfl, fun r hr => by simp at hr, Below.refl _ _⟩
  case round =>
    obtain ⟨j, m, hj, rfl, rfl, hm, hsum, hts, hw⟩ := hrel
    have Hsum := Lib.hid hsum
    have Hts := Lib.hid hts
    clear hsum hts
    by_cases hlt : j < n
    · have hltl : j < rs.length := by have := Hn.out; omega
      have hltm : j < (rs.map AcR.x).length := by rw [List.length_map]; exact hltl
      obtain ⟨bb, o, rfl, hbb, c0, c1, c2, c3, c4, c5, c6⟩ := act_at (RowsAt.up Hrows.out hw) j hltl
      have Hnx := Lib.hid (show P.sumA ((rs.map AcR.x).take (j + 1)) = m + P.sizeA rs[j].x by rw [List.take_succ_eq_append_getElem hltm, P.sumA_snoc, List.getElem_map, ← Hsum.out])
      have Htn := Lib.hid (show rs[j].x.text.length ≤ 12000 → ∀ r ∈ rs.take (j + 1), r.x.text.length ≤ 12000 from fun h r hr => by
        rw [List.take_succ_eq_append_getElem hltl] at hr
        rcases List.mem_append.1 hr with hr | hr
        · exact Hts.out r hr
        · rw [List.mem_singleton.1 hr]; exact h)
      generalize rs[j] = r at *
      have Hsz := Lib.hid (show P.sizeA r.x = r.x.text.length + r.x.draws.length + r.x.cr.keep.length + r.x.cr.spoil.length from rfl)
      have hw1 : ∀ O, Below w.heap.size w (wr.alloc O) := fun O => hw.alloc hw.size _
      by_cases h1 : r.x.text.length ≤ 12000
      case neg =>
        have h1' : 12000 < r.x.text.length := by omega
        go_wp2_with fail
        go_ret
        exact ⟨⟨true, rfl, fun h => by cases h⟩, hw1 _⟩
      by_cases h2 : r.x.draws.length ≤ 12000
      case neg =>
        have h2' : 12000 < r.x.draws.length := by omega
        go_wp2_with fail
        go_ret
        exact ⟨⟨true, rfl, fun h => by cases h⟩, hw1 _⟩
      by_cases h3 : r.x.cr.keep.length ≤ 1000
      case neg =>
        have h3' : 1000 < r.x.cr.keep.length := by omega
        go_wp2_with fail
        go_ret
        exact ⟨⟨true, rfl, fun h => by cases h⟩, hw1 _⟩
      by_cases h4 : r.x.cr.spoil.length ≤ 1000
      case neg =>
        have h4' : 1000 < r.x.cr.spoil.length := by omega
        go_wp2_with fail
        go_ret
        exact ⟨⟨true, rfl, fun h => by cases h⟩, hw1 _⟩
      have hmb : m ≤ 3200000 := by omega
      go_wp2_with fail
      go_roundw
      case rel => exact ⟨j + 1, m + P.sizeA r.x, by omega, by go_num, by rw [Hsz.out]; go_num, by rw [Hsz.out]; omega, Hnx.out.symm, Htn.out h1, hw1 _⟩
      case measure => simp [intOf]; omega
    · obtain rfl : j = n := by omega
      have hall : ∀ r ∈ rs, r.x.text.length ≤ 12000 := by
        have h := Hts.out
        rwa [List.take_of_length_le (by have := Hn.out; omega)] at h
      have hsm : P.sumA (rs.map AcR.x) = m := by
        have h := Hsum.out
        rw [List.take_of_length_le (by rw [List.length_map]; have := Hn.out; omega)] at h
        exact h.symm
      by_cases hbig : 12000 < m
      · have hb2 : decide (12000 < m) = true := decide_eq_true hbig
        go_wp2_with fail
        go_ret
        exact ⟨⟨true, ret_bool (by first | (simp [hbig]; done) | (simp [hbig]; omega)), fun h => by cases h⟩, hw⟩
      · have hb2 : decide (12000 < m) = false := decide_eq_false hbig
        go_wp2_with fail
        go_ret
        exact ⟨⟨false, ret_bool (by first | (simp [hbig]; done) | (simp [hbig]; omega)), fun _ => ⟨by omega, hall, by omega⟩⟩, hw⟩
end Go.Proofs.YtnflbgindcejjaaDoor
