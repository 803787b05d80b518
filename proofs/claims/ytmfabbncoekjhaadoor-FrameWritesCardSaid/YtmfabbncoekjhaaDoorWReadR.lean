/- The walk of the reference's Read. -/
import Derived.Test.YtmfabbncoekjhaaDoorWMakeR
import Derived.Test.YtmfabbncoekjhaaDoorWReadL
namespace Go.Proofs.YtmfabbncoekjhaaDoor
open Go.RowKit

attribute [local go_sem] at_wrap at_wrap4 at_mul256 at_rem2 at_trem2 at_num num2_wrap at_cut cell_set_same

set_option maxHeartbeats 1000000 in
theorem refRead_mid (s : List UInt8) (w : World) (hl : s.length = 32) (h0 : 64 ≤ P.at_ s 0 ∧ P.at_ s 0 ≤ 67) (h1 : P.at_ s 1 ≤ 24) :
    Calls Tryd.prog 28 #[S s] w fun e w' => e = .returned (.tuple #[cellV (P.read s), .bool (P.reads s)]) ∧ Below w.heap.size w w' := by
  have Hl := Lib.hid hl
  have hat := str_at s
  have b0 : (0 : Int) < (s.length : Int) := by omega
  have b1 : (1 : Int) < (s.length : Int) := by omega
  have b2 : (2 : Int) < (s.length : Int) := by omega
  have b3 : (3 : Int) < (s.length : Int) := by omega
  have bn : ((s.length : Int) != 32) = false := by rw [bne_eq_false_iff_eq]; omega
  have hgt : ¬ (24 : Int) < (P.at_ s 1 : Int) := by omega
  have hm0 : ¬ (P.at_ s 0 : Int) < 64 := by omega
  have hm1 : ¬ (67 : Int) < (P.at_ s 0 : Int) := by omega
  have hla : decide ((66 : Int) ≤ (P.at_ s 0 : Int)) = P.candLast s := by
    rw [Bool.eq_iff_iff]
    simp [P.candLast]
    omega
  clear hl
  go_enter Tryd.func28, Tryd.ntmps28
  go_wp2_with fail
  have e2 : (0 : Int) ≤ 4 + (P.at_ s 1 : Int) := by omega
  have e3 : (4 : Int) ≤ 4 + (P.at_ s 1 : Int) := by omega
  have e4 : 4 + (P.at_ s 1 : Int) ≤ (s.length : Int) := by have := Hl.out; omega
  go_region
  clear e2 e3 e4
  have hcl : (P.candData s).length ≤ 9223372036854775807 := by rw [P.candData_length s Hl.out h1]; omega
  by_cases hm : P.may (P.cand s) = true
  · by_cases he : P.bytesOf (P.cand s) = s
    · have Hr := Lib.hid (read_eq s Hl.out h1 hm he)
      have heq : (P.bytesOf ⟨P.candFirst s, P.candLast s, (P.num2 s 2 3 : Int), P.candData s⟩ == s) = true := beq_iff_eq.2 he
      clear he
      go_wp2_with (go_at_call 27; refine (refMake_yes (P.candFirst s) (P.candLast s) _ (P.candData s) _ hm).mono ?_; rintro e w1 ⟨rfl, hb1⟩; obtain ⟨x0, x1, x2, hs1, hbw⟩ := two_box hb1; clear hb1)
      refine bodyPost_ret (v := .tuple #[cellV (P.cand s), .bool true]) (by simp [results, Tryd.results28, go_sem, x0]; exact ⟨rfl, rfl, rfl, rfl⟩) rfl ⟨by rw [Hr.out.1, Hr.out.2], by go_grown⟩
    · have Hr := Lib.hid (show P.reads s = false by unfold P.reads; rw [beq_eq_false_iff_ne.2 he]; simp)
      have heq : (P.bytesOf ⟨P.candFirst s, P.candLast s, (P.num2 s 2 3 : Int), P.candData s⟩ == s) = false := beq_eq_false_iff_ne.2 he
      clear he
      go_wp2_with (go_at_call 27; refine (refMake_yes (P.candFirst s) (P.candLast s) _ (P.candData s) _ hm).mono ?_; rintro e w1 ⟨rfl, hb1⟩; obtain ⟨x0, x1, x2, hs1, hbw⟩ := two_box hb1; clear hb1)
      refine bodyPost_ret (v := .tuple #[cellV P.zeroCell, .bool false]) (by simp [results, Tryd.results28, go_sem, x0]; exact ⟨rfl, rfl, rfl, rfl⟩) rfl ⟨by rw [read_ne s Hr.out, Hr.out], by go_grown⟩
  · have Hr := Lib.hid (show P.reads s = false by unfold P.reads; simp [hm])
    have hm' : P.may (P.cand s) = false := by simpa using hm
    go_wp2_with (go_at_call 27; refine (refMake_no (P.candFirst s) (P.candLast s) _ (P.candData s) _ hcl hm').mono ?_; rintro e w1 ⟨rfl, hb1⟩; obtain ⟨x0, x1, x2, hs1, hbw⟩ := two_box hb1; clear hb1)
    refine bodyPost_ret (v := .tuple #[cellV P.zeroCell, .bool false]) (by simp [results, Tryd.results28, go_sem, x0]; exact ⟨rfl, rfl, rfl, rfl⟩) rfl ⟨by rw [read_ne s Hr.out, Hr.out], by go_grown⟩

set_option maxHeartbeats 400000 in
theorem refRead_len (s : List UInt8) (w : World) (hl : s.length ≠ 32) (_hn : s.length ≤ 9223372036854775807) :
    Calls Tryd.prog 28 #[S s] w fun e w' => e = .returned (.tuple #[cellV P.zeroCell, .bool false]) ∧ Below w.heap.size w w' := by
  have bn : ((s.length : Int) != 32) = true := by rw [bne_iff_ne]; omega
  clear hl
  go_enter Tryd.func28, Tryd.ntmps28
  go_wp2_with fail
  refine bodyPost_ret (v := .tuple #[cellV P.zeroCell, .bool false]) (by simp [results, Tryd.results28, go_sem]; exact ⟨rfl, rfl, rfl, rfl⟩) rfl ⟨rfl, by go_grown⟩

set_option maxHeartbeats 400000 in
theorem refRead_out (s : List UInt8) (w : World) (hl : s.length = 32) (h1 : ¬ (64 ≤ P.at_ s 0 ∧ P.at_ s 0 ≤ 67 ∧ P.at_ s 1 ≤ 24)) :
    Calls Tryd.prog 28 #[S s] w fun e w' => e = .returned (.tuple #[cellV P.zeroCell, .bool false]) ∧ Below w.heap.size w w' := by
  have hat := str_at s
  have b0 : (0 : Int) < (s.length : Int) := by omega
  have b1 : (1 : Int) < (s.length : Int) := by omega
  have bn : ((s.length : Int) != 32) = false := by rw [bne_eq_false_iff_eq]; omega
  clear hl
  by_cases ha : (P.at_ s 0 : Int) < 64
  · go_enter Tryd.func28, Tryd.ntmps28
    go_wp2_with fail
    refine bodyPost_ret (v := .tuple #[cellV P.zeroCell, .bool false]) (by simp [results, Tryd.results28, go_sem]; exact ⟨rfl, rfl, rfl, rfl⟩) rfl ⟨rfl, by go_grown⟩
  · by_cases hb : (67 : Int) < (P.at_ s 0 : Int)
    · go_enter Tryd.func28, Tryd.ntmps28
      go_wp2_with fail
      refine bodyPost_ret (v := .tuple #[cellV P.zeroCell, .bool false]) (by simp [results, Tryd.results28, go_sem]; exact ⟨rfl, rfl, rfl, rfl⟩) rfl ⟨rfl, by go_grown⟩
    · have hgt : (24 : Int) < (P.at_ s 1 : Int) := by omega
      go_enter Tryd.func28, Tryd.ntmps28
      go_wp2_with fail
      refine bodyPost_ret (v := .tuple #[cellV P.zeroCell, .bool false]) (by simp [results, Tryd.results28, go_sem]; exact ⟨rfl, rfl, rfl, rfl⟩) rfl ⟨rfl, by go_grown⟩

/-- The reference's Read of any text. -/
theorem refRead_any (s : List UInt8) (w : World) (hn : s.length ≤ 9223372036854775807) :
    Calls Tryd.prog 28 #[S s] w fun e w' => e = .returned (.tuple #[cellV (P.read s), .bool (P.reads s)]) ∧ Below w.heap.size w w' := by
  by_cases hl : s.length = 32
  · by_cases h1 : 64 ≤ P.at_ s 0 ∧ P.at_ s 0 ≤ 67 ∧ P.at_ s 1 ≤ 24
    · exact refRead_mid s w hl ⟨h1.1, h1.2.1⟩ h1.2.2
    · have hr : P.reads s = false := by
        cases h : P.reads s with
        | false => rfl
        | true =>
          have hk := reads_mark s h
          have h24 : P.at_ s 1 ≤ 24 := by unfold P.reads at h; simp at h; omega
          exact absurd ⟨hk.1, hk.2, h24⟩ h1
      rw [read_ne s hr, hr]
      exact refRead_out s w hl h1
  · have hr : P.reads s = false := by unfold P.reads; simp [hl]
    rw [read_ne s hr, hr]
    exact refRead_len s w hl hn
end Go.Proofs.YtmfabbncoekjhaaDoor
