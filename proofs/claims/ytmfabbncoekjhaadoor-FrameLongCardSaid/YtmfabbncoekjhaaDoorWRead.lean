/- The walk of cell.Read. -/
import Derived.Test.YtmfabbncoekjhaaDoorWMake
import Derived.Test.YtmfabbncoekjhaaDoorWReadL
namespace Go.Proofs.YtmfabbncoekjhaaDoor
open Go.RowKit

attribute [local go_sem] at_wrap at_wrap4 at_wrap256 at_and1 at_and2 at_or at_cut cell_set_same

set_option maxHeartbeats 400000 in
theorem read_mid (s : List UInt8) (w : World) (hl : s.length = 32) (h1 : P.at_ s 1 ≤ 24) (ht : TabOk w) :
    Calls Tryd.prog 26 #[S s] w fun e w' => e = .returned (.tuple #[cellV (P.read s), .bool (P.reads s)]) ∧ Below w.heap.size w w' := by
  have Hl := Lib.hid hl
  have hat := str_at s
  have b0 : (0 : Int) < (s.length : Int) := by omega
  have b1 : (1 : Int) < (s.length : Int) := by omega
  have b2 : (2 : Int) < (s.length : Int) := by omega
  have b3 : (3 : Int) < (s.length : Int) := by omega
  have bn : ((s.length : Int) != 32) = false := by simp; omega
  have hgt : ¬ (24 : Int) < (P.at_ s 1 : Int) := by omega
  clear hl
  go_enter Tryd.func26, Tryd.ntmps26
  go_wp2_with fail
  have e2 : (0 : Int) ≤ 4 + (P.at_ s 1 : Int) := by omega
  have e3 : (4 : Int) ≤ 4 + (P.at_ s 1 : Int) := by omega
  have e4 : 4 + (P.at_ s 1 : Int) ≤ (s.length : Int) := by have := Hl.out; omega
  go_region
  clear e2 e3 e4
  have hcl : (P.candData s).length ≤ 9223372036854775807 := by rw [P.candData_length s Hl.out h1]; omega
  have ht' := (ht.alloc (.cells #[.bool false, .bool false, .int .i64 0, .string ⟨#[]⟩] 51)).alloc (.cells #[.bool (P.candFirst s), .bool (P.candLast s), .int .i64 (P.num2 s 2 3 : Int), S (P.candData s)] 51)
  by_cases hm : P.may (P.cand s) = true
  · by_cases he : P.bytesOf (P.cand s) = s
    · have Hr := Lib.hid (read_eq s Hl.out h1 hm he)
      have heq : (P.bytesOf ⟨P.candFirst s, P.candLast s, (P.num2 s 2 3 : Int), P.candData s⟩ == s) = true := beq_iff_eq.2 he
      clear he
      go_wp2_with (go_at_call 23; refine (make_yes (P.candFirst s) (P.candLast s) _ (P.candData s) _ hm ht'.drew).mono ?_; rintro e w1 ⟨rfl, hb1⟩; obtain ⟨x0, x1, x2, hs1, hbw⟩ := two_box hb1; clear hb1)
      refine bodyPost_ret (v := .tuple #[cellV (P.cand s), .bool true]) (by simp [results, Tryd.results26, go_sem, x0]; exact ⟨rfl, rfl, rfl, rfl⟩) rfl ⟨by rw [Hr.out.1, Hr.out.2], by go_grown⟩
    · have Hr := Lib.hid (show P.reads s = false by unfold P.reads; rw [beq_eq_false_iff_ne.2 he]; simp)
      have heq : (P.bytesOf ⟨P.candFirst s, P.candLast s, (P.num2 s 2 3 : Int), P.candData s⟩ == s) = false := beq_eq_false_iff_ne.2 he
      clear he
      go_wp2_with (go_at_call 23; refine (make_yes (P.candFirst s) (P.candLast s) _ (P.candData s) _ hm ht'.drew).mono ?_; rintro e w1 ⟨rfl, hb1⟩; obtain ⟨x0, x1, x2, hs1, hbw⟩ := two_box hb1; clear hb1)
      refine bodyPost_ret (v := .tuple #[cellV P.zeroCell, .bool false]) (by simp [results, Tryd.results26, go_sem, x0]; exact ⟨rfl, rfl, rfl, rfl⟩) rfl ⟨by rw [read_ne s Hr.out, Hr.out], by go_grown⟩
  · have Hr := Lib.hid (show P.reads s = false by unfold P.reads; simp [hm])
    have hm' : P.may (P.cand s) = false := by simpa using hm
    go_wp2_with (go_at_call 23; refine (make_no (P.candFirst s) (P.candLast s) _ (P.candData s) _ hcl hm').mono ?_; rintro e w1 ⟨rfl, hb1⟩; obtain ⟨x0, x1, x2, hs1, hbw⟩ := two_box hb1; clear hb1)
    refine bodyPost_ret (v := .tuple #[cellV P.zeroCell, .bool false]) (by simp [results, Tryd.results26, go_sem, x0]; exact ⟨rfl, rfl, rfl, rfl⟩) rfl ⟨by rw [read_ne s Hr.out, Hr.out], by go_grown⟩
set_option maxHeartbeats 400000 in
theorem read_len (s : List UInt8) (w : World) (hl : s.length ≠ 32) (_hn : s.length ≤ 9223372036854775807) :
    Calls Tryd.prog 26 #[S s] w fun e w' => e = .returned (.tuple #[cellV P.zeroCell, .bool false]) ∧ Below w.heap.size w w' := by
  have bn : ((s.length : Int) != 32) = true := by rw [bne_iff_ne]; omega
  clear hl
  go_enter Tryd.func26, Tryd.ntmps26
  go_wp2_with fail
  refine bodyPost_ret (v := .tuple #[cellV P.zeroCell, .bool false]) (by simp [results, Tryd.results26, go_sem]; exact ⟨rfl, rfl, rfl, rfl⟩) rfl ⟨rfl, by go_grown⟩

set_option maxHeartbeats 400000 in
theorem read_big (s : List UInt8) (w : World) (hl : s.length = 32) (h1 : 24 < P.at_ s 1) :
    Calls Tryd.prog 26 #[S s] w fun e w' => e = .returned (.tuple #[cellV P.zeroCell, .bool false]) ∧ Below w.heap.size w w' := by
  have hat := str_at s
  have b1 : (1 : Int) < (s.length : Int) := by omega
  have bn : ((s.length : Int) != 32) = false := by rw [bne_eq_false_iff_eq]; omega
  have hgt : (24 : Int) < (P.at_ s 1 : Int) := by omega
  clear hl
  go_enter Tryd.func26, Tryd.ntmps26
  go_wp2_with fail
  refine bodyPost_ret (v := .tuple #[cellV P.zeroCell, .bool false]) (by simp [results, Tryd.results26, go_sem]; exact ⟨rfl, rfl, rfl, rfl⟩) rfl ⟨rfl, by go_grown⟩

/-- cell.Read of any text. -/
theorem read_any (s : List UInt8) (w : World) (hn : s.length ≤ 9223372036854775807) (ht : TabOk w) :
    Calls Tryd.prog 26 #[S s] w fun e w' => e = .returned (.tuple #[cellV (P.read s), .bool (P.reads s)]) ∧ Below w.heap.size w w' := by
  by_cases hl : s.length = 32
  · by_cases h1 : P.at_ s 1 ≤ 24
    · exact read_mid s w hl h1 ht
    · have hr : P.reads s = false := by unfold P.reads; simp [h1]
      rw [read_ne s hr, hr]
      exact read_big s w hl (by omega)
  · have hr : P.reads s = false := by unfold P.reads; simp [hl]
    rw [read_ne s hr, hr]
    exact read_len s w hl hn
end Go.Proofs.YtmfabbncoekjhaaDoor
