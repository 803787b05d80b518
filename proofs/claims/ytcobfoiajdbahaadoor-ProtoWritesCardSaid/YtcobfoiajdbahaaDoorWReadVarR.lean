/- The walk of the document's ReadVar. -/
import Derived.Test.YtcobfoiajdbahaaDoorWRow
import Derived.Deep.RegionWith
namespace Go.Proofs.YtcobfoiajdbahaaDoor
open Go.RowKit
set_option linter.unusedVariables false

theorem tail_at (s : List UInt8) (j : Nat) (h : j < s.tail.length) : s.tail[j].toNat = P.at_ s (1 + j) := by
  rcases s with _ | ⟨c, s⟩
  · simp at h
  · show s[j].toNat = ((c :: s).getD (1 + j) 0).toNat
    rw [Nat.add_comm 1 j]
    simp at h
    simp [h]

attribute [local go_sem] str_at str_take

set_option maxRecDepth 100000 in
set_option maxHeartbeats 2000000 in
theorem refReadVar_any (s : List UInt8) (w : World) (hs : s.length ≤ 9223372036854775807) :
    Calls Tryd.prog 88 #[S s] w fun e w' => e = .returned (.tuple #[V64 (P.rNum s), .int .i64 (P.rSize s), .bool (P.rOk s)]) ∧ Below w.heap.size w w' := by
  by_cases hz : s.length = 0
  · obtain rfl : s = [] := List.length_eq_zero_iff.1 hz
    go_enter Tryd.func88, Tryd.ntmps88
    go_wp2
    exact bodyPost_ret (v := .tuple #[V64 0, .int .i64 0, .bool false]) (by simp [results, Tryd.results88, go_sem]) rfl ⟨rfl, Below.refl _ _⟩
  · have hne : s ≠ [] := fun e => hz (by rw [e]; rfl)
    have hs0 : 0 < s.length := by omega
    have hie : s.isEmpty = false := by cases s; exact absurd rfl hne; rfl
    have hlt := P.at_lt s 0
    by_cases h8 : P.at_ s 0 < 248
    · have Ho := Lib.hid (show P.rOk s = true by unfold P.rOk; rw [if_neg hz, if_pos h8])
      have Hn := Lib.hid (show P.rNum s = P.at_ s 0 by unfold P.rNum; rw [Ho.out, if_pos rfl, if_pos h8])
      have Hz := Lib.hid (show P.rSize s = 1 by unfold P.rSize; rw [Ho.out, if_pos rfl, if_pos h8])
      go_enter Tryd.func88, Tryd.ntmps88
      go_wp2
      exact bodyPost_ret (v := .tuple #[V64 (P.at_ s 0), .int .i64 1, .bool true]) (by simp [results, Tryd.results88, go_sem]) rfl ⟨by rw [Ho.out, Hn.out, Hz.out]; rfl, Below.refl _ _⟩
    · obtain ⟨m, hm⟩ : ∃ m, P.at_ s 0 = 247 + m := ⟨P.at_ s 0 - 247, by omega⟩
      have hge : 248 ≤ P.at_ s 0 := by omega
      have hm1 : 1 ≤ m := by omega
      have hm8 : m ≤ 8 := by omega
      have hdl : s.tail.length = s.length - 1 := by simp
      have Hm := Lib.hid hm
      have hd1 : s.drop 1 = s.tail := by simp
      have Hr := Lib.hid (show P.rOk s = decide (m ≤ s.length - 1 ∧ P.behind (P.val (s.tail.take m)) = m) by
        unfold P.rOk; rw [if_neg hz, if_neg h8, hm, Nat.add_sub_cancel_left, hd1])
      have Hrn := Lib.hid (show P.rOk s = true → P.rNum s = P.val (s.tail.take m) from fun h => by
        unfold P.rNum; rw [h, if_pos rfl, if_neg h8, hm, Nat.add_sub_cancel_left, hd1])
      have Hrz := Lib.hid (show P.rOk s = true → P.rSize s = 1 + m from fun h => by
        unfold P.rSize; rw [h, if_pos rfl, if_neg h8, hm]; omega)
      have Hno := Lib.hid (show P.rOk s = false → P.rNum s = 0 ∧ P.rSize s = 0 from fun h => by
        unfold P.rNum P.rSize; rw [h]; exact ⟨rfl, rfl⟩)
      have Htest := Lib.hid (show 1 + m ≤ s.length → (P.row (P.val (s.tail.take m)) = s.take (1 + m) ↔ P.behind (P.val (s.tail.take m)) = m) from fun h => by
        have := P.row_test s (by omega) (by omega)
        rw [hm, Nat.add_sub_cancel_left, hd1, show 247 + m - 246 = 1 + m by omega] at this
        exact this)
      by_cases hfit : s.length < 1 + m
      · have Ho := Lib.hid (show P.rOk s = false by rw [Hr.out]; exact decide_eq_false (fun h => by omega))
        have hlen : (s.length : Int) < (P.at_ s 0 : Int) - 246 := by omega
        clear hm hd1 hfit hm1
        go_enter Tryd.func88, Tryd.ntmps88
        go_wp2
        exact bodyPost_ret (v := .tuple #[V64 0, .int .i64 0, .bool false]) (by simp [results, Tryd.results88, go_sem]) rfl ⟨by rw [Ho.out, (Hno.out Ho.out).1, (Hno.out Ho.out).2]; rfl, Below.refl _ _⟩
      · have Hv := Lib.hid (show ∀ (j : Nat) (hj : j < m), 256 * (P.val (s.tail.take j) : Int) + (P.at_ s (1 + j) : Int) = (P.val (s.tail.take (j + 1)) : Int) ∧ P.val (s.tail.take (j + 1)) < 18446744073709551616 from fun j hj => by
          have h1 : j < s.tail.length := by omega
          rw [List.take_succ_eq_append_getElem h1, ← tail_at s j h1]
          exact refBig_next _ _ (by simp; omega))
        have hlen : (P.at_ s 0 : Int) - 246 ≤ (s.length : Int) := by omega
        have hto : (P.at_ s 0 : Int) - 246 = ((1 + m : Nat) : Int) := by omega
        have Hfit := Lib.hid hfit
        have hml : 1 + m ≤ s.length := by omega
        clear hm hd1 hfit
        go_enter Tryd.func88, Tryd.ntmps88
        go_wp2
        go_loop [6, 7] (fun n i => ∃ j : Nat, j ≤ m ∧ i = .int .i64 ((1 + j : Nat) : Int) ∧ n = V64 (P.val (s.tail.take j))) (fun _ i => 1 + m - (intOf i).toNat)
        case atStart => exact ⟨0, by omega, rfl, rfl⟩
        case round =>
          obtain ⟨j, hj, rfl, rfl⟩ := hrel
          by_cases hjt : j < m
          · have Hnx := Lib.hid (Hv.out j hjt)
            have hji : 1 + j < s.length := by omega
            generalize P.val (s.tail.take j) = n0 at *
            go_wp2
            go_round
            case rel => exact ⟨j + 1, by omega, by go_num, congrArg (Value.int .u64) (u64_step n0 (P.at_ s (1 + j)) _ Hnx.out.1 Hnx.out.2)⟩
            case measure => simp [intOf]; omega
          · obtain rfl : j = m := by omega
            have hvl := P.val_lt8 (s.tail.take j) (by simp; omega)
            have Hrow := Lib.hid (fun w => row_any (P.val (s.tail.take j)) hvl w)
            generalize P.val (s.tail.take j) = n0 at *
            by_cases hbe : P.behind n0 = j
            · have Ho := Lib.hid (show P.rOk s = true by rw [Hr.out]; exact decide_eq_true ⟨by omega, hbe⟩)
              have hq : (P.row n0 == s.take (1 + j)) = true := by rw [beq_iff_eq]; exact (Htest.out hml).2 hbe
              clear hbe
              go_wp2
              go_region_with (first | (go_at_call 47; (with_reducible refine (Hrow.out _).mono ?_); rintro e w1 ⟨rfl, hb⟩) | fail)
              all_goals go_wp2
              all_goals exact bodyPost_ret (v := .tuple #[V64 n0, .int .i64 (1 + (j : Int)), .bool true]) (by simp [results, Tryd.results88, go_sem]) rfl ⟨by rw [Ho.out, Hrn.out Ho.out, Hrz.out Ho.out, Int.natCast_add]; rfl, ((Below.refl w.heap.size w).drew).trans hb⟩
            · have Ho := Lib.hid (show P.rOk s = false by rw [Hr.out]; exact decide_eq_false (fun h => hbe h.2))
              have hq : (P.row n0 == s.take (1 + j)) = false := by rw [beq_eq_false_iff_ne]; exact fun h => hbe ((Htest.out hml).1 h)
              clear hbe
              go_wp2
              go_region_with (first | (go_at_call 47; (with_reducible refine (Hrow.out _).mono ?_); rintro e w1 ⟨rfl, hb⟩) | fail)
              all_goals go_wp2
              all_goals exact bodyPost_ret (v := .tuple #[V64 0, .int .i64 0, .bool false]) (by simp [results, Tryd.results88, go_sem]) rfl ⟨by rw [Ho.out, (Hno.out Ho.out).1, (Hno.out Ho.out).2]; rfl, ((Below.refl w.heap.size w).drew).trans hb⟩
end Go.Proofs.YtcobfoiajdbahaaDoor
