/- The walks of num.ReadVar and the document's ReadVar. -/
import Derived.Test.YtcobfoiajdbahaaDoorWBig
namespace Go.Proofs.YtcobfoiajdbahaaDoor
open Go.RowKit
set_option linter.unusedVariables false

theorem str_drop1 (s : List UInt8) (n : Nat) (h : n = s.length) : (ByteArray.mk s.toArray).extract 1 n = ⟨s.tail.toArray⟩ := by
  rw [ByteArray.extract_mk]
  subst h
  simp
  exact List.take_of_length_le (by simp)
theorem str_at (s : List UInt8) (i : Nat) (h : i < (ByteArray.mk s.toArray).size) : ((ByteArray.mk s.toArray)[i]'h).toNat = P.at_ s i :=
  P.at_get s i h

attribute [local go_sem] str_at str_drop1

set_option maxRecDepth 100000 in
set_option maxHeartbeats 1000000 in
theorem readVar_any (s : List UInt8) (w : World) (hs : s.length ≤ 9223372036854775807) :
    Calls Tryd.prog 85 #[S s] w fun e w' => e = .returned (.tuple #[V64 (P.rNum s), .int .i64 (P.rSize s), .bool (P.rOk s)]) ∧ Below w.heap.size w w' := by
  by_cases hz : s.length = 0
  · obtain rfl : s = [] := List.length_eq_zero_iff.1 hz
    go_enter Tryd.func85, Tryd.ntmps85
    go_wp2
    exact bodyPost_ret (v := .tuple #[V64 0, .int .i64 0, .bool false]) (by simp [results, Tryd.results85, go_sem]) rfl ⟨rfl, Below.refl _ _⟩
  · have hne : s ≠ [] := fun e => hz (by rw [e]; rfl)
    have hs0 : 0 < s.length := by omega
    have hie : s.isEmpty = false := by cases s; exact absurd rfl hne; rfl
    have hlt := P.at_lt s 0
    by_cases h8 : P.at_ s 0 < 248
    · have Ho := Lib.hid (show P.rOk s = true by unfold P.rOk; rw [if_neg hz, if_pos h8])
      have Hn := Lib.hid (show P.rNum s = P.at_ s 0 by unfold P.rNum; rw [Ho.out, if_pos rfl, if_pos h8])
      have Hz := Lib.hid (show P.rSize s = 1 by unfold P.rSize; rw [Ho.out, if_pos rfl, if_pos h8])
      go_enter Tryd.func85, Tryd.ntmps85
      go_wp2
      exact bodyPost_ret (v := .tuple #[V64 (P.at_ s 0), .int .i64 1, .bool true]) (by simp [results, Tryd.results85, go_sem]) rfl ⟨by rw [Ho.out, Hn.out, Hz.out]; rfl, Below.refl _ _⟩
    · obtain ⟨m, hm⟩ : ∃ m, P.at_ s 0 = 247 + m := ⟨P.at_ s 0 - 247, by omega⟩
      have hge : 248 ≤ P.at_ s 0 := by omega
      have hm1 : 1 ≤ m := by omega
      have hm8 : m ≤ 8 := by omega
      have hdl : s.tail.length = s.length - 1 := by simp
      have hm' : m = P.at_ s 0 - 247 := by omega
      have Hm := Lib.hid hm
      have hd1 : s.drop 1 = s.tail := by simp
      have Hbo := Lib.hid (show P.bigOk s.tail ((P.at_ s 0 : Int) - 248 + 1) = decide (m ≤ s.length - 1) by
        unfold P.bigOk; rw [decide_eq_decide, hdl]; omega)
      have Hbn := Lib.hid (show m ≤ s.length - 1 → P.bigNum s.tail ((P.at_ s 0 : Int) - 248 + 1) = P.val (s.tail.take m) from fun h => by
        unfold P.bigNum
        rw [Hbo.out, decide_eq_true h, if_pos rfl, show ((P.at_ s 0 : Int) - 248 + 1).toNat = m by omega])
      have Hbig := Lib.hid (fun w => big_any s.tail ((P.at_ s 0 : Int) - 248 + 1) w (by omega) (by omega) (by omega))
      have Hr := Lib.hid (show P.rOk s = decide (m ≤ s.length - 1 ∧ P.behind (P.val (s.tail.take m)) = m) by
        unfold P.rOk; rw [if_neg hz, if_neg h8, hm, Nat.add_sub_cancel_left, hd1])
      have Hrn := Lib.hid (show P.rOk s = true → P.rNum s = P.val (s.tail.take m) from fun h => by
        unfold P.rNum; rw [h, if_pos rfl, if_neg h8, hm, Nat.add_sub_cancel_left, hd1])
      have Hrz := Lib.hid (show P.rOk s = true → P.rSize s = 1 + m from fun h => by
        unfold P.rSize; rw [h, if_pos rfl, if_neg h8, hm]; omega)
      have Hno := Lib.hid (show P.rOk s = false → P.rNum s = 0 ∧ P.rSize s = 0 from fun h => by
        unfold P.rNum P.rSize; rw [h]; exact ⟨rfl, rfl⟩)
      clear hm hm' hd1 hdl
      by_cases hfit : m ≤ s.length - 1
      · have hb1 : P.bigOk s.tail ((P.at_ s 0 : Int) - 248 + 1) = true := by rw [Hbo.out]; exact decide_eq_true hfit
        have hb2 := Hbn.out hfit
        have Hbh := Lib.hid (fun w => behind_any (P.val (s.tail.take m)) (P.val_lt8 _ (by simp; omega)) w)
        have Hbl := Lib.hid (P.behind_le (P.val (s.tail.take m)))
        generalize P.val (s.tail.take m) = n0 at *

        by_cases hbe : P.behind n0 = m
        · have Ho := Lib.hid (show P.rOk s = true by rw [Hr.out]; exact decide_eq_true ⟨hfit, hbe⟩)
          have hbi : (P.behind n0 : Int) = (P.at_ s 0 : Int) - 248 + 1 := by have := Hm.out; omega
          have Hzz := Lib.hid (show 1 + ((P.at_ s 0 : Int) - 248 + 1) = ((1 + m : Nat) : Int) by have := Hm.out; omega)
          clear hbe
          go_enter Tryd.func85, Tryd.ntmps85
          go_wp2_with (first
            | (go_at_call 81; (with_reducible refine (Hbig.out _).mono ?_); rintro e w1 ⟨rfl, hb⟩; rw [hb1, hb2])
            | (go_at_call 95; (with_reducible refine (Hbh.out _).mono ?_); rintro e w2 ⟨rfl, hbb⟩))
          exact bodyPost_ret (v := .tuple #[V64 n0, .int .i64 (1 + ((P.at_ s 0 : Int) - 248 + 1)), .bool true]) (by simp [results, Tryd.results85, go_sem]) rfl ⟨by rw [Ho.out, Hrn.out Ho.out, Hrz.out Ho.out, Hzz.out], hb.trans (hbb.mono hb.size)⟩
        · have Ho := Lib.hid (show P.rOk s = false by rw [Hr.out]; exact decide_eq_false (fun h => hbe h.2))
          have hbi : ((P.behind n0 : Int) == (P.at_ s 0 : Int) - 248 + 1) = false := by
            rw [beq_eq_false_iff_ne]; intro h; have := Hm.out; omega
          have hbi2 : ¬ ((P.behind n0 : Int) = (P.at_ s 0 : Int) - 248 + 1) := by
            intro h; have := Hm.out; omega
          clear hbe
          go_enter Tryd.func85, Tryd.ntmps85
          go_wp2_with (first
            | (go_at_call 81; (with_reducible refine (Hbig.out _).mono ?_); rintro e w1 ⟨rfl, hb⟩; rw [hb1, hb2])
            | (go_at_call 95; (with_reducible refine (Hbh.out _).mono ?_); rintro e w2 ⟨rfl, hbb⟩))
          exact bodyPost_ret (v := .tuple #[V64 0, .int .i64 0, .bool false]) (by simp [results, Tryd.results85, go_sem]) rfl ⟨by rw [Ho.out, (Hno.out Ho.out).1, (Hno.out Ho.out).2]; rfl, hb.trans (hbb.mono hb.size)⟩
      · have hb1 : P.bigOk s.tail ((P.at_ s 0 : Int) - 248 + 1) = false := by rw [Hbo.out]; exact decide_eq_false hfit
        have hb2 : P.bigNum s.tail ((P.at_ s 0 : Int) - 248 + 1) = 0 := by unfold P.bigNum; rw [hb1]; rfl
        have Ho := Lib.hid (show P.rOk s = false by rw [Hr.out]; exact decide_eq_false (fun h => hfit h.1))
        go_enter Tryd.func85, Tryd.ntmps85
        go_wp2_with (go_at_call 81; (with_reducible refine (Hbig.out _).mono ?_); rintro e w1 ⟨rfl, hb⟩; rw [hb1, hb2])
        exact bodyPost_ret (v := .tuple #[V64 0, .int .i64 0, .bool false]) (by simp [results, Tryd.results85, go_sem]) rfl ⟨by rw [Ho.out, (Hno.out Ho.out).1, (Hno.out Ho.out).2]; rfl, hb⟩
end Go.Proofs.YtcobfoiajdbahaaDoor
