/- The walks of num.ReadText and the document's ReadText. -/
import Derived.Test.YtcobfoiajdbahaaDoorWReadVarR
import Derived.Test.YtcobfoiajdbahaaDoorPText
namespace Go.Proofs.YtcobfoiajdbahaaDoor
open Go.RowKit
set_option linter.unusedVariables false

theorem str_cut (s : List UInt8) (a b : Nat) : (ByteArray.mk s.toArray).extract a b = ⟨((s.drop a).take (b - a)).toArray⟩ := by
  rw [ByteArray.extract_mk]

set_option maxRecDepth 100000 in
set_option maxHeartbeats 2000000 in
theorem readText_any (s : List UInt8) (k : Int) (w : World) (hs : s.length ≤ 4611686018427387903) (hk0 : -9223372036854775808 ≤ k) (hk1 : k ≤ 9223372036854775807) :
    Calls Tryd.prog 84 #[S s, .int .i64 k] w fun e w' => e = .returned (.tuple #[S (P.tText s k), .int .i64 (P.tSize s k), .bool (P.tOk s k)]) ∧ Below w.heap.size w w' := by
  have Hrv := Lib.hid (fun w => readVar_any s w (by omega))
  have Hno := Lib.hid (show P.tOk s k = false → P.tText s k = [] ∧ P.tSize s k = 0 from fun h => by unfold P.tText P.tSize; rw [h]; exact ⟨rfl, rfl⟩)
  have Hyes := Lib.hid (show P.tOk s k = true → P.tText s k = (s.drop (P.rSize s)).take (P.rNum s) ∧ P.tSize s k = P.rSize s + P.rNum s from fun h => by unfold P.tText P.tSize; rw [h]; exact ⟨rfl, rfl⟩)
  by_cases hok : P.rOk s = true
  · have Hr := Lib.hid (P.row_read s hok)
    have hz1 := Hr.out.1
    have hz2 := Hr.out.2.1
    have hn := Hr.out.2.2.2
    have Ht := Lib.hid (show P.tOk s k = decide (0 ≤ k ∧ (P.rNum s : Int) ≤ k ∧ P.rSize s + P.rNum s ≤ s.length) by unfold P.tOk; rw [hok]; simp)
    generalize P.rNum s = n at *
    generalize P.rSize s = z at *
    by_cases hn1 : n ≤ s.length
    · by_cases hall : 0 ≤ k ∧ (n : Int) ≤ k ∧ z + n ≤ s.length
      · have Ho := Lib.hid (show P.tOk s k = true by rw [Ht.out]; exact decide_eq_true hall)
        obtain ⟨h1, h2, h3⟩ := hall
        have h4 : ((z : Int) + (n : Int)) ≤ (s.length : Int) := by omega
        have h5 : (n : Int) ≤ (s.length : Int) - (z : Int) := by omega
        have Hcut := Lib.hid (show (ByteArray.mk s.toArray).extract z (z + n) = ⟨((s.drop z).take n).toArray⟩ by rw [str_cut, Nat.add_sub_cancel_left])
        go_enter Tryd.func84, Tryd.ntmps84
        go_wp2_with (go_at_call 85; (with_reducible refine (Hrv.out _).mono ?_); rintro e w1 ⟨rfl, hb⟩)
        exact bodyPost_ret (v := .tuple #[.string ((ByteArray.mk s.toArray).extract z (z + n)), .int .i64 ((z : Int) + (n : Int)), .bool true]) (by simp [results, Tryd.results84, go_sem]) rfl ⟨by rw [Ho.out, (Hyes.out Ho.out).1, (Hyes.out Ho.out).2, Hcut.out]; rfl, hb⟩
      · have Ho := Lib.hid (show P.tOk s k = false by rw [Ht.out]; exact decide_eq_false hall)
        by_cases hk : k < 0
        · clear hall
          go_enter Tryd.func84, Tryd.ntmps84
          go_wp2_with (go_at_call 85; (with_reducible refine (Hrv.out _).mono ?_); rintro e w1 ⟨rfl, hb⟩)
          all_goals exact bodyPost_ret (v := .tuple #[S [], .int .i64 0, .bool false]) (by simp [results, Tryd.results84, go_sem]) rfl ⟨by rw [Ho.out, (Hno.out Ho.out).1, (Hno.out Ho.out).2]; rfl, hb⟩
        · by_cases hnk : k < (n : Int)
          · clear hall
            go_enter Tryd.func84, Tryd.ntmps84
            go_wp2_with (go_at_call 85; (with_reducible refine (Hrv.out _).mono ?_); rintro e w1 ⟨rfl, hb⟩)
            all_goals exact bodyPost_ret (v := .tuple #[S [], .int .i64 0, .bool false]) (by simp [results, Tryd.results84, go_sem]) rfl ⟨by rw [Ho.out, (Hno.out Ho.out).1, (Hno.out Ho.out).2]; rfl, hb⟩
          · have h5 : (s.length : Int) < (z : Int) + (n : Int) := by omega
            have h6 : (s.length : Int) - (z : Int) < (n : Int) := by omega
            clear hall
            go_enter Tryd.func84, Tryd.ntmps84
            go_wp2_with (go_at_call 85; (with_reducible refine (Hrv.out _).mono ?_); rintro e w1 ⟨rfl, hb⟩)
            all_goals exact bodyPost_ret (v := .tuple #[S [], .int .i64 0, .bool false]) (by simp [results, Tryd.results84, go_sem]) rfl ⟨by rw [Ho.out, (Hno.out Ho.out).1, (Hno.out Ho.out).2]; rfl, hb⟩
    · have Ho := Lib.hid (show P.tOk s k = false by rw [Ht.out]; exact decide_eq_false (fun h => hn1 (by omega)))
      have h6 : (s.length : Int) - (z : Int) < (n : Int) := by omega
      have h7 : (s.length : Int) < (n : Int) := by omega
      by_cases hk : k < 0
      · go_enter Tryd.func84, Tryd.ntmps84
        go_wp2_with (go_at_call 85; (with_reducible refine (Hrv.out _).mono ?_); rintro e w1 ⟨rfl, hb⟩)
        all_goals exact bodyPost_ret (v := .tuple #[S [], .int .i64 0, .bool false]) (by simp [results, Tryd.results84, go_sem]) rfl ⟨by rw [Ho.out, (Hno.out Ho.out).1, (Hno.out Ho.out).2]; rfl, hb⟩
      · by_cases hnk : k < (n : Int)
        · go_enter Tryd.func84, Tryd.ntmps84
          go_wp2_with (go_at_call 85; (with_reducible refine (Hrv.out _).mono ?_); rintro e w1 ⟨rfl, hb⟩)
          all_goals exact bodyPost_ret (v := .tuple #[S [], .int .i64 0, .bool false]) (by simp [results, Tryd.results84, go_sem]) rfl ⟨by rw [Ho.out, (Hno.out Ho.out).1, (Hno.out Ho.out).2]; rfl, hb⟩
        · go_enter Tryd.func84, Tryd.ntmps84
          go_wp2_with (go_at_call 85; (with_reducible refine (Hrv.out _).mono ?_); rintro e w1 ⟨rfl, hb⟩)
          all_goals exact bodyPost_ret (v := .tuple #[S [], .int .i64 0, .bool false]) (by simp [results, Tryd.results84, go_sem]) rfl ⟨by rw [Ho.out, (Hno.out Ho.out).1, (Hno.out Ho.out).2]; rfl, hb⟩
  · have hok' : P.rOk s = false := by simpa using hok
    have Ho := Lib.hid (show P.tOk s k = false by unfold P.tOk; rw [hok']; rfl)
    have Hn0 := Lib.hid (show P.rNum s = 0 ∧ P.rSize s = 0 by unfold P.rNum P.rSize; rw [hok']; exact ⟨rfl, rfl⟩)
    clear hok
    go_enter Tryd.func84, Tryd.ntmps84
    go_wp2_with (go_at_call 85; (with_reducible refine (Hrv.out _).mono ?_); rintro e w1 ⟨rfl, hb⟩)
    all_goals exact bodyPost_ret (v := .tuple #[S [], .int .i64 0, .bool false]) (by simp [results, Tryd.results84, go_sem]) rfl ⟨by rw [Ho.out, (Hno.out Ho.out).1, (Hno.out Ho.out).2]; rfl, hb⟩

set_option maxRecDepth 100000 in
set_option maxHeartbeats 2000000 in
theorem refReadText_any (s : List UInt8) (k : Int) (w : World) (hs : s.length ≤ 4611686018427387903) (hk0 : -9223372036854775808 ≤ k) (hk1 : k ≤ 9223372036854775807) :
    Calls Tryd.prog 87 #[S s, .int .i64 k] w fun e w' => e = .returned (.tuple #[S (P.tText s k), .int .i64 (P.tSize s k), .bool (P.tOk s k)]) ∧ Below w.heap.size w w' := by
  have Hrv := Lib.hid (fun w => refReadVar_any s w (by omega))
  have Hno := Lib.hid (show P.tOk s k = false → P.tText s k = [] ∧ P.tSize s k = 0 from fun h => by unfold P.tText P.tSize; rw [h]; exact ⟨rfl, rfl⟩)
  have Hyes := Lib.hid (show P.tOk s k = true → P.tText s k = (s.drop (P.rSize s)).take (P.rNum s) ∧ P.tSize s k = P.rSize s + P.rNum s from fun h => by unfold P.tText P.tSize; rw [h]; exact ⟨rfl, rfl⟩)
  by_cases hok : P.rOk s = true
  · have Hr := Lib.hid (P.row_read s hok)
    have hz1 := Hr.out.1
    have hz2 := Hr.out.2.1
    have hn := Hr.out.2.2.2
    have Ht := Lib.hid (show P.tOk s k = decide (0 ≤ k ∧ (P.rNum s : Int) ≤ k ∧ P.rSize s + P.rNum s ≤ s.length) by unfold P.tOk; rw [hok]; simp)
    generalize P.rNum s = n at *
    generalize P.rSize s = z at *
    by_cases hn1 : n ≤ s.length
    · by_cases hall : 0 ≤ k ∧ (n : Int) ≤ k ∧ z + n ≤ s.length
      · have Ho := Lib.hid (show P.tOk s k = true by rw [Ht.out]; exact decide_eq_true hall)
        obtain ⟨h1, h2, h3⟩ := hall
        have h4 : ((z : Int) + (n : Int)) ≤ (s.length : Int) := by omega
        have h5 : (n : Int) ≤ (s.length : Int) - (z : Int) := by omega
        have Hcut := Lib.hid (show (ByteArray.mk s.toArray).extract z (z + n) = ⟨((s.drop z).take n).toArray⟩ by rw [str_cut, Nat.add_sub_cancel_left])
        go_enter Tryd.func87, Tryd.ntmps87
        go_wp2_with (go_at_call 88; (with_reducible refine (Hrv.out _).mono ?_); rintro e w1 ⟨rfl, hb⟩)
        exact bodyPost_ret (v := .tuple #[.string ((ByteArray.mk s.toArray).extract z (z + n)), .int .i64 ((z : Int) + (n : Int)), .bool true]) (by simp [results, Tryd.results87, go_sem]) rfl ⟨by rw [Ho.out, (Hyes.out Ho.out).1, (Hyes.out Ho.out).2, Hcut.out]; rfl, hb⟩
      · have Ho := Lib.hid (show P.tOk s k = false by rw [Ht.out]; exact decide_eq_false hall)
        by_cases hk : k < 0
        · clear hall
          go_enter Tryd.func87, Tryd.ntmps87
          go_wp2_with (go_at_call 88; (with_reducible refine (Hrv.out _).mono ?_); rintro e w1 ⟨rfl, hb⟩)
          all_goals exact bodyPost_ret (v := .tuple #[S [], .int .i64 0, .bool false]) (by simp [results, Tryd.results87, go_sem]) rfl ⟨by rw [Ho.out, (Hno.out Ho.out).1, (Hno.out Ho.out).2]; rfl, hb⟩
        · by_cases hnk : k < (n : Int)
          · clear hall
            go_enter Tryd.func87, Tryd.ntmps87
            go_wp2_with (go_at_call 88; (with_reducible refine (Hrv.out _).mono ?_); rintro e w1 ⟨rfl, hb⟩)
            all_goals exact bodyPost_ret (v := .tuple #[S [], .int .i64 0, .bool false]) (by simp [results, Tryd.results87, go_sem]) rfl ⟨by rw [Ho.out, (Hno.out Ho.out).1, (Hno.out Ho.out).2]; rfl, hb⟩
          · have h5 : (s.length : Int) < (z : Int) + (n : Int) := by omega
            have h6 : (s.length : Int) - (z : Int) < (n : Int) := by omega
            clear hall
            go_enter Tryd.func87, Tryd.ntmps87
            go_wp2_with (go_at_call 88; (with_reducible refine (Hrv.out _).mono ?_); rintro e w1 ⟨rfl, hb⟩)
            all_goals exact bodyPost_ret (v := .tuple #[S [], .int .i64 0, .bool false]) (by simp [results, Tryd.results87, go_sem]) rfl ⟨by rw [Ho.out, (Hno.out Ho.out).1, (Hno.out Ho.out).2]; rfl, hb⟩
    · have Ho := Lib.hid (show P.tOk s k = false by rw [Ht.out]; exact decide_eq_false (fun h => hn1 (by omega)))
      have h6 : (s.length : Int) - (z : Int) < (n : Int) := by omega
      have h7 : (s.length : Int) < (n : Int) := by omega
      by_cases hk : k < 0
      · go_enter Tryd.func87, Tryd.ntmps87
        go_wp2_with (go_at_call 88; (with_reducible refine (Hrv.out _).mono ?_); rintro e w1 ⟨rfl, hb⟩)
        all_goals exact bodyPost_ret (v := .tuple #[S [], .int .i64 0, .bool false]) (by simp [results, Tryd.results87, go_sem]) rfl ⟨by rw [Ho.out, (Hno.out Ho.out).1, (Hno.out Ho.out).2]; rfl, hb⟩
      · by_cases hnk : k < (n : Int)
        · go_enter Tryd.func87, Tryd.ntmps87
          go_wp2_with (go_at_call 88; (with_reducible refine (Hrv.out _).mono ?_); rintro e w1 ⟨rfl, hb⟩)
          all_goals exact bodyPost_ret (v := .tuple #[S [], .int .i64 0, .bool false]) (by simp [results, Tryd.results87, go_sem]) rfl ⟨by rw [Ho.out, (Hno.out Ho.out).1, (Hno.out Ho.out).2]; rfl, hb⟩
        · go_enter Tryd.func87, Tryd.ntmps87
          go_wp2_with (go_at_call 88; (with_reducible refine (Hrv.out _).mono ?_); rintro e w1 ⟨rfl, hb⟩)
          all_goals exact bodyPost_ret (v := .tuple #[S [], .int .i64 0, .bool false]) (by simp [results, Tryd.results87, go_sem]) rfl ⟨by rw [Ho.out, (Hno.out Ho.out).1, (Hno.out Ho.out).2]; rfl, hb⟩
  · have hok' : P.rOk s = false := by simpa using hok
    have Ho := Lib.hid (show P.tOk s k = false by unfold P.tOk; rw [hok']; rfl)
    have Hn0 := Lib.hid (show P.rNum s = 0 ∧ P.rSize s = 0 by unfold P.rNum P.rSize; rw [hok']; exact ⟨rfl, rfl⟩)
    clear hok
    go_enter Tryd.func87, Tryd.ntmps87
    go_wp2_with (go_at_call 88; (with_reducible refine (Hrv.out _).mono ?_); rintro e w1 ⟨rfl, hb⟩)
    all_goals exact bodyPost_ret (v := .tuple #[S [], .int .i64 0, .bool false]) (by simp [results, Tryd.results87, go_sem]) rfl ⟨by rw [Ho.out, (Hno.out Ho.out).1, (Hno.out Ho.out).2]; rfl, hb⟩
end Go.Proofs.YtcobfoiajdbahaaDoor
