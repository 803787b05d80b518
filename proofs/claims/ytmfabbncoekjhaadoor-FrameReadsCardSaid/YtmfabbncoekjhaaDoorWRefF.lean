/- The walks of the document's Frame and Write. -/
import Derived.Test.YtmfabbncoekjhaaDoorWLaw4
import Derived.Test.YtmfabbncoekjhaaDoorWMakeR
import Derived.Test.YtmfabbncoekjhaaDoorWReadR
namespace Go.Proofs.YtmfabbncoekjhaaDoor
open Go.RowKit
set_option linter.unusedVariables false

attribute [local go_sem] str_takeN str_dropN ByteArray.mk_append_mk

theorem str_cut24 (s : List UInt8) (k : Nat) : (ByteArray.mk s.toArray).extract k (k + 24) = ⟨((s.drop k).take 24).toArray⟩ := by
  rw [ByteArray.extract_mk, Nat.add_sub_cancel_left]
theorem str_cutN (s : List UInt8) (k n : Nat) (h : n = s.length) : (ByteArray.mk s.toArray).extract k n = ⟨(s.drop k).toArray⟩ := by subst h; exact str_dropN s k

set_option maxRecDepth 100000 in
set_option maxHeartbeats 4000000 in
theorem refFrame_any (r : List UInt8) (w : World) (hr : r.length ≤ 524288) :
    Calls Tryd.prog 21 #[S r] w fun e w' => e = .returned (S (P.frame r)) ∧ Below w.heap.size w w' := by
  have Hfl := Lib.hid (show (P.frame r).length ≤ 1000000 by rw [P.frame_length]; have := P.cells_le r.length; omega)
  have hC1 : 1 ≤ P.cells r.length := P.cells_pos _
  have HC := Lib.hid (show P.cells r.length = if r.length ≤ 24 then 1 else (r.length + 23) / 24 from rfl)
  have hcell : r.length = 0 ∧ P.cells r.length = 1 ∨ 0 < r.length ∧ (P.cells r.length : Int) = ((r.length : Int) + 23) / 24 := by
    rcases Nat.eq_zero_or_pos r.length with h | h
    · left; exact ⟨h, by rw [HC.out, h]; rfl⟩
    · right
      refine ⟨h, ?_⟩
      rw [HC.out]
      split <;> omega
  have hlow : 24 * (P.cells r.length - 1) ≤ r.length ∧ r.length ≤ 24 * P.cells r.length ∧ (P.cells r.length = 1 ∨ 24 * (P.cells r.length - 1) < r.length) := by
    rw [HC.out]
    split <;> omega
  generalize P.cells r.length = C at *
  have Hcore : ∀ (wx : World), Below w.heap.size w wx → True := fun _ _ => trivial
  rcases hcell with ⟨h0, rfl⟩ | ⟨h0, hCi⟩
  · have h0i : (r.length : Int) = 0 := by omega
    obtain rfl : r = [] := List.length_eq_zero_iff.1 h0
    have hm : P.may ⟨true, true, 0, []⟩ = true := by decide
    have HM : Hid (∀ w, Calls Tryd.prog 27 #[.agg #[.bool true, .bool true, .int .i64 0, .string ByteArray.empty]] w fun e w' => e = .returned (.tuple #[S (P.bytesOf ⟨true, true, 0, []⟩), .int .i64 0]) ∧ Below w.heap.size w w') := Lib.hid (fun w => refMake_yes true true 0 [] w hm)
    have Hfr := Lib.hid (show P.frame [] = P.bytesOf ⟨true, true, 0, []⟩ by unfold P.frame; rw [P.frame_short (by simp)]; rfl)
    have hzl := P.bytesOf_length ⟨true, true, 0, []⟩ (by simp)
    generalize P.bytesOf ⟨true, true, 0, []⟩ = z at *
    have hz0 : ¬ 9223372036854775807 < z.length := by omega
    go_enter Tryd.func21, Tryd.ntmps21
    go_wp2
    go_loopw [4, 5] (fun s n wr => (n = .int .i64 0 ∧ s = S [] ∨ n = .int .i64 1 ∧ s = S z) ∧ Below w.heap.size w wr) (fun _ n _ => 1 - (intOf n).toNat)
    case atStart => exact ⟨.inl ⟨rfl, rfl⟩, Below.refl _ _⟩
    case round =>
      obtain ⟨hj, hb⟩ := hrel
      rcases hj with ⟨rfl, rfl⟩ | ⟨rfl, rfl⟩
      · go_wp2_with (go_at_call 27; (with_reducible refine (HM.out _).mono ?_); rintro e w1 ⟨rfl, hb1⟩)
        go_roundw
        case rel => exact ⟨.inr ⟨by rfl, by simp⟩, Chain.up hb hb1⟩
        case measure => simp [intOf]
      · go_wp2
        go_ret
        exact ⟨by rw [Hfr.out]; rfl, hb⟩
  · have hne : ¬ (C : Int) = 0 := by omega
    have HCs := Lib.hid hCi
    have hne2 : ¬ ((r.length : Int) + 23) / 24 = 0 := by omega
    have hne3 : (((r.length : Int) + 23) / 24 == 0) = false := by simpa using hne2
    clear hCi
    go_enter Tryd.func21, Tryd.ntmps21
    go_wp2
    go_loopw [4, 5] (fun s n wr => ∃ (j : Nat) (pre : List UInt8), n = .int .i64 j ∧ s = S pre ∧ (j < C ∧ P.frame r = pre ++ P.frameFrom j (r.drop (24 * j)) ∨ j = C ∧ P.frame r = pre) ∧ Below w.heap.size w wr) (fun _ n _ => C - (intOf n).toNat)
    case atStart => exact ⟨0, [], rfl, rfl, .inl ⟨by omega, rfl⟩, Below.refl _ _⟩
    case round =>
      obtain ⟨j, pre, rfl, rfl, hj, hb⟩ := hrel
      rcases hj with ⟨hjC, hfr⟩ | ⟨rfl, hfr⟩
      · obtain ⟨f, hf1, hf2⟩ := eq_zero j
        have hjr : 24 * j ≤ r.length := by omega
        have hql : (r.drop (24 * j)).length = r.length - 24 * j := by simp
        have hpl : pre.length ≤ 1000000 := by
          have := congrArg List.length hfr
          have := Hfl.out
          simp only [List.length_append] at *
          omega
        have hj0 : j = 0 ∨ 0 < (r.drop (24 * j)).length := by rw [hql]; omega
        have hCs := HCs.out
        have hjci : (j : Int) < ((r.length : Int) + 23) / 24 := by omega
        by_cases h24 : (r.drop (24 * j)).length ≤ 24
        · have hm := P.may_short h24 (show j ≤ 65535 by omega) hj0
          rw [hf2] at hm
          have HM := Lib.hid (fun w => refMake_yes f true j (r.drop (24 * j)) w hm)
          have hbl := P.bytesOf_length ⟨f, true, j, r.drop (24 * j)⟩ h24
          have Hfr := Lib.hid (show P.frame r = pre ++ P.bytesOf ⟨f, true, j, r.drop (24 * j)⟩ by rw [hfr, P.frame_short h24, hf2])
          have hcut := str_dropN r (24 * j)
          have hcut2 : 24 * j + 24 = r.length → (ByteArray.mk r.toArray).extract (24 * j) (24 * j + 24) = ⟨(r.drop (24 * j)).toArray⟩ := fun h => by rw [h]; exact hcut
          generalize P.bytesOf ⟨f, true, j, r.drop (24 * j)⟩ = z at *
          have hjl : j + 1 = C := by omega
          have hlast : ((j : Int) == ((r.length : Int) + 23) / 24 - 1) = true := by simp; omega
          clear hCs
          have hadd : ¬ 9223372036854775807 < pre.length + z.length := by omega
          clear hfr hm hf2
          by_cases hto : 24 * j + 24 = r.length
          · have hcut3 := hcut2 hto
            have htoi : (24 * (j : Int) + 24) = (r.length : Int) := by omega
            have htoi2 : ¬ (r.length : Int) < (24 * (j : Int) + 24) := by omega
            generalize hq : r.drop (24 * j) = q at *
            clear hcut hcut2
            go_wp2_with (go_at_call 27; (with_reducible refine (HM.out _).mono ?_); rintro e w1 ⟨rfl, hb1⟩)
            go_roundw
            case rel => exact ⟨j + 1, pre ++ z, by go_num, rfl, .inr ⟨hjl, Hfr.out⟩, Chain.up hb hb1⟩
            case measure => simp [intOf]; omega
          · have htoi : (r.length : Int) < (24 * (j : Int) + 24) := by omega
            generalize hq : r.drop (24 * j) = q at *
            clear hcut2
            go_wp2_with (go_at_call 27; (with_reducible refine (HM.out _).mono ?_); rintro e w1 ⟨rfl, hb1⟩)
            go_roundw
            case rel => exact ⟨j + 1, pre ++ z, by go_num, rfl, .inr ⟨hjl, Hfr.out⟩, Chain.up hb hb1⟩
            case measure => simp [intOf]; omega
        · have hq24 : 24 < (r.drop (24 * j)).length := by omega
          have hm := P.may_more (n := j) (d := (r.drop (24 * j)).take 24) (by simp; omega) (by omega)
          rw [hf2] at hm
          have HM := Lib.hid (fun w => refMake_yes f false j ((r.drop (24 * j)).take 24) w hm)
          have hbl := P.bytesOf_length ⟨f, false, j, (r.drop (24 * j)).take 24⟩ (by simp; omega)
          have Hfr := Lib.hid (show P.frame r = (pre ++ P.bytesOf ⟨f, false, j, (r.drop (24 * j)).take 24⟩) ++ P.frameFrom (j + 1) (r.drop (24 * (j + 1))) by
            rw [hfr, P.frame_long hq24, hf2, List.append_assoc, List.drop_drop, show 24 * j + 24 = 24 * (j + 1) by omega])
          have hcut := str_cut24 r (24 * j)
          generalize P.bytesOf ⟨f, false, j, (r.drop (24 * j)).take 24⟩ = z at *
          have hjl : j + 1 < C := by omega
          have hlast : ((j : Int) == ((r.length : Int) + 23) / 24 - 1) = false := by simp; omega
          have hadd : ¬ 9223372036854775807 < pre.length + z.length := by omega
          have htoi : (24 * (j : Int) + 24) ≤ (r.length : Int) := by omega
          have htoi2 : ¬ (r.length : Int) < (24 * (j : Int) + 24) := by omega
          clear hfr hm hf2 hCs
          generalize hq : (r.drop (24 * j)).take 24 = q at *
          go_wp2_with (go_at_call 27; (with_reducible refine (HM.out _).mono ?_); rintro e w1 ⟨rfl, hb1⟩)
          go_roundw
          case rel => exact ⟨j + 1, pre ++ z, by go_num, rfl, .inl ⟨hjl, Hfr.out⟩, Chain.up hb hb1⟩
          case measure => simp [intOf]; omega
      · have hCs := HCs.out
        have hjci : ((r.length : Int) + 23) / 24 ≤ (j : Int) := by omega
        clear hCs
        go_wp2
        go_ret
        exact ⟨by rw [hfr]; rfl, hb⟩
end Go.Proofs.YtmfabbncoekjhaaDoor
