/- The walk of frame.put: a record's frame goes behind others. -/
import Derived.Test.YtmfabbncoekjhaaDoorWBuild
import Derived.Test.YtmfabbncoekjhaaDoorWMake
import Derived.Test.YtmfabbncoekjhaaDoorPFrame
namespace Go.Proofs.YtmfabbncoekjhaaDoor
open Go.RowKit
set_option linter.unusedVariables false

def bNat : Value → Nat
  | .bool true => 1
  | _ => 0
def sLen : Value → Nat
  | .string s => s.size
  | _ => 0
theorem sLen_S (l : List UInt8) : sLen (S l) = l.length := by show l.toArray.size = _; simp
theorem eq_zero (j : Nat) : ∃ f : Bool, ((j : Int) == 0) = f ∧ (j == 0) = f := by
  refine ⟨j == 0, ?_, rfl⟩
  by_cases h : j = 0
  · subst h; rfl
  · have h1 : ((j : Int) == 0) = false := by simp; omega
    have h2 : (j == 0) = false := by simp; omega
    rw [h1, h2]

attribute [local go_sem] str_takeN str_dropN

set_option maxRecDepth 100000 in
set_option maxHeartbeats 4000000 in
theorem putF_any (r l : List UInt8) (B b : Nat) (w : World) (h : Bld w B b l) (hr : r.length ≤ 524288) (hl : l.length ≤ 100000000000) (hB : B ≤ w.heap.size) (hB0 : 0 < B) (ht : TabOk w) :
    Calls Tryd.prog 18 #[.pointer (some ⟨b, 0, none⟩), S r] w fun e w' => e = .returned (.tuple #[]) ∧ Bld w' B b (l ++ P.frame r) ∧ Below B w w' := by
  have Hfl := Lib.hid (show (P.frame r).length ≤ 1000000 by rw [P.frame_length]; have := P.cells_le r.length; omega)
  go_enter Tryd.func18, Tryd.ntmps18
  go_wp2
  go_loopw [1, 4, 5] (fun rec n lf wr => (∃ (j : Nat) (q pre : List UInt8), rec = S q ∧ n = .int .i64 j ∧ lf = .bool true ∧ P.frame r = pre ++ P.frameFrom j q ∧ (j = 0 ∨ 0 < q.length) ∧ 24 * j + q.length = r.length ∧ Bld wr B b (l ++ pre) ∧ Below B w wr) ∨
      (∃ (j : Nat), n = .int .i64 j ∧ lf = .bool false ∧ Bld wr B b (l ++ P.frame r) ∧ Below B w wr)) (fun rec _ lf _ => sLen rec + bNat lf)
  case atStart => exact .inl ⟨0, r, [], rfl, rfl, rfl, rfl, .inl rfl, by omega, by simpa using h, Below.refl _ _⟩
  case round =>
    rcases hrel with ⟨j, q, pre, rfl, rfl, rfl, hfr, hj0, hjq, hbld, hb⟩ | ⟨j, rfl, rfl, hbld, hb⟩
    · have htw := ht.below hb hB0
      have hbw := hb.size
      have Hpre := Lib.hid (show (l ++ pre).length ≤ 100001000000 by
        have := congrArg List.length hfr
        have := Hfl.out
        simp only [List.length_append] at *
        omega)
      obtain ⟨f, hf1, hf2⟩ := eq_zero j
      by_cases h24 : q.length ≤ 24
      · have hm := P.may_short h24 (show j ≤ 65535 by omega) hj0
        rw [hf2] at hm
        have HM := Lib.hid (fun w ht => make_yes f true j q w hm ht)
        have hbl := P.bytesOf_length ⟨f, true, j, q⟩ h24
        have Hfr := Lib.hid (show P.frame r = pre ++ P.bytesOf ⟨f, true, j, q⟩ by rw [hfr, P.frame_short h24, hf2])
        generalize P.bytesOf ⟨f, true, j, q⟩ = z at *
        clear hfr hm hf2
        have hmin : min (q.length : Int) 24 = (q.length : Int) := by omega
        have hdrop : List.drop q.length q = [] := List.drop_length
        go_wp2_with (first
          | (go_at_call 23; (with_reducible refine (HM.out _ htw).mono ?_); rintro e w1 ⟨rfl, hb1⟩)
          | (go_at_call 24; (with_reducible refine (write_any B b (l ++ pre) z _ (hbld.up hb1) ?hl ?hB).mono ?_); (case hl => have := Hpre.out; omega); (case hB => have := hb1.size; omega); rintro e w2 ⟨rfl, hb2, hb3, _⟩))
        go_roundw
        case rel => exact .inr ⟨j + 1, by go_num, rfl, by rw [Hfr.out, ← List.append_assoc]; exact hb2, (hb.trans (hb1.mono (by omega))).trans hb3⟩
        case measure =>
          rw [sLen_S]
          simp [sLen, bNat]
      · have hq24 : 24 < q.length := by omega
        have hm := P.may_more (n := j) (d := q.take 24) (by simp; omega) (by omega)
        rw [hf2] at hm
        have HM := Lib.hid (fun w ht => make_yes f false j (q.take 24) w hm ht)
        have hbl := P.bytesOf_length ⟨f, false, j, q.take 24⟩ (by simp; omega)
        have Hfr := Lib.hid (show P.frame r = (pre ++ P.bytesOf ⟨f, false, j, q.take 24⟩) ++ P.frameFrom (j + 1) (q.drop 24) by rw [hfr, P.frame_long hq24, hf2, List.append_assoc])
        generalize P.bytesOf ⟨f, false, j, q.take 24⟩ = z at *
        clear hfr hm hf2
        have hmin : min (q.length : Int) 24 = 24 := by omega
        have h24i : (24 : Int) < q.length := by omega
        go_wp2_with (first
          | (go_at_call 23; (with_reducible refine (HM.out _ htw).mono ?_); rintro e w1 ⟨rfl, hb1⟩)
          | (go_at_call 24; (with_reducible refine (write_any B b (l ++ pre) z _ (hbld.up hb1) ?hl ?hB).mono ?_); (case hl => have := Hpre.out; omega); (case hB => have := hb1.size; omega); rintro e w2 ⟨rfl, hb2, hb3, _⟩))
        go_roundw
        case rel => exact .inl ⟨j + 1, q.drop 24, pre ++ z, rfl, by go_num, rfl, Hfr.out, .inr (by simp; omega), by simp; omega, by rw [← List.append_assoc]; exact hb2, (hb.trans (hb1.mono (by omega))).trans hb3⟩
        case measure =>
          rw [sLen_S, sLen_S]
          simp [bNat]
          omega
    · go_wp2
      go_end0
      exact ⟨rfl, hbld, hb⟩
end Go.Proofs.YtmfabbncoekjhaaDoor
