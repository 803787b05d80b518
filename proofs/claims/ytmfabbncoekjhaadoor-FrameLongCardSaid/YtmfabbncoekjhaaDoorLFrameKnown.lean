/- FrameKnown: the chapter's examples. The walk of the law. -/
import Derived.Test.YtmfabbncoekjhaaDoorWLaw4
import Derived.Test.YtmfabbncoekjhaaDoorPFrame2
namespace Go.Proofs.YtmfabbncoekjhaaDoor
open Go.RowKit
set_option linter.unusedVariables false

/-- 'Write' of one record. -/
theorem writeF_one (r : List UInt8) (hr : r.length ≤ 524288) (w : World) (ht : TabOk w) (g : Nat) (hg : g = w.heap.size) :
    Calls Tryd.prog 10 #[.slice (some ⟨g, 0, none⟩) 1 1] (w.alloc (.cells #[S r] 9)) fun e w' => e = .returned (.tuple #[S (P.frame r), .int .i64 0]) ∧ Below w.heap.size w w' := by
  subst hg
  have h := writeF_any (some ⟨w.heap.size, 0, none⟩) 1 [r] (w.alloc (.cells #[S r] 9)) (by simp) (strs_new w _ _ _ rfl) (by simp; omega) (ht.alloc _)
  have hok : P.fok [r] = true := (P.fok_iff _).2 (by simpa using hr)
  rw [show P.fbytes [r] = P.frame r by unfold P.fbytes; rw [hok]; simp [P.frames], show P.ferr [r] = 0 by unfold P.ferr; rw [hok]; rfl] at h
  exact h.mono fun e w' ⟨he, hb⟩ => ⟨he, ((Below.refl _ _).alloc (Nat.le_refl _) _).trans (hb.mono (by simp))⟩
theorem writeF_none (w : World) (ht : TabOk w) : Calls Tryd.prog 10 #[.slice none 0 0] w fun e w' => e = .returned (.tuple #[S [], .int .i64 0]) ∧ Below w.heap.size w w' :=
  writeF_any none 0 [] w (by simp) (fun i hi => by simp at hi) (by simp) ht

theorem fk_a : (P.frame [97, 98]).length = 32 ∧ (P.frame [97, 98]).take 6 = [67, 2, 0, 0, 97, 98] := by
  refine ⟨by rw [P.frame_length]; rfl, ?_⟩
  unfold P.frame
  rw [P.frame_short (by simp)]
  rfl
theorem fk_c : (P.frame [97, 98, 99, 100, 101, 102, 103, 104, 105, 106, 107, 108, 109, 110, 111, 112, 113, 114, 115, 116, 117, 118, 119, 120, 121]).length = 64 ∧ P.at_ (P.frame [97, 98, 99, 100, 101, 102, 103, 104, 105, 106, 107, 108, 109, 110, 111, 112, 113, 114, 115, 116, 117, 118, 119, 120, 121]) 0 = 65 ∧ ((P.frame [97, 98, 99, 100, 101, 102, 103, 104, 105, 106, 107, 108, 109, 110, 111, 112, 113, 114, 115, 116, 117, 118, 119, 120, 121]).drop 32).take 5 = [66, 1, 1, 0, 121] := by
  refine ⟨by rw [P.frame_length]; rfl, ?_⟩
  unfold P.frame
  rw [P.frame_long (by simp)]
  have hl := P.bytesOf_length ⟨(0 : Nat) == 0, false, ((0 : Nat) : Int), ([97, 98, 99, 100, 101, 102, 103, 104, 105, 106, 107, 108, 109, 110, 111, 112, 113, 114, 115, 116, 117, 118, 119, 120, 121] : List UInt8).take 24⟩ (by simp)
  refine ⟨rfl, ?_⟩
  rw [← hl, List.drop_left, P.frame_short (by simp)]
  rfl
theorem fk_bad (x : List UInt8) : P.recs (0 :: x) = [] ∧ P.whole (0 :: x) = 0 := by
  refine P.Whole.eq ⟨by omega, by simp [P.frames], ?_, by simp⟩
  rw [List.drop_zero]
  refine P.one_bad (fun h => ?_)
  have := reads_mark _ h.1
  have h0 : P.at_ ((0 :: x).take 32) 0 = 0 := rfl
  omega
theorem fk_all : P.recs (P.frame [] ++ P.frame [97, 98, 99, 100, 101, 102, 103, 104, 105, 106, 107, 108, 109, 110, 111, 112, 113, 114, 115, 116, 117, 118, 119, 120, 121]) = [[], [97, 98, 99, 100, 101, 102, 103, 104, 105, 106, 107, 108, 109, 110, 111, 112, 113, 114, 115, 116, 117, 118, 119, 120, 121]] ∧ P.whole (P.frame [] ++ P.frame [97, 98, 99, 100, 101, 102, 103, 104, 105, 106, 107, 108, 109, 110, 111, 112, 113, 114, 115, 116, 117, 118, 119, 120, 121]) = 96 := by
  have h := P.frames_whole [[], [97, 98, 99, 100, 101, 102, 103, 104, 105, 106, 107, 108, 109, 110, 111, 112, 113, 114, 115, 116, 117, 118, 119, 120, 121]] [] (by simp) P.one_nil
  have e : P.frames [[], [97, 98, 99, 100, 101, 102, 103, 104, 105, 106, 107, 108, 109, 110, 111, 112, 113, 114, 115, 116, 117, 118, 119, 120, 121]] ++ [] = P.frame [] ++ P.frame [97, 98, 99, 100, 101, 102, 103, 104, 105, 106, 107, 108, 109, 110, 111, 112, 113, 114, 115, 116, 117, 118, 119, 120, 121] := by simp [P.frames]
  rw [e] at h
  refine ⟨h.1, ?_⟩
  rw [h.2, P.frames_cons, P.frames_cons, List.length_append, List.length_append, P.frame_length, P.frame_length]
  rfl

attribute [local go_sem] str_takeN str_dropN str_at ByteArray.mk_append_mk

set_option maxRecDepth 100000 in
set_option maxHeartbeats 4000000 in
theorem law_known (w : World) (ht : TabOk w) :
    Calls Tryd.prog 3 #[] w fun e w' => e = .returned (.bool true) ∧ Below w.heap.size w w' := by
  have HA := Lib.hid (fun w ht g hg => writeF_one [97, 98] (by simp) w ht g hg)
  have HB := Lib.hid (fun w ht g hg => writeF_one [97, 98, 99, 100, 101, 102, 103, 104, 105, 106, 107, 108, 109, 110, 111, 112, 113, 114, 115, 116, 117, 118, 119, 120] (by simp) w ht g hg)
  have HC := Lib.hid (fun w ht g hg => writeF_one [97, 98, 99, 100, 101, 102, 103, 104, 105, 106, 107, 108, 109, 110, 111, 112, 113, 114, 115, 116, 117, 118, 119, 120, 121] (by simp) w ht g hg)
  have HE := Lib.hid (fun w ht g hg => writeF_one [] (by simp) w ht g hg)
  have hbl : (P.frame [97, 98, 99, 100, 101, 102, 103, 104, 105, 106, 107, 108, 109, 110, 111, 112, 113, 114, 115, 116, 117, 118, 119, 120]).length = 32 := by rw [P.frame_length]; rfl
  have hel : (P.frame []).length = 32 := by rw [P.frame_length]; rfl
  have hal := fk_a.1
  have ha6 := fk_a.2
  have hcl := fk_c.1
  have hc0 : (P.at_ (P.frame [97, 98, 99, 100, 101, 102, 103, 104, 105, 106, 107, 108, 109, 110, 111, 112, 113, 114, 115, 116, 117, 118, 119, 120, 121]) 0 : Int) = 65 := by rw [fk_c.2.1]; rfl
  have hc5 := fk_c.2.2
  have H1 := Lib.hid (fun w ht => readF_any (0 :: P.frame [97, 98]) w (by simp [fk_a.1]) ht)
  rw [(fk_bad _).1, (fk_bad _).2, show ([] : List (List UInt8)).length = 0 from rfl] at H1
  have H2 := Lib.hid (fun w ht => readF_any (P.frame [] ++ P.frame [97, 98, 99, 100, 101, 102, 103, 104, 105, 106, 107, 108, 109, 110, 111, 112, 113, 114, 115, 116, 117, 118, 119, 120, 121]) w (by simp [fk_c.1, hel]) ht)
  rw [fk_all.1, fk_all.2, show ([[], [97, 98, 99, 100, 101, 102, 103, 104, 105, 106, 107, 108, 109, 110, 111, 112, 113, 114, 115, 116, 117, 118, 119, 120, 121]] : List (List UInt8)).length = 2 from rfl] at H2
  have HS := Lib.hid (fun a3 c3 wx (h3 : StrsAt wx a3 [[], [97, 98, 99, 100, 101, 102, 103, 104, 105, 106, 107, 108, 109, 110, 111, 112, 113, 114, 115, 116, 117, 118, 119, 120, 121]]) => same_any a3 (some ⟨wx.heap.size, 0, none⟩) c3 2 [[], [97, 98, 99, 100, 101, 102, 103, 104, 105, 106, 107, 108, 109, 110, 111, 112, 113, 114, 115, 116, 117, 118, 119, 120, 121]] [[], [97, 98, 99, 100, 101, 102, 103, 104, 105, 106, 107, 108, 109, 110, 111, 112, 113, 114, 115, 116, 117, 118, 119, 120, 121]] (wx.alloc (.cells #[S [], S [97, 98, 99, 100, 101, 102, 103, 104, 105, 106, 107, 108, 109, 110, 111, 112, 113, 114, 115, 116, 117, 118, 119, 120, 121]] 9)) (by simp) (by simp) (h3.up ((Below.refl _ _).alloc (Nat.le_refl _) _)) (strs_new wx _ _ _ rfl))
  rw [show (([[], [97, 98, 99, 100, 101, 102, 103, 104, 105, 106, 107, 108, 109, 110, 111, 112, 113, 114, 115, 116, 117, 118, 119, 120, 121]] : List (List UInt8)) == [[], [97, 98, 99, 100, 101, 102, 103, 104, 105, 106, 107, 108, 109, 110, 111, 112, 113, 114, 115, 116, 117, 118, 119, 120, 121]]) = true by simp, show ([[], [97, 98, 99, 100, 101, 102, 103, 104, 105, 106, 107, 108, 109, 110, 111, 112, 113, 114, 115, 116, 117, 118, 119, 120, 121]] : List (List UInt8)).length = 2 from rfl] at HS
  generalize P.frame [97, 98] = fa at *
  generalize P.frame [97, 98, 99, 100, 101, 102, 103, 104, 105, 106, 107, 108, 109, 110, 111, 112, 113, 114, 115, 116, 117, 118, 119, 120] = fb at *
  generalize P.frame [97, 98, 99, 100, 101, 102, 103, 104, 105, 106, 107, 108, 109, 110, 111, 112, 113, 114, 115, 116, 117, 118, 119, 120, 121] = fc at *
  generalize P.frame [] = fe at *
  have hmid : (ByteArray.mk fc.toArray).extract 32 37 = ⟨#[66, 1, 1, 0, 121]⟩ := by rw [ByteArray.extract_mk, hc5]
  have hadd : ¬ 9223372036854775807 < fe.length + fc.length := by omega
  have hadd2 : ¬ 9223372036854775807 < 1 + fa.length := by omega
  have hc : Below w.heap.size w w := Below.refl _ _
  go_enter Tryd.func3, Tryd.ntmps3
  go_wp2_with (first
    | (go_at_call 10; (with_reducible refine (HA.out _ (ht.up hc) _ rfl).mono ?_); rintro e w1 ⟨rfl, hb⟩; replace hc := Chain.up hc hb; clear hb)
    | (go_at_call 10; (with_reducible refine (HB.out _ (ht.up hc) _ rfl).mono ?_); rintro e w2 ⟨rfl, hb⟩; replace hc := Chain.up hc hb; clear hb)
    | (go_at_call 10; (with_reducible refine (HC.out _ (ht.up hc) _ rfl).mono ?_); rintro e w3 ⟨rfl, hb⟩; replace hc := Chain.up hc hb; clear hb)
    | (go_at_call 10; (with_reducible refine (writeF_none _ (ht.up hc)).mono ?_); rintro e w4 ⟨rfl, hb⟩; replace hc := Chain.up hc hb; clear hb)
    | (go_at_call 10; (with_reducible refine (HE.out _ (ht.up hc) _ rfl).mono ?_); rintro e w5 ⟨rfl, hb⟩; replace hc := Chain.up hc hb; clear hb)
    | (go_at_call 11; (with_reducible refine (H1.out _ (ht.up hc)).mono ?_); rintro e w6 ⟨a6, c6, rfl, hs6, hb⟩; replace hc := Chain.up hc hb; clear hb)
    | (go_at_call 11; (with_reducible refine (H2.out _ (ht.up hc)).mono ?_); rintro e w7 ⟨a7, c7, rfl, hs7, hb⟩; replace hc := Chain.up hc hb; clear hb)
    | (go_at_call 12; (with_reducible refine (HS.out _ _ _ hs7).mono ?_); rintro e w8 ⟨rfl, hb⟩; replace hc := Chain.up (hc.alloc hc.size _) hb; clear hb)
    | (go_at_call 13; (with_reducible refine (awake_any _ (ht.up hc)).mono ?_); rintro e w9 ⟨rfl, hb⟩; replace hc := Chain.up hc hb; clear hb))
  go_ret
  exact ⟨rfl, hc⟩
end Go.Proofs.YtmfabbncoekjhaaDoor
