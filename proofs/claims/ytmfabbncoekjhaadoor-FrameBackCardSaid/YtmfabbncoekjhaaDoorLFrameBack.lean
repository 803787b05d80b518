/- FrameBack: what is read, written again, are the bytes that were whole. The walk of the law. -/
import Derived.Test.YtmfabbncoekjhaaDoorWLaw4
import Derived.Test.YtmfabbncoekjhaaDoorPFrame2
namespace Go.Proofs.YtmfabbncoekjhaaDoor
open Go.RowKit
set_option linter.unusedVariables false

theorem P.recs_len (s : List UInt8) : (P.recs s).length ≤ P.whole s := by
  rw [← P.whole_len s]
  generalize P.recs s = l
  induction l with
  | nil => simp
  | cons r l ih =>
    have := P.cells_pos r.length
    rw [P.frames_cons, List.length_append, P.frame_length, List.length_cons]
    omega

attribute [local go_sem] str_takeN str_dropN

set_option maxRecDepth 100000 in
set_option maxHeartbeats 4000000 in
theorem back_mid (s : List UInt8) (w : World) (hs : s.length ≤ 6000) (ht : TabOk w) :
    Calls Tryd.prog 8 #[S s] w fun e w' => e = .returned (.bool true) ∧ Below w.heap.size w w' := by
  have hk := P.whole_le s
  have hmod := P.whole_mod s
  have hw := P.recs_whole s
  have hrl := P.recs_len s
  have HR := Lib.hid (fun wx hx => readF_any s wx (by omega) hx)
  have HN := Lib.hid (fun wx hx => readF_any (s.drop (P.whole s)) wx (by simp; omega) hx)
  rw [(P.rest_none s).1, (P.rest_none s).2, show ([] : List (List UInt8)).length = 0 from rfl] at HN
  have HW := Lib.hid (fun a c wx hp hx => writeF_any a c (P.recs s) wx (by omega) hp (fun r hr => by have := hw.2.2.2 r hr; omega) hx)
  have hok : P.fok (P.recs s) = true := (P.fok_iff _).2 hw.2.2.2
  rw [show P.fbytes (P.recs s) = s.take (P.whole s) by unfold P.fbytes; rw [hok]; exact hw.2.1, show P.ferr (P.recs s) = 0 by unfold P.ferr; rw [hok]; rfl] at HW
  have hki : (P.whole s : Int) ≤ (s.length : Int) := by omega
  have hmi : (P.whole s : Int) % 32 = 0 := by omega
  clear hw hok
  by_cases h0 : P.whole s = 0
  · have hn := P.recs_nil_iff s h0
    rw [hn] at hrl HR HW
    rw [show ([] : List (List UInt8)).length = 0 from rfl] at HR HW
    rw [h0] at HR HW HN
    rw [List.drop_zero] at HN
    clear hn hmi hmod hrl hk hki h0
    go_enter Tryd.func8, Tryd.ntmps8
    go_wp2_with (first
      | (go_at_call 11; (with_reducible refine (HR.out _ ht).mono ?_); rintro e w1 ⟨a1, c1, rfl, hs1, hb1⟩)
      | (go_at_call 10; (with_reducible refine (HW.out _ _ _ hs1 (ht.up hb1)).mono ?_); rintro e w2 ⟨rfl, hb2⟩; have hc2 := Chain.up hb1 hb2)
      | (go_at_call 11; (with_reducible refine (HN.out _ (ht.up hc2)).mono ?_); rintro e w3 ⟨a3, c3, rfl, hs3, hb3⟩; have hc3 := Chain.up hc2 hb3)
      | (go_at_call 13; (with_reducible refine (awake_any _ (ht.up hc3)).mono ?_); rintro e w4 ⟨rfl, hb4⟩))
    go_ret
    exact ⟨rfl, Chain.up hc3 hb4⟩
  · have hl1 := P.less_one s (by omega)
    have HL := Lib.hid (fun wx hx => readF_any (s.take (P.whole s - 1)) wx (by simp; omega) hx)
    generalize P.recs (s.take (P.whole s - 1)) = q at *
    generalize P.whole (s.take (P.whole s - 1)) = m at *
    generalize P.recs s = l at *
    generalize P.whole s = k at *
    have hlq : (q.length : Int) = (l.length : Int) - 1 := by omega
    have hk0 : ¬ (k : Int) = 0 := by omega
    go_enter Tryd.func8, Tryd.ntmps8
    go_wp2_with (first
      | (go_at_call 11; (with_reducible refine (HR.out _ ht).mono ?_); rintro e w1 ⟨a1, c1, rfl, hs1, hb1⟩)
      | (go_at_call 10; (with_reducible refine (HW.out _ _ _ hs1 (ht.up hb1)).mono ?_); rintro e w2 ⟨rfl, hb2⟩; have hc2 := Chain.up hb1 hb2)
      | (go_at_call 11; (with_reducible refine (HN.out _ (ht.up hc2)).mono ?_); rintro e w3 ⟨a3, c3, rfl, hs3, hb3⟩; have hc3 := Chain.up hc2 hb3)
      | (go_at_call 11; (with_reducible refine (HL.out _ (ht.up hc3)).mono ?_); rintro e w4 ⟨a4, c4, rfl, hs4, hb4⟩; have hc4 := Chain.up hc3 hb4)
      | (go_at_call 13; (with_reducible refine (awake_any _ (ht.up hc4)).mono ?_); rintro e w5 ⟨rfl, hb5⟩))
    go_ret
    exact ⟨rfl, Chain.up hc4 hb5⟩

set_option maxRecDepth 100000 in
set_option maxHeartbeats 4000000 in
theorem back_long (s s0 : List UInt8) (hbig : 6000 < s0.length) (hqs : s0.take 6000 = s) (w : World) (hs : s.length ≤ 6000) (ht : TabOk w) :
    Calls Tryd.prog 8 #[S s0] w fun e w' => e = .returned (.bool true) ∧ Below w.heap.size w w' := by
  have hk := P.whole_le s
  have hmod := P.whole_mod s
  have hw := P.recs_whole s
  have hrl := P.recs_len s
  have HR := Lib.hid (fun wx hx => readF_any s wx (by omega) hx)
  have HN := Lib.hid (fun wx hx => readF_any (s.drop (P.whole s)) wx (by simp; omega) hx)
  rw [(P.rest_none s).1, (P.rest_none s).2, show ([] : List (List UInt8)).length = 0 from rfl] at HN
  have HW := Lib.hid (fun a c wx hp hx => writeF_any a c (P.recs s) wx (by omega) hp (fun r hr => by have := hw.2.2.2 r hr; omega) hx)
  have hok : P.fok (P.recs s) = true := (P.fok_iff _).2 hw.2.2.2
  rw [show P.fbytes (P.recs s) = s.take (P.whole s) by unfold P.fbytes; rw [hok]; exact hw.2.1, show P.ferr (P.recs s) = 0 by unfold P.ferr; rw [hok]; rfl] at HW
  have hki : (P.whole s : Int) ≤ (s.length : Int) := by omega
  have hmi : (P.whole s : Int) % 32 = 0 := by omega
  clear hw hok
  by_cases h0 : P.whole s = 0
  · have hn := P.recs_nil_iff s h0
    rw [hn] at hrl HR HW
    rw [show ([] : List (List UInt8)).length = 0 from rfl] at HR HW
    rw [h0] at HR HW HN
    rw [List.drop_zero] at HN
    clear hn hmi hmod hrl hk hki h0
    go_enter Tryd.func8, Tryd.ntmps8
    go_wp2_with (first
      | (go_at_call 11; (with_reducible refine (HR.out _ ht).mono ?_); rintro e w1 ⟨a1, c1, rfl, hs1, hb1⟩)
      | (go_at_call 10; (with_reducible refine (HW.out _ _ _ hs1 (ht.up hb1)).mono ?_); rintro e w2 ⟨rfl, hb2⟩; have hc2 := Chain.up hb1 hb2)
      | (go_at_call 11; (with_reducible refine (HN.out _ (ht.up hc2)).mono ?_); rintro e w3 ⟨a3, c3, rfl, hs3, hb3⟩; have hc3 := Chain.up hc2 hb3)
      | (go_at_call 13; (with_reducible refine (awake_any _ (ht.up hc3)).mono ?_); rintro e w4 ⟨rfl, hb4⟩))
    go_ret
    exact ⟨rfl, Chain.up hc3 hb4⟩
  · have hl1 := P.less_one s (by omega)
    have HL := Lib.hid (fun wx hx => readF_any (s.take (P.whole s - 1)) wx (by simp; omega) hx)
    generalize P.recs (s.take (P.whole s - 1)) = q at *
    generalize P.whole (s.take (P.whole s - 1)) = m at *
    generalize P.recs s = l at *
    generalize P.whole s = k at *
    have hlq : (q.length : Int) = (l.length : Int) - 1 := by omega
    have hk0 : ¬ (k : Int) = 0 := by omega
    go_enter Tryd.func8, Tryd.ntmps8
    go_wp2_with (first
      | (go_at_call 11; (with_reducible refine (HR.out _ ht).mono ?_); rintro e w1 ⟨a1, c1, rfl, hs1, hb1⟩)
      | (go_at_call 10; (with_reducible refine (HW.out _ _ _ hs1 (ht.up hb1)).mono ?_); rintro e w2 ⟨rfl, hb2⟩; have hc2 := Chain.up hb1 hb2)
      | (go_at_call 11; (with_reducible refine (HN.out _ (ht.up hc2)).mono ?_); rintro e w3 ⟨a3, c3, rfl, hs3, hb3⟩; have hc3 := Chain.up hc2 hb3)
      | (go_at_call 11; (with_reducible refine (HL.out _ (ht.up hc3)).mono ?_); rintro e w4 ⟨a4, c4, rfl, hs4, hb4⟩; have hc4 := Chain.up hc3 hb4)
      | (go_at_call 13; (with_reducible refine (awake_any _ (ht.up hc4)).mono ?_); rintro e w5 ⟨rfl, hb5⟩))
    go_ret
    exact ⟨rfl, Chain.up hc4 hb5⟩

theorem law_back (s : List UInt8) (w : World) (hs : s.length ≤ 9223372036854775807) (ht : TabOk w) :
    Calls Tryd.prog 8 #[S s] w fun e w' => e = .returned (.bool true) ∧ Below w.heap.size w w' := by
  by_cases hbig : 6000 < s.length
  · exact back_long (s.take 6000) s hbig rfl w (by simp; omega) ht
  · exact back_mid s w (by omega) ht
end Go.Proofs.YtmfabbncoekjhaaDoor
