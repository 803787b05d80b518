/- FrameReads: the records that are whole in any text, and where that ends, are the document's. The walk of the law. -/
import Derived.Test.YtmfabbncoekjhaaDoorWRefRd
namespace Go.Proofs.YtmfabbncoekjhaaDoor
open Go.RowKit
set_option linter.unusedVariables false

theorem P.recs_len (s : List UInt8) : (P.recs s).length ≤ P.whole s := by
  rw [← P.whole_len s]
  generalize P.recs s = l
  induction l with
  | nil => simp
  | cons r l ih =>
    have := P.cells_pos r.length
    rw [P.frames_cons, List.length_append, P.frame_length, List.length_cons]
    omega

attribute [local go_sem] str_takeN str_dropN

set_option maxRecDepth 100000 in
set_option maxHeartbeats 4000000 in
theorem reads_mid (s : List UInt8) (w : World) (hs : s.length ≤ 6000) (ht : TabOk w) :
    Calls Tryd.prog 6 #[S s] w fun e w' => e = .returned (.bool true) ∧ Below w.heap.size w w' := by
  have hrl := P.recs_len s
  have hwl := P.whole_le s
  have HR := Lib.hid (fun wx hx => readF_any s wx (by omega) hx)
  have HF := Lib.hid (fun wx => refReadF_any s wx (by omega))
  have HS := Lib.hid (fun a3 c3 a4 c4 wx h3 h4 => same_any a3 a4 c3 c4 (P.recs s) (P.recs s) wx (by omega) (by omega) h3 h4)
  rw [show ((P.recs s) == (P.recs s)) = true by simp] at HS
  generalize P.recs s = l at *
  generalize P.whole s = k at *
  go_enter Tryd.func6, Tryd.ntmps6
  go_wp2_with (first
    | (go_at_call 11; (with_reducible refine (HR.out _ ht).mono ?_); rintro e w1 ⟨a1, c1, rfl, hs1, hb1⟩)
    | (go_at_call 16; (with_reducible refine (HF.out _).mono ?_); rintro e w2 ⟨a2, c2, rfl, hs2, hb2⟩; have hc2 := Chain.up hb1 hb2; have hs3 := hs1.up hb2)
    | (go_at_call 12; (with_reducible refine (HS.out _ _ _ _ _ hs3 hs2).mono ?_); rintro e w3 ⟨rfl, hb3⟩; have hc3 := Chain.up hc2 hb3)
    | (go_at_call 13; (with_reducible refine (awake_any _ (ht.up hc3)).mono ?_); rintro e w4 ⟨rfl, hb4⟩))
  go_ret
  exact ⟨rfl, Chain.up hc3 hb4⟩

set_option maxRecDepth 100000 in
set_option maxHeartbeats 4000000 in
theorem reads_long (s s0 : List UInt8) (hbig : 6000 < s0.length) (hqs : s0.take 6000 = s) (w : World) (hs : s.length ≤ 6000) (ht : TabOk w) :
    Calls Tryd.prog 6 #[S s0] w fun e w' => e = .returned (.bool true) ∧ Below w.heap.size w w' := by
  have hrl := P.recs_len s
  have hwl := P.whole_le s
  have HR := Lib.hid (fun wx hx => readF_any s wx (by omega) hx)
  have HF := Lib.hid (fun wx => refReadF_any s wx (by omega))
  have HS := Lib.hid (fun a3 c3 a4 c4 wx h3 h4 => same_any a3 a4 c3 c4 (P.recs s) (P.recs s) wx (by omega) (by omega) h3 h4)
  rw [show ((P.recs s) == (P.recs s)) = true by simp] at HS
  generalize P.recs s = l at *
  generalize P.whole s = k at *
  go_enter Tryd.func6, Tryd.ntmps6
  go_wp2_with (first
    | (go_at_call 11; (with_reducible refine (HR.out _ ht).mono ?_); rintro e w1 ⟨a1, c1, rfl, hs1, hb1⟩)
    | (go_at_call 16; (with_reducible refine (HF.out _).mono ?_); rintro e w2 ⟨a2, c2, rfl, hs2, hb2⟩; have hc2 := Chain.up hb1 hb2; have hs3 := hs1.up hb2)
    | (go_at_call 12; (with_reducible refine (HS.out _ _ _ _ _ hs3 hs2).mono ?_); rintro e w3 ⟨rfl, hb3⟩; have hc3 := Chain.up hc2 hb3)
    | (go_at_call 13; (with_reducible refine (awake_any _ (ht.up hc3)).mono ?_); rintro e w4 ⟨rfl, hb4⟩))
  go_ret
  exact ⟨rfl, Chain.up hc3 hb4⟩

theorem law_reads (s : List UInt8) (w : World) (hs : s.length ≤ 9223372036854775807) (ht : TabOk w) :
    Calls Tryd.prog 6 #[S s] w fun e w' => e = .returned (.bool true) ∧ Below w.heap.size w w' := by
  by_cases hbig : 6000 < s.length
  · exact reads_long (s.take 6000) s hbig rfl w (by simp; omega) ht
  · exact reads_mid s w (by omega) ht
end Go.Proofs.YtmfabbncoekjhaaDoor
