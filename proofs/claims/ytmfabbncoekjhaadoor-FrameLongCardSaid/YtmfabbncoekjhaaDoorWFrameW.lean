/- The walk of frame.Write. -/
import Derived.Test.YtmfabbncoekjhaaDoorWPutF
namespace Go.Proofs.YtmfabbncoekjhaaDoor
open Go.RowKit
set_option linter.unusedVariables false

/-- May all records be? -/
def P.fok (ss : List (List UInt8)) : Bool := ss.all fun r => decide (r.length ≤ 524288)
def P.fbytes (ss : List (List UInt8)) : List UInt8 := if P.fok ss then P.frames ss else []
def P.ferr (ss : List (List UInt8)) : Nat := if P.fok ss then 0 else 3
theorem P.fok_iff (ss : List (List UInt8)) : P.fok ss = true ↔ ∀ r ∈ ss, r.length ≤ 524288 := by simp [P.fok]
theorem P.frames_len : ∀ (ss : List (List UInt8)), (∀ r ∈ ss, r.length ≤ 524288) → (P.frames ss).length ≤ 1000000 * ss.length
  | [], _ => by simp [P.frames]
  | r :: ss, h => by
    have h1 := P.frames_len ss (fun q hq => h q (List.mem_cons_of_mem _ hq))
    have h2 := h r (List.mem_cons_self ..)
    have h3 := P.cells_le r.length
    rw [P.frames_cons, List.length_append, P.frame_length, List.length_cons]
    omega

set_option maxRecDepth 100000 in
set_option maxHeartbeats 4000000 in
theorem writeF_any (a : Option Addr) (c : Nat) (ss : List (List UInt8)) (w : World) (hlen : ss.length ≤ 10000) (hp : StrsAt w a ss) (hsl : ∀ l ∈ ss, l.length ≤ 9223372036854775807) (ht : TabOk w) :
    Calls Tryd.prog 10 #[.slice a ss.length c] w fun e w' => e = .returned (.tuple #[S (P.fbytes ss), .int .i64 (P.ferr ss)]) ∧ Below w.heap.size w w' := by
  have Hp := Lib.hid hp
  have Hl := Lib.hid hsl
  clear hp hsl
  have hB0 : 0 < w.heap.size := ht.1
  have Ht := Lib.hid ht
  clear ht
  go_enter Tryd.func10, Tryd.ntmps10
  go_wp2
  go_loopw [9] (fun i wr => ∃ k : Nat, k ≤ ss.length ∧ i = .int .i64 k ∧ (∀ r ∈ ss.take k, r.length ≤ 524288) ∧ Bld wr w.heap.size w.heap.size (P.frames (ss.take k)) ∧ Below w.heap.size w wr) (fun i _ => ss.length - (intOf i).toNat)
  case atStart => exact ⟨0, by omega, rfl, fun r hr => by simp at hr, Bld.fresh w, (Below.refl _ _).alloc (Nat.le_refl _) _⟩
  case round =>
    obtain ⟨k, hk, rfl, hall, hbld, hb⟩ := hrel
    have hbs := hb.size
    by_cases hlt : k < ss.length
    · obtain ⟨bk, o, rfl, hbb, hc⟩ := Hp.out k hlt
      have hc0 := (hb.cell (p := ⟨bk, o + k, none⟩) hbb).trans hc
      have hle := Hl.out ss[k] (List.getElem_mem _)
      have Htk := Lib.hid (List.take_succ_eq_append_getElem hlt)
      have Hmem := Lib.hid (List.getElem_mem hlt)
      clear hc
      by_cases hbig : 524288 < ss[k].length
      · have Hno := Lib.hid (show P.fok ss = false by
          cases h : P.fok ss with
          | false => rfl
          | true => have := (P.fok_iff ss).1 h _ Hmem.out; omega)
        generalize ss[k] = s at *
        go_wp2
        exact bodyPost_ret (v := .tuple #[S [], .int .i64 3]) (by simp [results, Tryd.results10, go_sem]) rfl ⟨by unfold P.fbytes P.ferr; rw [Hno.out]; rfl, hb⟩
      · have hall' : ∀ r ∈ ss.take (k + 1), r.length ≤ 524288 := by
          intro r hr
          rw [Htk.out] at hr
          rcases List.mem_append.1 hr with hr | hr
          · exact hall r hr
          · obtain rfl := List.mem_singleton.1 hr
            omega
        have Hfr := Lib.hid (show P.frames (ss.take (k + 1)) = P.frames (ss.take k) ++ P.frame ss[k] by rw [Htk.out, P.frames_snoc])
        have hfl := P.frames_len _ hall
        have hfl2 : (P.frames (ss.take k)).length ≤ 10000000000 := by simp at hfl; omega
        have Hall := Lib.hid hall'
        generalize ss[k] = s at *
        have hsb : s.length ≤ 524288 := by omega
        have HP := Lib.hid (fun wx (hx : Bld wx w.heap.size w.heap.size (P.frames (ss.take k))) hB ht => putF_any s (P.frames (ss.take k)) w.heap.size w.heap.size wx hx hsb (by omega) hB hB0 ht)
        generalize P.frames (ss.take k) = l at *
        clear hall hall' hfl
        go_wp2_with (go_at_call 18; (with_reducible refine (HP.out _ hbld hbs (Ht.out.below hb hB0)).mono ?_); rintro e w1 ⟨rfl, hbld1, hb1⟩)
        go_roundw
        case rel => exact ⟨k + 1, by omega, by go_num, Hall.out, by rw [Hfr.out]; exact hbld1, hb.trans hb1⟩
        case measure => simp [intOf]; omega
    · obtain rfl : k = ss.length := by omega
      rw [List.take_length] at hall hbld
      have Hyes := Lib.hid ((P.fok_iff ss).2 hall)
      have Hf := Lib.hid (show P.fbytes ss = P.frames ss ∧ P.ferr ss = 0 by unfold P.fbytes P.ferr; rw [Hyes.out]; exact ⟨rfl, rfl⟩)
      have HS := Lib.hid (fun wx hx hB => string_any w.heap.size w.heap.size (P.frames ss) wx hx hB)
      generalize P.frames ss = l at *
      go_wp2_with (go_at_call 19; (with_reducible refine (HS.out _ hbld hbs).mono ?_); rintro e w1 ⟨rfl, hb1⟩)
      exact bodyPost_ret (v := .tuple #[S l, .int .i64 0]) (by simp [results, Tryd.results10, go_sem]) rfl ⟨by rw [Hf.out.1, Hf.out.2]; rfl, hb.trans hb1⟩
end Go.Proofs.YtmfabbncoekjhaaDoor
