/- The walk of frame.Read: the records that are whole. -/
import Derived.Test.YtmfabbncoekjhaaDoorWFrameO
import Derived.Test.YtmfabbncoekjhaaDoorWOwnS
namespace Go.Proofs.YtmfabbncoekjhaaDoor
open Go.RowKit
set_option linter.unusedVariables false

attribute [local go_sem] str_takeN str_dropN

set_option maxRecDepth 100000 in
set_option maxHeartbeats 4000000 in
theorem readF_any (s : List UInt8) (w : World) (hs : s.length ≤ 100000000000) (ht : TabOk w) :
    Calls Tryd.prog 11 #[S s] w fun e w' => ∃ a c, e = .returned (.tuple #[.slice a (P.recs s).length c, .int .i64 (P.whole s)]) ∧ StrsAt w' a (P.recs s) ∧ Below w.heap.size w w' := by
  have hB0 : 0 < w.heap.size := ht.1
  have Ht := Lib.hid ht
  clear ht
  go_enter Tryd.func11, Tryd.ntmps11
  go_wp2
  go_loopw [2, 3] (fun v z wr => ∃ (l : List (List UInt8)) (k : Nat), OwnS wr w.heap.size v l ∧ z = .int .i64 k ∧ k ≤ s.length ∧ P.frames l = s.take k ∧ (∀ r ∈ l, r.length ≤ 524288) ∧ l.length ≤ k ∧ Below w.heap.size w wr) (fun _ z _ => s.length - (intOf z).toNat)
  case atStart => exact ⟨[], 0, ownS_nil _ _, rfl, by omega, by simp [P.frames], fun r hr => by simp at hr, by simp, Below.refl _ _⟩
  case round =>
    obtain ⟨l, k, hown, rfl, hk, hfr, hall, hlk, hb⟩ := hrel
    have hki : (0 : Int) ≤ (k : Int) ∧ (k : Int) ≤ (s.length : Int) := by omega
    have HO := Lib.hid (fun wx hx => oneF_any (s.drop k) wx (by simp; omega) hx)
    have Hfr := Lib.hid hfr
    have Hall := Lib.hid hall
    clear hfr hall
    cases ho : P.one (s.drop k) with
    | none =>
      have Hw := Lib.hid (P.Whole.eq (show P.Whole s l k from ⟨hk, Hfr.out, ho, Hall.out⟩))
      rw [(P.one_no ho).1, (P.one_no ho).2] at HO
      clear ho
      obtain ⟨a, c, hv, hst⟩ := hown.is
      subst hv
      go_wp2_with (go_at_call 20; (with_reducible refine (HO.out _ (Ht.out.below hb hB0)).mono ?_); rintro e w1 ⟨rfl, hb1⟩)
      exact bodyPost_ret (v := .tuple #[.slice a l.length c, .int .i64 k]) (by simp [results, Tryd.results11, go_sem]) rfl ⟨a, c, by rw [Hw.out.1, Hw.out.2], by rw [Hw.out.1]; exact hst.up hb1, Chain.up hb hb1⟩
    | some q =>
      obtain ⟨r, m⟩ := q
      obtain ⟨hm0, hm1, hm2, hm3⟩ := P.frame_one _ r m ho
      rw [(P.one_is ho).1, (P.one_is ho).2] at HO
      have Hfr2 := Lib.hid (show P.frames (l ++ [r]) = s.take (k + 32 * m) by rw [P.frames_snoc, Hfr.out, hm2, List.take_add])
      have hm4 : 32 * m ≤ s.length - k := by simpa using hm1
      clear ho hm2 hm1
      generalize hz : 32 * m = z at *
      have hz0 : 0 < z := by omega
      have hzi : (0 : Int) < (z : Int) := by omega
      obtain ⟨a, c, hv, hst⟩ := hown.is
      have hbl : l.length < 1000000000000 := by omega
      clear hv hst
      go_wp2_with (first
        | (go_at_call 20; (with_reducible refine (HO.out _ (Ht.out.below hb hB0)).mono ?_); rintro e w1 ⟨rfl, hb1⟩; have hown1 := hown.up hb1; have hb2 := Chain.up hb hb1)
        | (at_builtin; refine wpList_pushS (by rfl) _ _ (by rfl) w.heap.size _ l r (by rfl) hown1 hbl (by rfl) hb2.size ?_; intro v' w3 hown3 hb3))
      go_roundw
      case rel => exact ⟨l ++ [r], k + z, hown3, congrArg (Value.int .i64) (by omega), by omega, Hfr2.out, fun q hq => by
        rcases List.mem_append.1 hq with hq | hq
        · exact Hall.out q hq
        · obtain rfl := List.mem_singleton.1 hq; exact hm3, by simp; omega, hb2.trans hb3⟩
      case measure => simp [intOf]; omega
end Go.Proofs.YtmfabbncoekjhaaDoor
