/- FrameWrites: records' frames are the document's. The walk of the law. -/
import Derived.Test.YtmfabbncoekjhaaDoorWRefW
namespace Go.Proofs.YtmfabbncoekjhaaDoor
open Go.RowKit
set_option linter.unusedVariables false

set_option maxRecDepth 100000 in
set_option maxHeartbeats 4000000 in
theorem law_writes (a : Option Addr) (c : Nat) (l : List (List UInt8)) (w : World) (hl9 : l.length ≤ 9223372036854775807) (hls : ∀ r ∈ l, r.length ≤ 9223372036854775807) (hp : StrsAt w a l) (ht : TabOk w) :
    Calls Tryd.prog 5 #[.slice a l.length c] w fun e w' => e = .returned (.bool true) ∧ Below w.heap.size w w' := by
  have HG1 := Lib.hid (great_any a c l w hl9 hp)
  cases hg1 : P.great l with
  | true =>
    rw [hg1] at HG1
    go_enter Tryd.func5, Tryd.ntmps5
    go_wp2_with (first
      | (go_at_call 14; (with_reducible refine (HG1.out).mono ?_); rintro e w1 ⟨rfl, hb1⟩)
      | (go_at_call 13; (with_reducible refine (awake_any _ (ht.up hb1)).mono ?_); rintro e w2 ⟨rfl, hb2⟩))
    go_ret
    exact ⟨rfl, Chain.up hb1 hb2⟩
  | false =>
    rw [hg1] at HG1
    have n1 := P.great_not hg1
    have HW1 := Lib.hid (fun wx (hx : Below w.heap.size w wx) => writeF_any a c l wx (by omega) (hp.up hx) hls (ht.up hx))
    have HW2 := Lib.hid (fun wx (hx : Below w.heap.size w wx) => refWriteF_any a c l wx (by omega) (hp.up hx) hls)
    generalize P.fbytes l = f at *
    generalize P.ferr l = k at *
    clear hp n1 hg1
    go_enter Tryd.func5, Tryd.ntmps5
    go_wp2_with (first
      | (go_at_call 14; (with_reducible refine (HG1.out).mono ?_); rintro e w1 ⟨rfl, hb1⟩)
      | (go_at_call 10; (with_reducible refine (HW1.out _ hb1).mono ?_); rintro e w2 ⟨rfl, hb2⟩; have hc2 := Chain.up hb1 hb2)
      | (go_at_call 15; (with_reducible refine (HW2.out _ hc2).mono ?_); rintro e w3 ⟨rfl, hb3⟩; have hc3 := Chain.up hc2 hb3)
      | (go_at_call 13; (with_reducible refine (awake_any _ (ht.up hc3)).mono ?_); rintro e w4 ⟨rfl, hb4⟩))
    go_ret
    exact ⟨rfl, Chain.up hc3 hb4⟩
end Go.Proofs.YtmfabbncoekjhaaDoor
