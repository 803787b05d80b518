/- The walks of num.Text, the document's Text and Var, Great. -/
import Derived.Test.YtcobfoiajdbahaaDoorWAwakeN
import Derived.Test.YtcobfoiajdbahaaDoorWStrs
import Derived.Test.YtcobfoiajdbahaaDoorPText
import Derived.Deep.RegionWith
namespace Go.Proofs.YtcobfoiajdbahaaDoor
open Go.RowKit
set_option linter.unusedVariables false

attribute [local go_sem] str_app

set_option maxRecDepth 100000 in
set_option maxHeartbeats 2000000 in
theorem texts_any (a : Option Addr) (c : Nat) (ss : List (List UInt8)) (w : World) (hlen : ss.length ≤ 200) (hss : P.total ss ≤ 20000) (hp : StrsAt w a ss) :
    Calls Tryd.prog 74 #[.slice a ss.length c] w fun e w' => e = .returned (S (P.texts ss)) ∧ Below w.heap.size w w' := by
  have Hp := Lib.hid hp
  clear hp
  go_enter Tryd.func74, Tryd.ntmps74
  go_wp2
  go_loopw [3, 8] (fun s i wr => ∃ k : Nat, k ≤ ss.length ∧ i = .int .i64 k ∧ s = S (P.texts (ss.take k)) ∧ Below w.heap.size w wr) (fun _ i _ => ss.length - (intOf i).toNat)
  case atStart => exact ⟨0, by omega, rfl, by simp [P.texts], Below.refl _ _⟩
  case round =>
    obtain ⟨k, hk, rfl, rfl, hb⟩ := hrel
    by_cases hlt : k < ss.length
    · obtain ⟨b, o, rfl, hbb, hc⟩ := Hp.out k hlt
      have hc' := (hb.cell (p := ⟨b, o + k, none⟩) hbb).trans hc
      clear hc
      have Hnx := Lib.hid (show P.texts (ss.take (k + 1)) = P.texts (ss.take k) ++ (P.row ss[k].length ++ ss[k]) by rw [List.take_succ_eq_append_getElem hlt, P.texts_snoc])
      have hl0 : (P.texts (ss.take k)).length ≤ 22000 := by have := P.texts_len (ss.take k); have := P.total_take ss k; rw [List.length_take] at *; omega
      have hl1 : ss[k].length ≤ 20000 := Nat.le_trans (P.mem_total ss _ (List.getElem_mem _)) hss
      generalize P.texts (ss.take k) = q at *
      generalize ss[k] = s at *
      have hrl := P.row_len9 s.length
      have Hvar := Lib.hid (fun (w : World) => var_any (some ⟨w.heap.size, 0, none⟩) 1 [s.length] (w.alloc (.cells #[V64 s.length] 22)) (by simp) (by simp; omega) (nums_new w _ _ _ rfl))
      rw [show P.vars [s.length] = P.row s.length by simp [P.vars]] at Hvar
      generalize P.row s.length = r at *
      go_wp2_with (go_at_call 75; refine (Hvar.out _).mono ?_; rintro e w1 ⟨rfl, hb1⟩)
      go_roundw
      case rel => exact ⟨k + 1, by omega, by go_num, by rw [Hnx.out], (hb.alloc hb.size _).trans (hb1.mono (by have := hb.size; simp; omega))⟩
      case measure => simp [intOf]; omega
    · obtain rfl : k = ss.length := by omega
      rw [List.take_length]
      go_wp2
      go_ret
      exact ⟨rfl, hb⟩

end Go.Proofs.YtcobfoiajdbahaaDoor
