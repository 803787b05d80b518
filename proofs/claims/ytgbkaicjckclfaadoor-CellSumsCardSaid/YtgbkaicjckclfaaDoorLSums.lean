/- CellSums: the sum of any texts is the document's, of them as one. The walk of the law. -/
import Derived.Test.YtgbkaicjckclfaaDoorWAwake
import Derived.Test.YtgbkaicjckclfaaDoorWCrcR
namespace Go.Proofs.YtgbkaicjckclfaaDoor
open Go.RowKit

attribute [local go_sem] ByteArray.mk_append_mk n32_beq

set_option maxHeartbeats 1000000 in
theorem law_sums (a : Option Addr) (c : Nat) (ps : List (List UInt8)) (w : World) (hn : ps.length ≤ 9223372036854775807) (hl : ∀ l ∈ ps, l.length ≤ 9223372036854775807) (hp : StrsAt w a ps) (ht : TabOk w) :
    Calls Tryd.prog 4 #[.slice a ps.length c] w fun e w' => e = .returned (.bool true) ∧ Below w.heap.size w w' := by
  have Hl := Lib.hid hl
  clear hl
  by_cases h30 : (30 : Int) < (ps.length : Int)
  · go_enter Tryd.func4, Tryd.ntmps4
    go_wp2_with (go_at_call 12; refine (awake_any _ ht).mono ?_; rintro e w1 ⟨rfl, hb1⟩)
    go_ret
    exact ⟨rfl, hb1⟩
  · go_enter Tryd.func4, Tryd.ntmps4
    go_wp2_with fail
    go_loop [3, 4] (fun s i => ∃ k : Nat, k ≤ ps.length ∧ i = .int .i64 k ∧ s = S (ps.take k).flatten) (fun _ i => ps.length - (intOf i).toNat)
    case atStart => exact ⟨0, by omega, rfl, rfl⟩
    case round =>
      obtain ⟨k, hk, rfl, rfl⟩ := hrel
      by_cases hlt : k < ps.length
      · obtain ⟨b, o, rfl, hb, hc⟩ := hp k hlt
        have Hnext := Lib.hid (show (ps.take (k + 1)).flatten = (ps.take k).flatten ++ ps[k] by
          rw [List.take_succ_eq_append_getElem hlt, List.flatten_append]; simp)
        generalize (ps.take k).flatten = acc at *
        generalize ps[k] = l at *
        by_cases h1 : (3000 : Int) < (l.length : Int)
        · go_wp2_with (go_at_call 12; refine (awake_any _ ht).mono ?_; rintro e w1 ⟨rfl, hb1⟩)
          go_ret
          exact ⟨rfl, hb1⟩
        · by_cases h2 : (3000 : Int) < (acc.length : Int)
          · go_wp2_with (go_at_call 12; refine (awake_any _ ht).mono ?_; rintro e w1 ⟨rfl, hb1⟩)
            go_ret
            exact ⟨rfl, hb1⟩
          · go_wp2_with fail
            go_round
            case rel => exact ⟨k + 1, by omega, by go_num, by rw [Hnext.out]⟩
            case measure => simp [intOf]; omega
      · obtain rfl : k = ps.length := by omega
        rw [List.take_length]
        by_cases h3 : (3000 : Int) < (ps.flatten.length : Int)
        · generalize ps.flatten = all at *
          go_wp2_with (go_at_call 12; refine (awake_any _ ht).mono ?_; rintro e w1 ⟨rfl, hb1⟩)
          go_ret
          exact ⟨rfl, hb1⟩
        · have hC := Lib.hid (crc_any a c ps w hn Hl.out hp ht)
          have hfl : ps.flatten.length ≤ 9223372036854775807 := by omega
          generalize ps.flatten = all at *
          go_wp2_with (first
            | (go_at_call 11; refine (Hid.out hC).mono ?_; rintro e w1 ⟨rfl, hb1⟩; have ht1 := ht.up hb1)
            | (go_at_call 13; refine (refCrc_any all _ hfl).mono ?_; rintro e w2 ⟨rfl, hb2⟩; have ht2 := ht1.up hb2)
            | (go_at_call 12; refine (awake_any _ ht2).mono ?_; rintro e w3 ⟨rfl, hb3⟩))
          go_ret
          exact ⟨rfl, (hb1.trans (hb2.mono hb1.size)).trans (hb3.mono (Nat.le_trans hb1.size hb2.size))⟩
end Go.Proofs.YtgbkaicjckclfaaDoor
