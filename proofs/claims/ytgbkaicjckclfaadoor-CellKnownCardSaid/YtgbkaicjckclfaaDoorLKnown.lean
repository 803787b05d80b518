/- CellKnown: the chapter's examples. The walk of the law. -/
import Derived.Test.YtgbkaicjckclfaaDoorLBack
import Derived.Test.YtgbkaicjckclfaaDoorWChain
namespace Go.Proofs.YtgbkaicjckclfaaDoor
open Go.RowKit
set_option linter.unusedVariables false

abbrev room : List UInt8 := [97, 98, 99, 100, 101, 102, 103, 104, 105, 106, 107, 108, 109, 110, 111, 112, 113, 114, 115, 116, 117, 118, 119, 120]
def known1 : List UInt8 := P.bytesOf ⟨true, true, 0, []⟩
def known2 : List UInt8 := P.bytesOf ⟨false, false, 258, room⟩
theorem known1_len : known1.length = 32 := P.bytesOf_length _ (by decide)
theorem known2_len : known2.length = 32 := P.bytesOf_length _ (by decide)
theorem known1_at : ∀ i : Fin 28, P.at_ known1 i.val = if i.val = 0 then 67 else 0 := by decide
theorem known2_take : known2.take 28 = [64, 24, 2, 1] ++ room := by
  show (P.bodyOf ⟨false, false, 258, room⟩ ++ P.le32 (P.crc (P.bodyOf ⟨false, false, 258, room⟩))).take 28 = _
  rw [List.take_append_of_le_length (by decide)]
  decide
theorem make_one (w : World) (ht : TabOk w) : Calls Tryd.prog 10 #[.agg #[.bool true, .bool true, .int .i64 0, S []]] w fun e w' => e = .returned (.tuple #[S known1, .int .i64 0]) ∧ Below w.heap.size w w' :=
  make_yes true true 0 [] w (by decide) ht
theorem make_two (w : World) (ht : TabOk w) : Calls Tryd.prog 10 #[.agg #[.bool false, .bool false, .int .i64 258, S room]] w fun e w' => e = .returned (.tuple #[S known2, .int .i64 0]) ∧ Below w.heap.size w w' :=
  make_yes false false 258 room w (by decide) ht
theorem make_bad0 (w : World) : Calls Tryd.prog 10 #[.agg #[.bool true, .bool false, .int .i64 0, S [97, 98]]] w fun e w' => e = .returned (.tuple #[S [], .int .i64 1]) ∧ Below w.heap.size w w' :=
  make_no true false 0 [97, 98] w (by simp) (by decide)
theorem make_bad1 (w : World) : Calls Tryd.prog 10 #[.agg #[.bool false, .bool true, .int .i64 0, S [97, 98]]] w fun e w' => e = .returned (.tuple #[S [], .int .i64 1]) ∧ Below w.heap.size w w' :=
  make_no false true 0 [97, 98] w (by simp) (by decide)
theorem make_bad2 (w : World) : Calls Tryd.prog 10 #[.agg #[.bool false, .bool true, .int .i64 3, S []]] w fun e w' => e = .returned (.tuple #[S [], .int .i64 1]) ∧ Below w.heap.size w w' :=
  make_no false true 3 [] w (by simp) (by decide)
theorem make_bad3 (w : World) : Calls Tryd.prog 10 #[.agg #[.bool true, .bool true, .int .i64 0, S [97, 98, 99, 100, 101, 102, 103, 104, 105, 106, 107, 108, 109, 110, 111, 112, 113, 114, 115, 116, 117, 118, 119, 120, 121]]] w fun e w' => e = .returned (.tuple #[S [], .int .i64 1]) ∧ Below w.heap.size w w' :=
  make_no true true 0 [97, 98, 99, 100, 101, 102, 103, 104, 105, 106, 107, 108, 109, 110, 111, 112, 113, 114, 115, 116, 117, 118, 119, 120, 121] w (by simp) (by decide)
theorem make_bad4 (w : World) : Calls Tryd.prog 10 #[.agg #[.bool true, .bool false, .int .i64 1, S [97, 98, 99, 100, 101, 102, 103, 104, 105, 106, 107, 108, 109, 110, 111, 112, 113, 114, 115, 116, 117, 118, 119, 120]]] w fun e w' => e = .returned (.tuple #[S [], .int .i64 1]) ∧ Below w.heap.size w w' :=
  make_no true false 1 [97, 98, 99, 100, 101, 102, 103, 104, 105, 106, 107, 108, 109, 110, 111, 112, 113, 114, 115, 116, 117, 118, 119, 120] w (by simp) (by decide)
theorem make_bad5 (w : World) : Calls Tryd.prog 10 #[.agg #[.bool false, .bool false, .int .i64 65536, S [97, 98, 99, 100, 101, 102, 103, 104, 105, 106, 107, 108, 109, 110, 111, 112, 113, 114, 115, 116, 117, 118, 119, 120]]] w fun e w' => e = .returned (.tuple #[S [], .int .i64 1]) ∧ Below w.heap.size w w' :=
  make_no false false 65536 [97, 98, 99, 100, 101, 102, 103, 104, 105, 106, 107, 108, 109, 110, 111, 112, 113, 114, 115, 116, 117, 118, 119, 120] w (by simp) (by decide)
theorem make_bad6 (w : World) : Calls Tryd.prog 10 #[.agg #[.bool false, .bool false, .int .i64 (-1), S [97, 98, 99, 100, 101, 102, 103, 104, 105, 106, 107, 108, 109, 110, 111, 112, 113, 114, 115, 116, 117, 118, 119, 120]]] w fun e w' => e = .returned (.tuple #[S [], .int .i64 1]) ∧ Below w.heap.size w w' :=
  make_no false false (-1) [97, 98, 99, 100, 101, 102, 103, 104, 105, 106, 107, 108, 109, 110, 111, 112, 113, 114, 115, 116, 117, 118, 119, 120] w (by simp) (by decide)

theorem crc_nil (c : Nat) (w : World) (ht : TabOk w) : Calls Tryd.prog 11 #[.slice none 0 c] w fun e w' => e = .returned (W32 0#32) ∧ Below w.heap.size w w' := by
  have h := crc_any none c [] w (by simp) (by simp) (fun i hi => by simp at hi) ht
  rw [show P.crc ([] : List (List UInt8)).flatten = 0#32 by decide] at h
  exact h
theorem at_know (i : Nat) (h : i < 28) (h1 : 1 ≤ i) : P.at_ known1 i = 0 := by
  have := known1_at ⟨i, h⟩
  simpa [show i ≠ 0 by omega] using this

attribute [local go_sem] str_takeN str_at ByteArray.mk_append_mk

set_option maxRecDepth 100000 in
set_option maxHeartbeats 4000000 in
theorem law_known (w : World) (ht : TabOk w) :
    Calls Tryd.prog 3 #[] w fun e w' => e = .returned (.bool true) ∧ Below w.heap.size w w' := by
  go_enter Tryd.func3, Tryd.ntmps3
  go_wp2_with fail
  generalize hW : w.alloc _ = W
  have hbW : Below w.heap.size w W := by rw [← hW]; exact (Below.refl _ _).alloc (Nat.le_refl _) _
  have hsW : w.heap.size < W.heap.size := by rw [← hW]; simp
  have hcW : ∀ i, W.cell? ⟨w.heap.size, i, none⟩ = (#[.bool true, .bool false, .int .i64 0, S [97, 98], .bool false, .bool true, .int .i64 0, S [97, 98], .bool false, .bool true, .int .i64 3, S [], .bool true, .bool true, .int .i64 0, S [97, 98, 99, 100, 101, 102, 103, 104, 105, 106, 107, 108, 109, 110, 111, 112, 113, 114, 115, 116, 117, 118, 119, 120, 121], .bool true, .bool false, .int .i64 1, S [97, 98, 99, 100, 101, 102, 103, 104, 105, 106, 107, 108, 109, 110, 111, 112, 113, 114, 115, 116, 117, 118, 119, 120], .bool false, .bool false, .int .i64 65536, S [97, 98, 99, 100, 101, 102, 103, 104, 105, 106, 107, 108, 109, 110, 111, 112, 113, 114, 115, 116, 117, 118, 119, 120], .bool false, .bool false, .int .i64 (-1), S [97, 98, 99, 100, 101, 102, 103, 104, 105, 106, 107, 108, 109, 110, 111, 112, 113, 114, 115, 116, 117, 118, 119, 120]] : Array Value)[i]? := fun i => by rw [← hW, World.cell?_alloc_new]
  clear hW
  have Hc := Lib.hid hcW
  have Hb := Lib.hid hbW
  have Hs := Lib.hid hsW
  clear hcW hbW hsW
  go_loopw [3] (fun i wr => ∃ k : Nat, k ≤ 7 ∧ i = .int .i64 k ∧ Below W.heap.size W wr) (fun i _ => 7 - (intOf i).toNat)
  case atStart => exact ⟨0, by omega, rfl, Below.refl _ _⟩
  case round =>
    obtain ⟨k, hk, rfl, hb⟩ := hrel
    obtain rfl | rfl | rfl | rfl | rfl | rfl | rfl | rfl : k = 0 ∨ k = 1 ∨ k = 2 ∨ k = 3 ∨ k = 4 ∨ k = 5 ∨ k = 6 ∨ k = 7 := by omega
    · have H := Lib.hid (fun w => make_bad0 w)
      have c0 : wr.cell? ⟨w.heap.size, 0, none⟩ = some (.bool true) := (hb.cell (p := ⟨w.heap.size, 0, none⟩) Hs.out).trans (Hc.out 0)
      have c1 : wr.cell? ⟨w.heap.size, 1, none⟩ = some (.bool false) := (hb.cell (p := ⟨w.heap.size, 1, none⟩) Hs.out).trans (Hc.out 1)
      have c2 : wr.cell? ⟨w.heap.size, 2, none⟩ = some (.int .i64 0) := (hb.cell (p := ⟨w.heap.size, 2, none⟩) Hs.out).trans (Hc.out 2)
      have c3 : wr.cell? ⟨w.heap.size, 3, none⟩ = some (S [97, 98]) := (hb.cell (p := ⟨w.heap.size, 3, none⟩) Hs.out).trans (Hc.out 3)
      go_wp2_with (go_at_call 10; (with_reducible refine (H.out _).mono ?_); rintro e w2 ⟨rfl, hb2⟩)
      go_roundw
      case rel => exact ⟨1, by omega, by go_num, Chain.up hb hb2⟩
      case measure => simp [intOf]
    · have H := Lib.hid (fun w => make_bad1 w)
      have c0 : wr.cell? ⟨w.heap.size, 4, none⟩ = some (.bool false) := (hb.cell (p := ⟨w.heap.size, 4, none⟩) Hs.out).trans (Hc.out 4)
      have c1 : wr.cell? ⟨w.heap.size, 5, none⟩ = some (.bool true) := (hb.cell (p := ⟨w.heap.size, 5, none⟩) Hs.out).trans (Hc.out 5)
      have c2 : wr.cell? ⟨w.heap.size, 6, none⟩ = some (.int .i64 0) := (hb.cell (p := ⟨w.heap.size, 6, none⟩) Hs.out).trans (Hc.out 6)
      have c3 : wr.cell? ⟨w.heap.size, 7, none⟩ = some (S [97, 98]) := (hb.cell (p := ⟨w.heap.size, 7, none⟩) Hs.out).trans (Hc.out 7)
      go_wp2_with (go_at_call 10; (with_reducible refine (H.out _).mono ?_); rintro e w2 ⟨rfl, hb2⟩)
      go_roundw
      case rel => exact ⟨2, by omega, by go_num, Chain.up hb hb2⟩
      case measure => simp [intOf]
    · have H := Lib.hid (fun w => make_bad2 w)
      have c0 : wr.cell? ⟨w.heap.size, 8, none⟩ = some (.bool false) := (hb.cell (p := ⟨w.heap.size, 8, none⟩) Hs.out).trans (Hc.out 8)
      have c1 : wr.cell? ⟨w.heap.size, 9, none⟩ = some (.bool true) := (hb.cell (p := ⟨w.heap.size, 9, none⟩) Hs.out).trans (Hc.out 9)
      have c2 : wr.cell? ⟨w.heap.size, 10, none⟩ = some (.int .i64 3) := (hb.cell (p := ⟨w.heap.size, 10, none⟩) Hs.out).trans (Hc.out 10)
      have c3 : wr.cell? ⟨w.heap.size, 11, none⟩ = some (S []) := (hb.cell (p := ⟨w.heap.size, 11, none⟩) Hs.out).trans (Hc.out 11)
      go_wp2_with (go_at_call 10; (with_reducible refine (H.out _).mono ?_); rintro e w2 ⟨rfl, hb2⟩)
      go_roundw
      case rel => exact ⟨3, by omega, by go_num, Chain.up hb hb2⟩
      case measure => simp [intOf]
    · have H := Lib.hid (fun w => make_bad3 w)
      have c0 : wr.cell? ⟨w.heap.size, 12, none⟩ = some (.bool true) := (hb.cell (p := ⟨w.heap.size, 12, none⟩) Hs.out).trans (Hc.out 12)
      have c1 : wr.cell? ⟨w.heap.size, 13, none⟩ = some (.bool true) := (hb.cell (p := ⟨w.heap.size, 13, none⟩) Hs.out).trans (Hc.out 13)
      have c2 : wr.cell? ⟨w.heap.size, 14, none⟩ = some (.int .i64 0) := (hb.cell (p := ⟨w.heap.size, 14, none⟩) Hs.out).trans (Hc.out 14)
      have c3 : wr.cell? ⟨w.heap.size, 15, none⟩ = some (S [97, 98, 99, 100, 101, 102, 103, 104, 105, 106, 107, 108, 109, 110, 111, 112, 113, 114, 115, 116, 117, 118, 119, 120, 121]) := (hb.cell (p := ⟨w.heap.size, 15, none⟩) Hs.out).trans (Hc.out 15)
      go_wp2_with (go_at_call 10; (with_reducible refine (H.out _).mono ?_); rintro e w2 ⟨rfl, hb2⟩)
      go_roundw
      case rel => exact ⟨4, by omega, by go_num, Chain.up hb hb2⟩
      case measure => simp [intOf]
    · have H := Lib.hid (fun w => make_bad4 w)
      have c0 : wr.cell? ⟨w.heap.size, 16, none⟩ = some (.bool true) := (hb.cell (p := ⟨w.heap.size, 16, none⟩) Hs.out).trans (Hc.out 16)
      have c1 : wr.cell? ⟨w.heap.size, 17, none⟩ = some (.bool false) := (hb.cell (p := ⟨w.heap.size, 17, none⟩) Hs.out).trans (Hc.out 17)
      have c2 : wr.cell? ⟨w.heap.size, 18, none⟩ = some (.int .i64 1) := (hb.cell (p := ⟨w.heap.size, 18, none⟩) Hs.out).trans (Hc.out 18)
      have c3 : wr.cell? ⟨w.heap.size, 19, none⟩ = some (S [97, 98, 99, 100, 101, 102, 103, 104, 105, 106, 107, 108, 109, 110, 111, 112, 113, 114, 115, 116, 117, 118, 119, 120]) := (hb.cell (p := ⟨w.heap.size, 19, none⟩) Hs.out).trans (Hc.out 19)
      go_wp2_with (go_at_call 10; (with_reducible refine (H.out _).mono ?_); rintro e w2 ⟨rfl, hb2⟩)
      go_roundw
      case rel => exact ⟨5, by omega, by go_num, Chain.up hb hb2⟩
      case measure => simp [intOf]
    · have H := Lib.hid (fun w => make_bad5 w)
      have c0 : wr.cell? ⟨w.heap.size, 20, none⟩ = some (.bool false) := (hb.cell (p := ⟨w.heap.size, 20, none⟩) Hs.out).trans (Hc.out 20)
      have c1 : wr.cell? ⟨w.heap.size, 21, none⟩ = some (.bool false) := (hb.cell (p := ⟨w.heap.size, 21, none⟩) Hs.out).trans (Hc.out 21)
      have c2 : wr.cell? ⟨w.heap.size, 22, none⟩ = some (.int .i64 65536) := (hb.cell (p := ⟨w.heap.size, 22, none⟩) Hs.out).trans (Hc.out 22)
      have c3 : wr.cell? ⟨w.heap.size, 23, none⟩ = some (S [97, 98, 99, 100, 101, 102, 103, 104, 105, 106, 107, 108, 109, 110, 111, 112, 113, 114, 115, 116, 117, 118, 119, 120]) := (hb.cell (p := ⟨w.heap.size, 23, none⟩) Hs.out).trans (Hc.out 23)
      go_wp2_with (go_at_call 10; (with_reducible refine (H.out _).mono ?_); rintro e w2 ⟨rfl, hb2⟩)
      go_roundw
      case rel => exact ⟨6, by omega, by go_num, Chain.up hb hb2⟩
      case measure => simp [intOf]
    · have H := Lib.hid (fun w => make_bad6 w)
      have c0 : wr.cell? ⟨w.heap.size, 24, none⟩ = some (.bool false) := (hb.cell (p := ⟨w.heap.size, 24, none⟩) Hs.out).trans (Hc.out 24)
      have c1 : wr.cell? ⟨w.heap.size, 25, none⟩ = some (.bool false) := (hb.cell (p := ⟨w.heap.size, 25, none⟩) Hs.out).trans (Hc.out 25)
      have c2 : wr.cell? ⟨w.heap.size, 26, none⟩ = some (.int .i64 (-1)) := (hb.cell (p := ⟨w.heap.size, 26, none⟩) Hs.out).trans (Hc.out 26)
      have c3 : wr.cell? ⟨w.heap.size, 27, none⟩ = some (S [97, 98, 99, 100, 101, 102, 103, 104, 105, 106, 107, 108, 109, 110, 111, 112, 113, 114, 115, 116, 117, 118, 119, 120]) := (hb.cell (p := ⟨w.heap.size, 27, none⟩) Hs.out).trans (Hc.out 27)
      go_wp2_with (go_at_call 10; (with_reducible refine (H.out _).mono ?_); rintro e w2 ⟨rfl, hb2⟩)
      go_roundw
      case rel => exact ⟨7, by omega, by go_num, Chain.up hb hb2⟩
      case measure => simp [intOf]
    · have h1 := Chain.up Hb.out hb
      have l1 := known1_len
      have l2 := known2_len
      have l1i : (known1.length : Int) = 32 := by omega
      have l2i : (known2.length : Int) = 32 := by omega
      have a0 : (P.at_ known1 0 : Int) = 67 := by decide
      have tk := known2_take
      have tkb : (known2.take 28 == [64, 24, 2, 1] ++ room) = true := by rw [tk]; simp
      clear hb
      go_wp2_with (first
        | (go_at_call 10; (with_reducible refine (make_one _ (ht.up h1)).mono ?_); rintro e w2 ⟨rfl, hb2⟩; have h2 := Chain.up h1 hb2; clear hb2)
        | (go_at_call 10; (with_reducible refine (make_two _ (ht.up h2)).mono ?_); rintro e w3 ⟨rfl, hb3⟩; have h3 := Chain.up h2 hb3; clear hb3))
      go_loopw [10] (fun i wr => ∃ k : Nat, 1 ≤ k ∧ k ≤ 28 ∧ i = .int .i64 k ∧ Below w.heap.size w wr) (fun i _ => 28 - (intOf i).toNat)
      case atStart => exact ⟨1, by omega, by omega, rfl, h3⟩
      case round =>
        clear h1 h2 h3
        obtain ⟨k, hk1, hk2, rfl, hb⟩ := hrel
        by_cases h28 : k < 28
        · have hz := at_know k h28 hk1
          have hzi : (P.at_ known1 k : Int) = 0 := by omega
          have hki : (k : Int) < (known1.length : Int) := by omega
          go_wp2
          go_roundw
          case rel => exact ⟨k + 1, by omega, by omega, by go_num, hb⟩
          case measure => simp [intOf]; omega
        · obtain rfl : k = 28 := by omega
          have hnine := crc_nine
          have hz0 : (n32 0#32 == 0) = true := by decide
          have H3 := Lib.hid (fun w ht => crc_one [] 9 w (by simp) ht)
          rw [show P.crc ([] : List UInt8) = 0#32 by decide] at H3
          have H1 := Lib.hid (fun w ht => crc_one [49, 50, 51, 52, 53, 54, 55, 56, 57] 9 w (by simp) ht)
          generalize P.crc [49, 50, 51, 52, 53, 54, 55, 56, 57] = nine at *
          go_wp2_with (first
            | (go_at_call 11; (with_reducible refine (crc_nil _ _ (ht.up h4)).mono ?_); rintro e w5 ⟨rfl, hb5⟩; have h5 := Chain.up h4 hb5; clear hb5)
            | (go_at_call 11; (with_reducible refine (H3.out _ (ht.up h5)).mono ?_); rintro e w6 ⟨rfl, hb6⟩; have h6 := Chain.up h5 hb6; clear hb6)
            | (go_at_call 11; (with_reducible refine (H1.out _ (ht.up hb)).mono ?_); rintro e w4 ⟨rfl, hb4⟩; have h4 := Chain.up hb hb4; clear hb4)
            | (go_at_call 12; (with_reducible refine (awake_any _ (ht.up h6)).mono ?_); rintro e w7 ⟨rfl, hb7⟩))
          go_ret
          exact ⟨rfl, Chain.up h6 hb7⟩
end Go.Proofs.YtgbkaicjckclfaaDoor
