/- The walk of NumKnown: it answers true. -/
import Derived.Test.YtifpdmkadgchjaaWTextsR
namespace Go.Proofs.Ytifpdmkadgchjaa
open Go.RowKit
set_option linter.unusedVariables false

def badRows : List (List UInt8) := [[248, 247], [249, 0, 255], [249, 1], []]
theorem bad_all (i : Nat) (h : i < 4) : P.rNum (badRows.getD i []) = 0 ∧ P.rSize (badRows.getD i []) = 0 ∧ P.rOk (badRows.getD i []) = false ∧ (badRows.getD i []).length ≤ 3 := by
  rcases i with _ | _ | _ | _ | i
  · decide
  · decide
  · decide
  · decide
  · omega
theorem known_var : P.vars [0, 247, 248, 256, 18446744073709551615] = [0, 247, 248, 248, 249, 1, 0, 255, 255, 255, 255, 255, 255, 255, 255, 255] := by decide
theorem known_big : P.bigE 256 1 = 3 ∧ P.bigE 0 9 = 1 := by decide
theorem known_text : P.tOk [2, 97, 98] 1 = false ∧ P.tOk [2, 97] 9 = false ∧ P.texts [[97, 98], []] = [2, 97, 98, 0] := by decide

theorem known_cells : (#[.int .u64 0, .int .u64 247, .int .u64 248, .int .u64 256, .int .u64 18446744073709551615] : Array Value) = (([0, 247, 248, 256, 18446744073709551615] : List Nat).map V64).toArray := by
  simp [V64]
theorem known_lt : ∀ n ∈ ([0, 247, 248, 256, 18446744073709551615] : List Nat), n < 18446744073709551616 := by
  intro n hn
  simp only [List.mem_cons, List.not_mem_nil, or_false] at hn
  omega
theorem known_call (w : World) : Calls Try.prog 17 #[.slice (some ⟨w.heap.size, 0, none⟩) 5 5] (w.alloc (.cells #[.int .u64 0, .int .u64 247, .int .u64 248, .int .u64 256, .int .u64 18446744073709551615] 22)) fun e w' => e = .returned (S [0, 247, 248, 248, 249, 1, 0, 255, 255, 255, 255, 255, 255, 255, 255, 255]) ∧ Below (w.heap.size + 1) (w.alloc (.cells #[.int .u64 0, .int .u64 247, .int .u64 248, .int .u64 256, .int .u64 18446744073709551615] 22)) w' := by
  have h := var_any (some ⟨w.heap.size, 0, none⟩) 5 [0, 247, 248, 256, 18446744073709551615] (w.alloc (.cells #[.int .u64 0, .int .u64 247, .int .u64 248, .int .u64 256, .int .u64 18446744073709551615] 22)) (by simp) known_lt (nums_new w _ _ _ known_cells)
  rw [known_var] at h
  simpa using h
theorem known_nil (w : World) : Calls Try.prog 17 #[.slice none 0 0] w fun e w' => e = .returned (S []) ∧ Below w.heap.size w w' :=
  var_any none 0 [] w (by simp) (by simp) (fun i hi => by simp at hi)

theorem bad_cell (w : World) (t : TypeId) (i : Nat) (h : i < 4) : (w.alloc (.cells (badRows.map S).toArray t)).cell? ⟨w.heap.size, i, none⟩ = some (S (badRows.getD i [])) := by
  rw [World.cell?_alloc_new]
  rcases i with _ | _ | _ | _ | i
  · rfl
  · rfl
  · rfl
  · rfl
  · omega
theorem bad_read (i : Nat) (h : i < 4) (w : World) : Calls Try.prog 10 #[S (badRows.getD i [])] w fun e w' => e = .returned (.tuple #[V64 0, .int .i64 0, .bool false]) ∧ Below w.heap.size w w' := by
  have h1 := bad_all i h
  have h2 := readVar_any (badRows.getD i []) w (by omega)
  rw [h1.1, h1.2.1, h1.2.2.1] at h2
  exact h2
theorem known_b1 (w : World) : Calls Try.prog 18 #[.int .u64 256, .int .i64 1] w fun e w' => e = .returned (.tuple #[S (P.bigS 256 1), .int .i64 3]) ∧ Below w.heap.size w w' := by
  have h := bigPut_any 256 1 w (by omega) (by omega) (by omega)
  rw [known_big.1] at h
  exact h
theorem known_b2 (w : World) : Calls Try.prog 18 #[.int .u64 0, .int .i64 9] w fun e w' => e = .returned (.tuple #[S (P.bigS 0 9), .int .i64 1]) ∧ Below w.heap.size w w' := by
  have h := bigPut_any 0 9 w (by omega) (by omega) (by omega)
  rw [known_big.2] at h
  exact h
theorem known_r1 (w : World) : Calls Try.prog 14 #[S [2, 97, 98], .int .i64 1] w fun e w' => e = .returned (.tuple #[S (P.tText [2, 97, 98] 1), .int .i64 (P.tSize [2, 97, 98] 1), .bool false]) ∧ Below w.heap.size w w' := by
  have h := readText_any [2, 97, 98] 1 w (by simp) (by omega) (by omega)
  rw [known_text.1] at h
  exact h
theorem known_r2 (w : World) : Calls Try.prog 14 #[S [2, 97], .int .i64 9] w fun e w' => e = .returned (.tuple #[S (P.tText [2, 97] 9), .int .i64 (P.tSize [2, 97] 9), .bool false]) ∧ Below w.heap.size w w' := by
  have h := readText_any [2, 97] 9 w (by simp) (by omega) (by omega)
  rw [known_text.2.1] at h
  exact h
theorem known_t (w : World) : Calls Try.prog 19 #[.slice (some ⟨w.heap.size, 0, none⟩) 2 2] (w.alloc (.cells #[S [97, 98], S []] 9)) fun e w' => e = .returned (S [2, 97, 98, 0]) ∧ Below (w.heap.size + 1) (w.alloc (.cells #[S [97, 98], S []] 9)) w' := by
  have h := texts_any (some ⟨w.heap.size, 0, none⟩) 2 [[97, 98], []] (w.alloc (.cells #[S [97, 98], S []] 9)) (by simp) (by simp [P.total]) (strs_new w _ _ _ rfl)
  rw [known_text.2.2] at h
  simpa using h

set_option maxRecDepth 100000 in
set_option maxHeartbeats 1000000 in
theorem law_known (w : World) : Calls Try.prog 7 #[] w fun e w' => e = .returned (.bool true) ∧ Below w.heap.size w w' := by
  have H1 := Lib.hid known_call
  have H2 := Lib.hid known_nil
  go_enter Try.func7, Try.ntmps7
  go_wp2_with (first
    | (go_at_call 17; (with_reducible refine (H1.out _).mono ?_); rintro e w1 ⟨rfl, hb1⟩)
    | (go_at_call 17; (with_reducible refine (H2.out _).mono ?_); rintro e w2 ⟨rfl, hb2⟩))
  have hc2 : Below w.heap.size w w2 := ((((Below.refl w.heap.size w).alloc (Nat.le_refl _) _).trans (hb1.mono (by omega))).trans (hb2.mono (by have := hb1.size; simp at this; omega)))
  have Hst := Lib.hid (bad_cell w2 9)
  have Hrd := Lib.hid bad_read
  have Hb1 := Lib.hid known_b1
  have Hb2 := Lib.hid known_b2
  have Hr1 := Lib.hid known_r1
  have Hr2 := Lib.hid known_r2
  have Ht := Lib.hid known_t
  go_loopw [25] (fun i wr => ∃ k : Nat, k ≤ 4 ∧ i = .int .i64 k ∧ Below (w2.alloc (.cells (badRows.map S).toArray 9)).heap.size (w2.alloc (.cells (badRows.map S).toArray 9)) wr) (fun i _ => 4 - (intOf i).toNat)
  case atStart => exact ⟨0, by omega, rfl, Below.refl _ _⟩
  case round =>
    obtain ⟨k, hk, rfl, hb⟩ := hrel
    have hbs := hb.size
    simp at hbs
    by_cases h4 : k < 4
    · have hc := (hb.cell (p := ⟨w2.heap.size, k, none⟩) (by simp)).trans (Hst.out k h4)
      have Hrk := Lib.hid (Hrd.out k h4)
      generalize badRows.getD k [] = q at *
      go_wp2_with (go_at_call 10; (with_reducible refine (Hrk.out _).mono ?_); rintro e w3 ⟨rfl, hb3⟩)
      go_roundw
      case rel => exact ⟨k + 1, by omega, by go_num, hb.trans (hb3.mono hb.size)⟩
      case measure => simp [intOf]; omega
    · obtain rfl : k = 4 := by omega
      have hc3 : Below w.heap.size w wr := (hc2.alloc hc2.size _).trans (hb.mono (by have := hc2.size; simp; omega))
      go_wp2_with (first
        | (go_at_call 18; (with_reducible refine (Hb1.out _).mono ?_); rintro e w4 ⟨rfl, hb4⟩)
        | (go_at_call 18; (with_reducible refine (Hb2.out _).mono ?_); rintro e w5 ⟨rfl, hb5⟩)
        | (go_at_call 14; (with_reducible refine (Hr1.out _).mono ?_); rintro e w6 ⟨rfl, hb6⟩)
        | (go_at_call 14; (with_reducible refine (Hr2.out _).mono ?_); rintro e w7 ⟨rfl, hb7⟩)
        | (go_at_call 19; (with_reducible refine (Ht.out _).mono ?_); rintro e w8 ⟨rfl, hb8⟩)
        | (go_at_call 16; (with_reducible refine (awake_any _).mono ?_); rintro e w9 ⟨rfl, hb9⟩))
      go_ret
      have h4 := hb4.size
      have h5 := hb5.size
      have h6 := hb6.size
      have h7 := hb7.size
      have h8 := hb8.size
      have h3 := hc3.size
      simp at h8
      exact ⟨rfl, ((((((hc3.trans (hb4.mono (by omega))).trans (hb5.mono (by omega))).trans (hb6.mono (by omega))).trans (hb7.mono (by omega))).alloc (by omega) _).trans (hb8.mono (by omega))).trans (hb9.mono (by omega))⟩
end Go.Proofs.Ytifpdmkadgchjaa
