/- The walks of num.behind, num.ReadBig and the document's ReadBig. -/
import Derived.Test.YtcobfoiajdbahaaDoorProg
import Derived.Test.YtcobfoiajdbahaaDoorWByte
import Derived.Test.YtcobfoiajdbahaaDoorPNum
import Derived.Test.YtcobfoiajdbahaaDoorShelfLen
namespace Go.Proofs.YtcobfoiajdbahaaDoor
open Go.RowKit
set_option linter.unusedVariables false

/-- A 64-bit number. -/
abbrev V64 (n : Nat) : Value := .int .u64 (n : Int)

theorem len_bytes (k : Nat) (h : k ≤ 64) : wrap64 ((wrap64 ((k : Int) + 7)).tdiv 8) = (((k + 7) / 8 : Nat) : Int) := by
  rw [IntWalk.wrap64_in ((k : Int) + 7) (by omega), Int.tdiv_eq_ediv_of_nonneg (by omega), IntWalk.wrap64_in _ (by omega)]
  omega

set_option maxRecDepth 100000 in
theorem behind_any (n : Nat) (hn : n < 18446744073709551616) (w : World) :
    Calls Tryd.prog 95 #[V64 n] w fun e w' => e = .returned (.int .i64 (P.behind n)) ∧ Below w.heap.size w w' := by
  have Hd := Lib.hid (P.dig_len n hn)
  have Hl := Lib.hid (Lib.bitLen_le n 64 (by omega) (by omega))
  by_cases h8 : n < 248
  · have Hb := Lib.hid (show P.behind n = 0 by unfold P.behind; rw [if_pos h8])
    go_enter Tryd.func95, Tryd.ntmps95
    go_wp2
    go_ret
    exact ⟨by rw [Hb.out]; rfl, Below.refl _ _⟩
  · have Hb := Lib.hid (show P.behind n = P.dig n by unfold P.behind; rw [if_neg h8])
    go_enter Tryd.func95, Tryd.ntmps95
    go_wp2_with (go_at_call 93; refine (Tryd.bits_Len64 _ _ (by omega) (by omega)).mono ?_; rintro e w1 ⟨rfl, rfl⟩)
    go_ret
    exact ⟨by rw [Hb.out, ← Hd.out, ← len_bytes _ Hl.out]; rfl, Below.refl _ _⟩

theorem big_next (l : List UInt8) (c : UInt8) (h : l.length ≤ 7) : bits .or .u64 (IntKind.u64.wrap ((P.val l : Int) * 256)) (IntKind.u64.wrap (c.toNat : Int)) = (P.val (l ++ [c]) : Int) := by
  have h1 := P.val_lt l
  have h2 : 256 ^ l.length ≤ 256 ^ 7 := Nat.pow_le_pow_right (by omega) h
  have hc := c.toNat_lt
  have h3 : P.val l * 256 ||| c.toNat = 256 * P.val l + c.toNat := by
    have h := Nat.two_pow_add_eq_or_of_lt (i := 8) (b := c.toNat) (by omega) (P.val l)
    rw [show P.val l * 256 = 2 ^ 8 * P.val l by omega, ← h]
  rw [IntKind.wrap_u64, IntKind.wrap_u64, show ((P.val l : Int) * 256) % 18446744073709551616 = ((P.val l * 256 : Nat) : Int) by omega, show (c.toNat : Int) % 18446744073709551616 = ((c.toNat : Nat) : Int) by omega, P.val_snoc, ← h3]
  exact u64_or_nat _ _ (by omega) (by omega)

theorem str_take (s : List UInt8) (m : Nat) : (ByteArray.mk s.toArray).extract 0 m = ⟨(s.take m).toArray⟩ := by
  rw [ByteArray.extract_mk]
  simp
attribute [local go_sem] str_take

set_option maxRecDepth 100000 in
set_option maxHeartbeats 1000000 in
theorem big_any (s : List UInt8) (k : Int) (w : World) (hs : s.length ≤ 9223372036854775807) (hk0 : -9223372036854775808 ≤ k) (hk1 : k ≤ 9223372036854775807) :
    Calls Tryd.prog 81 #[S s, .int .i64 k] w fun e w' => e = .returned (.tuple #[V64 (P.bigNum s k), .bool (P.bigOk s k)]) ∧ Below w.heap.size w w' := by
  by_cases hok : 1 ≤ k ∧ k ≤ 8 ∧ k ≤ s.length
  · have Ho := Lib.hid (show P.bigOk s k = true from decide_eq_true hok)
    have Hn := Lib.hid (show P.bigNum s k = P.val (s.take k.toNat) by unfold P.bigNum; rw [Ho.out]; rfl)
    obtain ⟨k1, k2, k3⟩ := hok
    obtain ⟨m, rfl⟩ : ∃ m : Nat, k = (m : Int) := ⟨k.toNat, by omega⟩
    have hml : (s.take m).length = m := by simp; omega
    go_enter Tryd.func81, Tryd.ntmps81
    go_wp2_with ((with_reducible show wpList _ _ _ (⟨_, .convert 9 85 _, _, _, _, _⟩ :: _) _ _); refine wpList_conv_bytes (s.take m) (by rfl) 5 Tryd.underlying9 Tryd.underlying85 Tryd.underlying5 ?_; intro cap w1 hB1 hb1 hz1)
    have Hv := Lib.hid (show ∀ (j : Nat) (hj : j < (s.take m).length), bits .or .u64 (IntKind.u64.wrap ((P.val ((s.take m).take j) : Int) * 256)) (IntKind.u64.wrap ((s.take m)[j].toNat : Int)) = (P.val ((s.take m).take (j + 1)) : Int) from fun j hj => by
      rw [List.take_succ_eq_append_getElem hj]
      exact big_next _ _ (by simp; omega))
    have Ht := Lib.hid (show P.bigNum s (m : Int) = P.val ((s.take m).take m) by rw [Hn.out, List.take_take, Nat.min_self]; rfl)
    clear Hn
    generalize s.take m = q at *
    have hm8 : m ≤ 8 := by omega
    go_loop [4, 25] (fun n i => ∃ j : Nat, j ≤ m ∧ i = .int .i64 j ∧ n = V64 (P.val (q.take j))) (fun _ i => m - (intOf i).toNat)
    case atStart => exact ⟨0, by omega, rfl, rfl⟩
    case round =>
      obtain ⟨j, hj, rfl, rfl⟩ := hrel
      by_cases hjt : j < m
      · have hcj := hB1 j (by omega)
        have Hnx := Lib.hid (Hv.out j (by omega))
        generalize hw1 : P.val (q.take j) = n0 at *
        go_wp2
        go_round
        case rel => exact ⟨j + 1, by omega, by go_num, congrArg (Value.int .u64) Hnx.out⟩
        case measure => simp [intOf]; omega
      · obtain rfl : j = m := by omega
        go_wp2
        go_ret2
        exact ⟨by rw [Ho.out, Ht.out]; rfl, hb1⟩
  · have Ho := Lib.hid (show P.bigOk s k = false from decide_eq_false hok)
    have Hn := Lib.hid (show P.bigNum s k = 0 by unfold P.bigNum; rw [Ho.out]; rfl)
    by_cases hk : k < 1
    · go_enter Tryd.func81, Tryd.ntmps81
      go_wp2
      go_ret2
      exact ⟨by rw [Ho.out, Hn.out]; rfl, Below.refl _ _⟩
    · by_cases hk8 : 8 < k
      · go_enter Tryd.func81, Tryd.ntmps81
        go_wp2
        go_ret2
        exact ⟨by rw [Ho.out, Hn.out]; rfl, Below.refl _ _⟩
      · have hk3 : (s.length : Int) < k := by omega
        clear hok
        go_enter Tryd.func81, Tryd.ntmps81
        go_wp2
        go_ret2
        exact ⟨by rw [Ho.out, Hn.out]; rfl, Below.refl _ _⟩
theorem u64_step (n c r : Nat) (h : 256 * (n : Int) + (c : Int) = (r : Int)) (hr : r < 18446744073709551616) : IntKind.u64.wrap (IntKind.u64.wrap (256 * (n : Int)) + IntKind.u64.wrap (c : Int)) = (r : Int) := by
  rw [IntKind.wrap_u64, IntKind.wrap_u64, IntKind.wrap_u64]
  omega
theorem refBig_next (l : List UInt8) (c : UInt8) (h : l.length ≤ 7) : 256 * (P.val l : Int) + (c.toNat : Int) = (P.val (l ++ [c]) : Int) ∧ P.val (l ++ [c]) < 18446744073709551616 :=
  ⟨by rw [P.val_snoc]; omega, P.val_lt8 _ (by simp; omega)⟩

set_option maxRecDepth 100000 in
set_option maxHeartbeats 1000000 in
theorem refReadBig_any (s : List UInt8) (k : Int) (w : World) (hs : s.length ≤ 9223372036854775807) (hk0 : -9223372036854775808 ≤ k) (hk1 : k ≤ 9223372036854775807) :
    Calls Tryd.prog 56 #[S s, .int .i64 k] w fun e w' => e = .returned (.tuple #[V64 (P.bigNum s k), .bool (P.bigOk s k)]) ∧ Below w.heap.size w w' := by
  by_cases hok : 1 ≤ k ∧ k ≤ 8 ∧ k ≤ s.length
  · have Ho := Lib.hid (show P.bigOk s k = true from decide_eq_true hok)
    have Hn := Lib.hid (show P.bigNum s k = P.val (s.take k.toNat) by unfold P.bigNum; rw [Ho.out]; rfl)
    obtain ⟨k1, k2, k3⟩ := hok
    obtain ⟨m, rfl⟩ : ∃ m : Nat, k = (m : Int) := ⟨k.toNat, by omega⟩
    have hm8 : m ≤ 8 := by omega
    have hml : m ≤ s.length := by omega
    have Hv := Lib.hid (show ∀ (j : Nat) (hj : j < m), P.val (s.take j) < 18446744073709551616 ∧ 256 * (P.val (s.take j) : Int) + ((s[j]'(by omega)).toNat : Int) = (P.val (s.take (j + 1)) : Int) ∧ P.val (s.take (j + 1)) < 18446744073709551616 from fun j hj => by
      rw [List.take_succ_eq_append_getElem (by omega)]
      exact ⟨P.val_lt8 _ (by simp; omega), refBig_next _ _ (by simp; omega)⟩)
    go_enter Tryd.func56, Tryd.ntmps56
    go_wp2
    go_loop [6, 7] (fun n i => ∃ j : Nat, j ≤ m ∧ i = .int .i64 j ∧ n = V64 (P.val (s.take j))) (fun _ i => m - (intOf i).toNat)
    case atStart => exact ⟨0, by omega, rfl, rfl⟩
    case round =>
      obtain ⟨j, hj, rfl, rfl⟩ := hrel
      by_cases hjt : j < m
      · have hjs : j < s.length := by omega
        have hc := (s[j]).toNat_lt
        have Hnx := Lib.hid (Hv.out j hjt)
        have Hsm := Lib.hid (show ((ByteArray.mk s.toArray)[j]'(by show j < s.toArray.size; simpa using hjs)).toNat = (s[j]).toNat by rfl)
        generalize P.val (s.take j) = n0 at *
        go_wp2
        go_round
        case rel => exact ⟨j + 1, by omega, by go_num, congrArg (Value.int .u64) (u64_step n0 (s[j]).toNat _ Hnx.out.2.1 Hnx.out.2.2)⟩
        case measure => simp [intOf]; omega
      · obtain rfl : j = m := by omega
        go_wp2
        go_ret2
        exact ⟨by rw [Ho.out, Hn.out]; rfl, Below.refl _ _⟩
  · have Ho := Lib.hid (show P.bigOk s k = false from decide_eq_false hok)
    have Hn := Lib.hid (show P.bigNum s k = 0 by unfold P.bigNum; rw [Ho.out]; rfl)
    by_cases hk : k < 1
    · go_enter Tryd.func56, Tryd.ntmps56
      go_wp2
      go_ret2
      exact ⟨by rw [Ho.out, Hn.out]; rfl, Below.refl _ _⟩
    · by_cases hk8 : 8 < k
      · go_enter Tryd.func56, Tryd.ntmps56
        go_wp2
        go_ret2
        exact ⟨by rw [Ho.out, Hn.out]; rfl, Below.refl _ _⟩
      · have hk3 : (s.length : Int) < k := by omega
        clear hok
        go_enter Tryd.func56, Tryd.ntmps56
        go_wp2
        go_ret2
        exact ⟨by rw [Ho.out, Hn.out]; rfl, Below.refl _ _⟩
end Go.Proofs.YtcobfoiajdbahaaDoor
