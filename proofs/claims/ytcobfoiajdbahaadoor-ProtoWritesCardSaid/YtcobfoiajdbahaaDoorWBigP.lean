/- The walks of num.Big and the document's Big. -/
import Derived.Test.YtcobfoiajdbahaaDoorWVar
import Derived.Test.YtcobfoiajdbahaaDoorWText
namespace Go.Proofs.YtcobfoiajdbahaaDoor
open Go.RowKit
set_option linter.unusedVariables false

def strLen : Value → Nat
  | .string s => s.size
  | _ => 0
theorem strLen_S (l : List UInt8) : strLen (S l) = l.length := by show l.toArray.size = _; simp

set_option maxRecDepth 100000 in
set_option maxHeartbeats 2000000 in
theorem bigPut_any (n : Nat) (k : Int) (w : World) (hn : n < 18446744073709551616) (hk0 : -9223372036854775808 ≤ k) (hk1 : k ≤ 9223372036854775807) :
    Calls Tryd.prog 72 #[V64 n, .int .i64 k] w fun e w' => e = .returned (.tuple #[S (P.bigS n k), .int .i64 (P.bigE n k)]) ∧ Below w.heap.size w w' := by
  by_cases hk : 1 ≤ k ∧ k ≤ 8
  · obtain ⟨m, rfl⟩ : ∃ m : Nat, k = (m : Int) := ⟨k.toNat, by omega⟩
    have h1 : 1 ≤ m := by omega
    have h8 : m ≤ 8 := by omega
    have Hd := Lib.hid (P.dig_len n hn)
    have Hl := Lib.hid (Lib.bitLen_le n 64 (by omega) (by omega))
    have Hd8 := Lib.hid (P.dig_le n)
    by_cases hfit : P.dig n ≤ m
    · have He := Lib.hid (P.bigE_ok n m h1 h8 hfit)
      have hbl : (Lib.bitLen n : Int) ≤ 8 * (m : Int) := by have := Hd.out; omega
      have Hput := Lib.hid (put_any w.heap.size (.slice none 0 0) [] n m w hn h8 (Nat.le_refl _) (own_nil _ _) (by simp))
      clear hfit
      go_enter Tryd.func72, Tryd.ntmps72
      go_wp2_with (first
        | (go_at_call 93; refine (Tryd.bits_Len64 _ _ (by omega) (by omega)).mono ?_; rintro e w1 ⟨rfl, rfl⟩)
        | (go_at_call 94; refine Hput.out.mono ?_; rintro e w2 ⟨v2, rfl, hown2, hb2⟩; have Hown2 := Lib.hid hown2; clear hown2)
        | ((with_reducible show wpList _ _ _ (⟨_, .convert 85 9 _, _, _, _, _⟩ :: _) _ _); refine wpList_conv_own (by rfl) Hown2.out ?_))
      go_ret2
      exact ⟨by rw [He.out.1, He.out.2]; rfl, hb2⟩
    · have He := Lib.hid (P.bigE_long n m h1 h8 (by omega))
      have hbl : 8 * (m : Int) < (Lib.bitLen n : Int) := by have := Hd.out; omega
      clear hfit
      go_enter Tryd.func72, Tryd.ntmps72
      go_wp2_with (go_at_call 93; refine (Tryd.bits_Len64 _ _ (by omega) (by omega)).mono ?_; rintro e w1 ⟨rfl, rfl⟩)
      go_ret2
      exact ⟨by rw [He.out.1, He.out.2]; rfl, Below.refl _ _⟩
  · have He := Lib.hid (P.bigE_bad n k hk)
    by_cases hk1 : k < 1
    · go_enter Tryd.func72, Tryd.ntmps72
      go_wp2
      go_ret2
      exact ⟨by rw [He.out.1, He.out.2]; rfl, Below.refl _ _⟩
    · have hk8 : 8 < k := by omega
      clear hk
      go_enter Tryd.func72, Tryd.ntmps72
      go_wp2
      go_ret2
      exact ⟨by rw [He.out.1, He.out.2]; rfl, Below.refl _ _⟩

attribute [local go_sem] str_app

set_option maxRecDepth 100000 in
set_option maxHeartbeats 2000000 in
theorem refBig_any (n : Nat) (k : Int) (w : World) (hn : n < 18446744073709551616) (hk0 : -9223372036854775808 ≤ k) (hk1 : k ≤ 9223372036854775807) :
    Calls Tryd.prog 77 #[V64 n, .int .i64 k] w fun e w' => e = .returned (.tuple #[S (P.bigS n k), .int .i64 (P.bigE n k)]) ∧ Below w.heap.size w w' := by
  by_cases hk : 1 ≤ k ∧ k ≤ 8
  · obtain ⟨m, rfl⟩ : ∃ m : Nat, k = (m : Int) := ⟨k.toNat, by omega⟩
    have h1 : 1 ≤ m := by omega
    have h8 : m ≤ 8 := by omega
    have Hd := Lib.hid (P.dig_len n hn)
    have Hl := Lib.hid (Lib.bitLen_le n 64 (by omega) (by omega))
    have Hd8 := Lib.hid (P.dig_le n)
    by_cases hfit : P.dig n ≤ m
    · have He := Lib.hid (P.bigE_ok n m h1 h8 hfit)
      have Hby := Lib.hid (fun w => bytesOf_any n hn w)
      have Hlt := Lib.hid ((P.dig_iff n · hn))
      have hl0 : (P.be (P.dig n) n).length = P.dig n := P.be_length _ _
      go_enter Tryd.func77, Tryd.ntmps77
      go_wp2_with (go_at_call 80; (with_reducible refine (Hby.out _).mono ?_); rintro e w1 ⟨rfl, hb⟩)
      go_loop [6] (fun s => ∃ j : Nat, P.dig n ≤ j ∧ j ≤ m ∧ s = S (P.be j n)) (fun s => m - strLen s)
      case atStart => exact ⟨P.dig n, Nat.le_refl _, hfit, rfl⟩
      case round =>
        obtain ⟨j, hj0, hj, rfl⟩ := hrel
        have hlj : (P.be j n).length = j := P.be_length _ _
        have Hnx := Lib.hid (show P.be (j + 1) n = [0] ++ P.be j n by
          rw [P.be_cons, Nat.div_eq_of_lt ((Hlt.out j).1 hj0)]; rfl)
        have Hq := Lib.hid (rfl : P.be j n = P.be j n)
        by_cases hjm : j < m
        · go_wp2
          go_round
          case rel => exact ⟨j + 1, by omega, by omega, by rw [Hnx.out]; rfl⟩
          case measure =>
            rw [show (Value.string ⟨(0 :: P.be j n).toArray⟩) = S (0 :: P.be j n) from rfl, strLen_S, strLen_S, List.length_cons, hlj]
            omega
        · obtain rfl : j = m := by omega
          go_wp2
          go_ret2
          exact ⟨by rw [He.out.1, He.out.2]; rfl, hb⟩
    · have He := Lib.hid (P.bigE_long n m h1 h8 (by omega))
      have Hby := Lib.hid (fun w => bytesOf_any n hn w)
      have hl0 : (P.be (P.dig n) n).length = P.dig n := P.be_length _ _
      have hm : (m : Int) < (P.dig n : Int) := by omega
      go_enter Tryd.func77, Tryd.ntmps77
      go_wp2_with (go_at_call 80; (with_reducible refine (Hby.out _).mono ?_); rintro e w1 ⟨rfl, hb⟩)
      go_ret2
      exact ⟨by rw [He.out.1, He.out.2]; rfl, hb⟩
  · have He := Lib.hid (P.bigE_bad n k hk)
    by_cases hk1 : k < 1
    · go_enter Tryd.func77, Tryd.ntmps77
      go_wp2
      go_ret2
      exact ⟨by rw [He.out.1, He.out.2]; rfl, Below.refl _ _⟩
    · have hk8 : 8 < k := by omega
      clear hk
      go_enter Tryd.func77, Tryd.ntmps77
      go_wp2
      go_ret2
      exact ⟨by rw [He.out.1, He.out.2]; rfl, Below.refl _ _⟩
end Go.Proofs.YtcobfoiajdbahaaDoor
