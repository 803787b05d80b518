/- The walks of num.Var and num.Big. -/
import Derived.Test.YtcobfoiajdbahaaDoorWPut
namespace Go.Proofs.YtcobfoiajdbahaaDoor
open Go.RowKit
set_option linter.unusedVariables false

theorem Own.up {w w' : World} {B : Nat} {v : Value} {l : List UInt8} (h : Own w B v l) (hb : Below w.heap.size w w') : Own w' B v l := by
  refine ⟨h.1, ?_⟩
  rcases h.2 with hn | ⟨g, cap, cur, rfl, hB, hg, rest⟩
  · exact .inl hn
  · exact .inr ⟨g, cap, cur, rfl, hB, (hb.block g (Array.getElem?_eq_some_iff.1 hg).1).trans hg, rest⟩

/-- A slice of numbers that reads as a list. -/
def NumsAt (w : World) (a : Option Addr) (ns : List Nat) : Prop := ∀ (i : Nat) (h : i < ns.length), ∃ b o, a = some ⟨b, o, none⟩ ∧ b < w.heap.size ∧ w.cell? ⟨b, o + i, none⟩ = some (V64 ns[i])
theorem NumsAt.below {w w' : World} {a : Option Addr} {ns : List Nat} (h : NumsAt w a ns) (hb : Below w.heap.size w w') : NumsAt w' a ns := by
  intro i hi
  obtain ⟨b, o, rfl, hlt, hc⟩ := h i hi
  exact ⟨b, o, rfl, Nat.lt_of_lt_of_le hlt hb.size, (hb.cell (p := ⟨b, o + i, none⟩) hlt).trans hc⟩

theorem P.row_len9 (n : Nat) : (P.row n).length ≤ 9 := by rw [P.row_length]; have := P.behind_le n; omega
theorem P.vars_len (ns : List Nat) : (P.vars ns).length ≤ 9 * ns.length := by
  induction ns with
  | nil => simp [P.vars]
  | cons n ns ih =>
    have := P.row_len9 n
    have h : P.vars (n :: ns) = P.row n ++ P.vars ns := rfl
    rw [h, List.length_append, List.length_cons]
    omega
theorem P.vars_snoc (ns : List Nat) (n : Nat) : P.vars (ns ++ [n]) = P.vars ns ++ P.row n := by simp [P.vars]
theorem u64_byte (n : Nat) (h : n < 248) : (n : Int) = ((P.byt n).toNat : Int) := by rw [P.byt_toNat]; omega

set_option maxRecDepth 100000 in
set_option maxHeartbeats 2000000 in
theorem var_any (a : Option Addr) (c : Nat) (ns : List Nat) (w : World) (hlen : ns.length ≤ 100000) (hns : ∀ n ∈ ns, n < 18446744073709551616) (hp : NumsAt w a ns) :
    Calls Tryd.prog 75 #[.slice a ns.length c] w fun e w' => e = .returned (S (P.vars ns)) ∧ Below w.heap.size w w' := by
  have Hns := Lib.hid hns
  have Hp := Lib.hid hp
  clear hns hp
  go_enter Tryd.func75, Tryd.ntmps75
  go_wp2
  go_loopw [3, 9] (fun v i wr => ∃ k : Nat, k ≤ ns.length ∧ i = .int .i64 k ∧ Own wr w.heap.size v (P.vars (ns.take k)) ∧ Below w.heap.size w wr) (fun _ i _ => ns.length - (intOf i).toNat)
  case atStart => exact ⟨0, by omega, rfl, by simpa [P.vars] using own_nil w w.heap.size, Below.refl _ _⟩
  case round =>
    obtain ⟨k, hk, rfl, hown, hb⟩ := hrel
    have Hown := Lib.hid hown
    clear hown
    by_cases hlt : k < ns.length
    · obtain ⟨b, o, rfl, hbb, hc⟩ := Hp.out k hlt
      have hc' := (hb.cell (p := ⟨b, o + k, none⟩) hbb).trans hc
      clear hc
      have hn := Hns.out ns[k] (List.getElem_mem _)
      have Hnx := Lib.hid (show P.vars (ns.take (k + 1)) = P.vars (ns.take k) ++ P.row ns[k] by rw [List.take_succ_eq_append_getElem hlt, P.vars_snoc])
      have hl0 : (P.vars (ns.take k)).length ≤ 900000 := by have := P.vars_len (ns.take k); rw [List.length_take] at this; omega
      generalize P.vars (ns.take k) = q at *
      generalize ns[k] = n at *
      have Hbh := Lib.hid (fun w => behind_any n hn w)
      have hbw := hb.size
      by_cases h8 : n < 248
      · have Hr := Lib.hid (show P.row n = [P.byt n] by unfold P.row; rw [if_pos h8])
        have hbeh : P.behind n = 0 := by unfold P.behind; rw [if_pos h8]
        have hn' : (n : Int) < 248 := by omega
        go_wp2_with (first
          | (go_at_call 95; (with_reducible refine (Hbh.out _).mono ?_); rintro e w1 ⟨rfl, hb1⟩; rw [hbeh]; have hbs1 := hb1.size)
          | (at_builtin; refine wpList_push (by rfl) _ _ rfl w.heap.size _ q (P.byt n) _ (u64_byte n h8) (by rfl) (Hown.out.up hb1) (by omega) (by rfl) (by omega) ?_; intro v2 w2 hown2 hg2; have Hown2 := Lib.hid hown2; clear hown2))
        go_roundw
        case rel => exact ⟨k + 1, by omega, by go_num, by rw [Hnx.out, Hr.out]; exact Hown2.out, below_owned ((hb.trans (hb1.mono hb.size)).alloc (by omega) _) ((Hown.out.up hb1).alloc _) (by simp; omega) hg2⟩
        case measure => simp [intOf]; omega
      · have hd1 := P.dig_pos n (by omega)
        have hd2 := P.dig_le n
        have Hr := Lib.hid (show P.row n = [P.byt (247 + P.dig n)] ++ P.be (P.dig n) n by unfold P.row; rw [if_neg h8]; rfl)
        have hbeh : P.behind n = P.dig n := by unfold P.behind; rw [if_neg h8]
        have Hput := Lib.hid (fun (wb : World) (B : Nat) (v : Value) (l : List UInt8) hB hown hl => put_any B v l n (P.dig n) wb hn hd2 hB hown hl)
        generalize P.be (P.dig n) n = r at *
        have Hby := Lib.hid (show (247 + (P.dig n : Int)) = ((P.byt (247 + P.dig n)).toNat : Int) by rw [P.byt_toNat]; omega)
        generalize P.byt (247 + P.dig n) = d at *
        generalize P.dig n = m at *
        go_wp2_with (first
          | (go_at_call 95; (with_reducible refine (Hbh.out _).mono ?_); rintro e w1 ⟨rfl, hb1⟩; rw [hbeh]; have hbs1 := hb1.size)
          | (go_at_call 94; refine (Hput.out _ w.heap.size _ (q ++ [d]) (by have := hg2.size; simp at this; omega) Hown2.out (by simp; omega)).mono ?_; rintro e w3 ⟨v3, rfl, hown3, hb3⟩; have Hown3 := Lib.hid hown3; clear hown3)
          | (at_builtin; refine wpList_push (by rfl) _ _ rfl w.heap.size _ q d _ Hby.out (by rfl) (Hown.out.up hb1) (by omega) (by rfl) (by omega) ?_; intro v2 w2 hown2 hg2; have Hown2 := Lib.hid hown2; clear hown2))
        go_roundw
        case rel => exact ⟨k + 1, by omega, by go_num, by rw [Hnx.out, Hr.out, ← List.append_assoc]; exact Hown3.out, (below_owned ((hb.trans (hb1.mono hb.size)).alloc (by omega) _) ((Hown.out.up hb1).alloc _) (by simp; omega) hg2).trans hb3⟩
        case measure => simp [intOf]; omega
    · obtain rfl : k = ns.length := by omega
      rw [List.take_length] at Hown
      go_wp2_with ((with_reducible show wpList _ _ _ (⟨_, .convert 85 9 _, _, _, _, _⟩ :: _) _ _); refine wpList_conv_own (by rfl) Hown.out ?_)
      go_ret
      exact ⟨rfl, hb⟩
end Go.Proofs.YtcobfoiajdbahaaDoor
