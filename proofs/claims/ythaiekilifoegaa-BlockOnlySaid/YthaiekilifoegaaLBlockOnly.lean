/- The walk of BlockOnly: it answers true. -/
import Derived.Test.YthaiekilifoegaaWLawK
namespace Go.Proofs.Ythaiekilifoegaa
open Go.RowKit
set_option linter.unusedVariables false
set_option linter.unusedSimpArgs false

theorem P.addE_take {l : List P.En} (h : P.Good l) (i : Nat) (hi : i < l.length) : P.addE (l.take i).length (P.lastK (l.take i)) (P.keyAt l i) (P.valAt l i) = 0 ∧ P.addL (l.take i) (P.keyAt l i) (P.valAt l i) = l.take (i + 1) := by
  have h1 := h.at i hi
  refine ⟨h1, ?_⟩
  unfold P.addL
  rw [if_pos h1, P.take_snoc l i hi]
attribute [local go_sem] str_take

set_option maxRecDepth 100000 in
set_option maxHeartbeats 8000000 in
theorem law_only (s : List UInt8) (W : World) (hs : s.length ≤ 9223372036854775807) :
    Calls Try.prog 7 #[S s] W fun e w' => e = .returned (.bool true) ∧ Below W.heap.size W w' := by
  have main : ∀ s1 : List UInt8, s1.length ≤ 8000 → ((s1 = s.take 8000 ∧ 8000 < s.length) ∨ (s1 = s ∧ s.length ≤ 8000)) → Calls Try.prog 7 #[S s] W fun e w' => e = .returned (.bool true) ∧ Below W.heap.size W w' := by
    intro s1 h1 h3
    by_cases hex : ∃ l, P.Opens s1 l
    · obtain ⟨l, ho⟩ := hex
      have hln := ho.len
      have hup := ho.up
      have HO := Lib.hid (fun wx => open_yes ho (by omega) wx)
      have HLn := Lib.hid (fun wx g (hb : BlkAt wx g l) => len_blk hb)
      have HAt := Lib.hid (fun wx g (hb : BlkAt wx g l) (i : Nat) (hi : i < l.length) => show Calls Try.prog 14 #[.pointer (some ⟨g, 0, none⟩), .int .i64 i] wx fun e w' => e = .returned (.tuple #[S (P.keyAt l i), S (P.valAt l i), .bool true]) ∧ Below wx.heap.size wx w' from at_in hb ho.1 (by omega) i hi)
      have Hgd := Lib.hid ho.1
      have HBy := Lib.hid ho.2
      have hll : l.length ≤ 8000 := by omega
      have HAdd := Lib.hid (fun (i : Nat) (hi : i < l.length) (wx : World) (B g : Nat) (hb : BldAt wx B g (l.take i)) (hB : B ≤ wx.heap.size) => show Calls Try.prog 11 #[.pointer (some ⟨g, 0, none⟩), S (P.keyAt l i), S (P.valAt l i)] wx fun e w' => e = .returned (.int .i64 0) ∧ BldAt w' B g (l.take (i + 1)) ∧ Below B wx w' from by
        obtain ⟨e1, e2⟩ := P.addE_take ho.1 i hi
        have hl := ho.1.lens i
        have := add_at hb (P.keyAt l i) (P.valAt l i) (by omega) (by omega) (by rw [List.length_take]; omega) hB
        rw [e1, e2] at this
        exact this.mono fun e w' h => ⟨h.1, h.2.1, h.2.2.1⟩)
      have HSz := Lib.hid (fun (wx : World) (B g : Nat) (hb : BldAt wx B g l) => show Calls Try.prog 9 #[.pointer (some ⟨g, 0, none⟩)] wx fun e w' => e = .returned (.int .i64 s1.length) ∧ Below wx.heap.size wx w' from by
        have := size_at hb (by omega)
        rw [ho.2] at this
        exact this)
      have HF := Lib.hid (fun (wx : World) (B g : Nat) (hb : BldAt wx B g l) (hB : B ≤ wx.heap.size) => show Calls Try.prog 12 #[.pointer (some ⟨g, 0, none⟩)] wx fun e w' => e = .returned (S s1) ∧ Below B wx w' from by
        have := finish_at hb (by omega) hB
        rw [ho.2] at this
        exact this.mono fun e w' h => ⟨h.1, h.2.2.1⟩)
      clear ho hln hup
      rcases h3 with ⟨h3, h3l⟩ | ⟨rfl, h3l⟩
      · have H3 := Lib.hid h3
        clear h3
        go_enter Try.func7, Try.ntmps7
        go_wp2_with (go_at_call 13; (try rw [← H3.out]); (with_reducible refine (HO.out _).mono ?_); rintro e w1 ⟨⟨g, rfl, hk1⟩, hb1⟩)
        have hd2 := BldAt.fresh w1 w1.heap.size (Nat.le_refl _)
        have hc2 := (Below.refl w1.heap.size w1).alloc (Nat.le_refl _) (.cells #[.slice none 0 0, .slice none 0 0, .int .i64 0, S []] 26)
        generalize w1.alloc (.cells #[.slice none 0 0, .slice none 0 0, .int .i64 0, S []] 26) = w2 at *
        (try rw [← H3.out])
        go_loopw [6] (fun i wr => ∃ j : Nat, j ≤ l.length ∧ i = .int .i64 j ∧ BldAt wr w1.heap.size w1.heap.size (l.take j) ∧ Below w1.heap.size w1 wr) (fun i _ => l.length - (intOf i).toNat)
        case atStart => exact ⟨0, by omega, rfl, hd2, hc2⟩
        case round =>
          clear hd2 hc2
          obtain ⟨j, hj, rfl, hd, hc⟩ := hrel
          have hk := hk1.up hc
          by_cases hlt : j < l.length
          · have HA := Lib.hid (fun wx (hx : Below wr.heap.size wr wx) => HAt.out wx g (hk.up hx) j hlt)
            have HB := Lib.hid (fun wx (hx : Below wr.heap.size wr wx) => HAdd.out j hlt wx _ _ (hd.up hx) (Nat.le_trans hc.size hx.size))
            generalize P.keyAt l j = kj at *
            generalize P.valAt l j = vj at *
            go_wp2_with (first
              | (go_at_call 15; (with_reducible refine (HLn.out _ _ hk).mono ?_); rintro e w3 ⟨rfl, hb3⟩)
              | (go_at_call 14; (with_reducible refine (HA.out _ hb3).mono ?_); rintro e w4 ⟨rfl, hb4⟩; have hb34 := Chain.up hb3 hb4)
              | (go_at_call 11; (with_reducible refine (HB.out _ hb34).mono ?_); rintro e w5 ⟨rfl, hd5, hb5⟩))
            go_roundw
            case rel => exact ⟨j + 1, by omega, by go_num, hd5, (Chain.up hc hb34).trans hb5⟩
            case measure => simp [intOf]; omega
          · obtain rfl : j = l.length := by omega
            rw [List.take_length] at hd
            go_wp2_with (first
              | (go_at_call 15; (with_reducible refine (HLn.out _ _ hk).mono ?_); rintro e w3 ⟨rfl, hb3⟩; have hd3 := hd.up hb3; have hc3 := Chain.up hc hb3)
              | (go_at_call 9; (with_reducible refine (HSz.out _ _ _ hd3).mono ?_); rintro e w4 ⟨rfl, hb4⟩; have hd4 := hd3.up hb4; have hc4 := Chain.up hc3 hb4)
              | (go_at_call 12; (with_reducible refine (HF.out _ _ _ hd4 hc4.size).mono ?_); rintro e w5 ⟨rfl, hb5⟩; have hc5 := hc4.trans hb5)
              | (go_at_call 17; (with_reducible refine (awake_any _).mono ?_); rintro e w9 ⟨rfl, hb9⟩))
            go_ret
            exact ⟨rfl, Chain.up hb1 (Chain.up hc5 hb9)⟩
      · go_enter Try.func7, Try.ntmps7
        go_wp2_with (go_at_call 13; (with_reducible refine (HO.out _).mono ?_); rintro e w1 ⟨⟨g, rfl, hk1⟩, hb1⟩)
        have hd2 := BldAt.fresh w1 w1.heap.size (Nat.le_refl _)
        have hc2 := (Below.refl w1.heap.size w1).alloc (Nat.le_refl _) (.cells #[.slice none 0 0, .slice none 0 0, .int .i64 0, S []] 26)
        generalize w1.alloc (.cells #[.slice none 0 0, .slice none 0 0, .int .i64 0, S []] 26) = w2 at *
        skip
        go_loopw [6] (fun i wr => ∃ j : Nat, j ≤ l.length ∧ i = .int .i64 j ∧ BldAt wr w1.heap.size w1.heap.size (l.take j) ∧ Below w1.heap.size w1 wr) (fun i _ => l.length - (intOf i).toNat)
        case atStart => exact ⟨0, by omega, rfl, hd2, hc2⟩
        case round =>
          clear hd2 hc2
          obtain ⟨j, hj, rfl, hd, hc⟩ := hrel
          have hk := hk1.up hc
          by_cases hlt : j < l.length
          · have HA := Lib.hid (fun wx (hx : Below wr.heap.size wr wx) => HAt.out wx g (hk.up hx) j hlt)
            have HB := Lib.hid (fun wx (hx : Below wr.heap.size wr wx) => HAdd.out j hlt wx _ _ (hd.up hx) (Nat.le_trans hc.size hx.size))
            generalize P.keyAt l j = kj at *
            generalize P.valAt l j = vj at *
            go_wp2_with (first
              | (go_at_call 15; (with_reducible refine (HLn.out _ _ hk).mono ?_); rintro e w3 ⟨rfl, hb3⟩)
              | (go_at_call 14; (with_reducible refine (HA.out _ hb3).mono ?_); rintro e w4 ⟨rfl, hb4⟩; have hb34 := Chain.up hb3 hb4)
              | (go_at_call 11; (with_reducible refine (HB.out _ hb34).mono ?_); rintro e w5 ⟨rfl, hd5, hb5⟩))
            go_roundw
            case rel => exact ⟨j + 1, by omega, by go_num, hd5, (Chain.up hc hb34).trans hb5⟩
            case measure => simp [intOf]; omega
          · obtain rfl : j = l.length := by omega
            rw [List.take_length] at hd
            go_wp2_with (first
              | (go_at_call 15; (with_reducible refine (HLn.out _ _ hk).mono ?_); rintro e w3 ⟨rfl, hb3⟩; have hd3 := hd.up hb3; have hc3 := Chain.up hc hb3)
              | (go_at_call 9; (with_reducible refine (HSz.out _ _ _ hd3).mono ?_); rintro e w4 ⟨rfl, hb4⟩; have hd4 := hd3.up hb4; have hc4 := Chain.up hc3 hb4)
              | (go_at_call 12; (with_reducible refine (HF.out _ _ _ hd4 hc4.size).mono ?_); rintro e w5 ⟨rfl, hb5⟩; have hc5 := hc4.trans hb5)
              | (go_at_call 17; (with_reducible refine (awake_any _).mono ?_); rintro e w9 ⟨rfl, hb9⟩))
            go_ret
            exact ⟨rfl, Chain.up hb1 (Chain.up hc5 hb9)⟩
    · have hno : ∀ l, ¬ P.Opens s1 l := fun l h => hex ⟨l, h⟩
      have HO := Lib.hid (fun wx => open_not hno (by omega) wx)
      clear hno hex
      rcases h3 with ⟨h3, h3l⟩ | ⟨rfl, h3l⟩
      · go_enter Try.func7, Try.ntmps7
        go_wp2_with (first
        | (go_at_call 13; (try rw [← h3]); (with_reducible refine (HO.out _).mono ?_); rintro e w1 ⟨rfl, hb1⟩)
        | (go_at_call 17; (with_reducible refine (awake_any _).mono ?_); rintro e w9 ⟨rfl, hb9⟩))
        go_ret
        exact ⟨rfl, Chain.up hb1 hb9⟩
      · go_enter Try.func7, Try.ntmps7
        go_wp2_with (first
        | (go_at_call 13; (with_reducible refine (HO.out _).mono ?_); rintro e w1 ⟨rfl, hb1⟩)
        | (go_at_call 17; (with_reducible refine (awake_any _).mono ?_); rintro e w9 ⟨rfl, hb9⟩))
        go_ret
        exact ⟨rfl, Chain.up hb1 hb9⟩
  by_cases h8 : 8000 < s.length
  · exact main (s.take 8000) (by rw [List.length_take]; omega) (.inl ⟨rfl, h8⟩)
  · exact main s (by omega) (.inr ⟨rfl, by omega⟩)
end Go.Proofs.Ythaiekilifoegaa
