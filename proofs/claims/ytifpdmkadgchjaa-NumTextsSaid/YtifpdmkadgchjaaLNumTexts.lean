/- The walk of NumTexts: it answers true. -/
import Derived.Test.YtifpdmkadgchjaaLNumOrder
namespace Go.Proofs.Ytifpdmkadgchjaa
open Go.RowKit
set_option linter.unusedVariables false

theorem P.texts_drop (ss : List (List UInt8)) (k : Nat) (h : k < ss.length) : P.texts (ss.drop k) = P.row ss[k].length ++ (ss[k] ++ P.texts (ss.drop (k + 1))) := by
  rw [List.drop_eq_getElem_cons h, P.texts_cons]
theorem P.total_drop : ∀ (ss : List (List UInt8)) (k : Nat), P.total (ss.drop k) ≤ P.total ss
  | [], k => by simp
  | s :: ss, 0 => by simp
  | s :: ss, k + 1 => by
    have := P.total_drop ss k
    rw [List.drop_succ_cons, P.total_cons]
    omega
theorem str_past (r s x : List UInt8) (n : Nat) (h : n = (r ++ (s ++ x)).length) : (ByteArray.mk (r ++ (s ++ x)).toArray).extract (r.length + s.length) n = ⟨x.toArray⟩ := by
  rw [str_cut]
  congr 2
  rw [show r ++ (s ++ x) = (r ++ s) ++ x by simp, show r.length + s.length = (r ++ s).length by simp, List.drop_left]
  exact List.take_of_length_le (by subst h; simp; omega)

attribute [local go_sem] str_app str_take

set_option maxRecDepth 100000 in
set_option maxHeartbeats 4000000 in
theorem law_texts (a : Option Addr) (c : Nat) (ss : List (List UInt8)) (y : List UInt8) (w : World) (hs9 : ss.length ≤ 9223372036854775807) (hq : StrsAt w a ss) (hy : y.length ≤ 9223372036854775807) :
    Calls Try.prog 9 #[.slice a ss.length c, S y] w fun e w' => e = .returned (.bool true) ∧ Below w.heap.size w w' := by
  have Hgr := Lib.hid (great_any a c ss w hs9 hq)
  cases hg : P.great ss with
  | true =>
    clear hq
    rw [hg] at Hgr
    go_enter Try.func9, Try.ntmps9
    go_wp2_with (first
      | (go_at_call 20; (with_reducible refine (Hgr.out).mono ?_); rintro e w1 ⟨rfl, hb1⟩)
      | (go_at_call 16; (with_reducible refine (awake_any _).mono ?_); rintro e w7 ⟨rfl, hb7⟩))
    go_ret
    exact ⟨rfl, Chain.up hb1 hb7⟩
  | false =>
    rw [hg] at Hgr
    by_cases h2000 : 2000 < y.length
    · clear hq
      go_enter Try.func9, Try.ntmps9
      go_wp2_with (first
        | (go_at_call 20; (with_reducible refine (Hgr.out).mono ?_); rintro e w1 ⟨rfl, hb1⟩)
        | (go_at_call 16; (with_reducible refine (awake_any _).mono ?_); rintro e w7 ⟨rfl, hb7⟩))
      go_ret
      exact ⟨rfl, Chain.up hb1 hb7⟩
    · have hgr : ss.length ≤ 200 ∧ P.total ss ≤ 20000 := by
        unfold P.great at hg
        have := of_decide_eq_false hg
        omega
      have htl := P.texts_len ss
      have htl2 : (P.texts ss).length ≤ 21800 := by omega
      have Ht := Lib.hid (fun w' (h : Below w.heap.size w w') => texts_any a c ss w' hgr.1 hgr.2 (hq.up h))
      have Hp := Lib.hid hq
      have Hg1 := Lib.hid hgr.2
      have hl200 := hgr.1
      clear hq hgr hg htl
      go_enter Try.func9, Try.ntmps9
      go_wp2_with (first
        | (go_at_call 20; (with_reducible refine (Hgr.out).mono ?_); rintro e w1 ⟨rfl, hb1⟩)
        | (go_at_call 19; (with_reducible refine (Ht.out _ hb1).mono ?_); rintro e w2 ⟨rfl, hb2⟩))
      go_loopw [6, 7] (fun r i wr => ∃ k : Nat, k ≤ ss.length ∧ i = .int .i64 k ∧ r = S (P.texts (ss.drop k) ++ y) ∧ Below w.heap.size w wr) (fun _ i _ => ss.length - (intOf i).toNat)
      case atStart => exact ⟨0, by omega, rfl, rfl, Chain.up hb1 hb2⟩
      case round =>
        clear htl2 Ht Hgr
        obtain ⟨k, hk, rfl, rfl, hb⟩ := hrel
        by_cases hlt : k < ss.length
        · obtain ⟨b, o, rfl, hbb, hc⟩ := Hp.out k hlt
          have Hx := Lib.hid (fun (wr : World) (h : Below w.heap.size w wr) => (h.cell (p := ⟨b, o + k, none⟩) hbb).trans hc)
          clear hc
          have hc0 := Hx.out wr hb
          have Hd := Lib.hid (P.texts_drop ss k hlt)
          have hxl : (P.texts (ss.drop (k + 1))).length ≤ 21800 := by
            have h1 := P.texts_len (ss.drop (k + 1))
            have h2 := P.total_drop ss (k + 1)
            have h3 := Hg1.out
            simp at h1
            omega
          have hsl : ss[k].length ≤ 20000 := by
            have h1 := P.mem_total ss ss[k] (List.getElem_mem _)
            have h3 := Hg1.out
            omega
          rw [Hd.out, List.append_assoc, List.append_assoc]
          generalize ss[k] = s at *
          have hr9 := P.row_len9 s.length
          have hr1 : 1 ≤ (P.row s.length).length := by rw [P.row_length]; omega
          generalize hxs : P.texts (ss.drop (k + 1)) ++ y = x at *
          have hxx : x.length ≤ 24000 := by rw [← hxs, List.length_append]; omega
          have h1 := P.text_read s x (by omega) s.length (Int.le_refl _)
          have h2 := P.text_less s x (by omega) ((s.length : Int) - 1) (by omega)
          have h3 := P.text_cut s x (by omega) s.length
          have hll : (P.row s.length ++ (s ++ x)).length ≤ 44009 := by simp only [List.length_append]; omega
          have hll2 : (P.row s.length).length + s.length ≤ (P.row s.length ++ (s ++ x)).length := by simp only [List.length_append]; omega
          have hzz : ∀ (q : List UInt8) (m : Int), P.tOk q m = false → P.tText q m = [] ∧ P.tSize q m = 0 := fun q m h => by unfold P.tText P.tSize; rw [h]; exact ⟨rfl, rfl⟩
          have H1 := Lib.hid (fun w => readText_any (P.row s.length ++ (s ++ x)) s.length w (by omega) (by omega) (by omega))
          have H2 := Lib.hid (fun w => readText_any (P.row s.length ++ (s ++ x)) ((s.length : Int) - 1) w (by omega) (by omega) (by omega))
          have H3 := Lib.hid (fun w => readText_any ((P.row s.length ++ (s ++ x)).take ((P.row s.length).length + s.length - 1)) s.length w (by simp only [List.length_take]; omega) (by omega) (by omega))
          rw [h1.1, h1.2.1, h1.2.2] at H1
          rw [h2, (hzz _ _ h2).1, (hzz _ _ h2).2] at H2
          rw [h3, (hzz _ _ h3).1, (hzz _ _ h3).2] at H3
          have Hcut := Lib.hid (str_past (P.row s.length) s x _ rfl)
          clear h1 h2 h3 hzz
          generalize hz : (P.row s.length).length + s.length = z at *
          have hz1 : s.length < z := by omega
          generalize P.row s.length ++ (s ++ x) = q at *
          generalize P.row s.length = r at *
          clear hz hr9 hr1
          go_wp2_with (first
            | (go_at_call 14; (with_reducible refine (H1.out _).mono ?_); rintro e w3 ⟨rfl, hb3⟩; have hc3 := Hx.out _ (Chain.up hb hb3))
            | (go_at_call 14; (with_reducible refine (H2.out _).mono ?_); rintro e w4 ⟨rfl, hb4⟩; have hc4 := Hx.out _ (Chain.up (Chain.up hb hb3) hb4))
            | (go_at_call 14; (with_reducible refine (H3.out _).mono ?_); rintro e w5 ⟨rfl, hb5⟩))
          go_roundw
          case rel => exact ⟨k + 1, by omega, by go_num, by rw [Hcut.out, hxs], Chain.up (Chain.up (Chain.up hb hb3) hb4) hb5⟩
          case measure => simp [intOf]; omega
        · obtain rfl : k = ss.length := by omega
          rw [List.drop_length, show P.texts [] ++ y = y by rfl]
          go_wp2_with (go_at_call 16; (with_reducible refine (awake_any _).mono ?_); rintro e w7 ⟨rfl, hb7⟩)
          go_ret
          exact ⟨rfl, Chain.up hb hb7⟩

theorem law_texts' (a : Option Addr) (c : Nat) (ss : List (List UInt8)) (y : List UInt8) (w : World) (hs9 : ss.length ≤ 9223372036854775807) (hsl : ∀ l ∈ ss, l.length ≤ 9223372036854775807) (hq : StrsAt w a ss) (hy : y.length ≤ 9223372036854775807) :
    Calls Try.prog 9 #[.slice a ss.length c, S y] w fun e w' => e = .returned (.bool true) ∧ Below w.heap.size w w' := law_texts a c ss y w hs9 hq hy
end Go.Proofs.Ytifpdmkadgchjaa
