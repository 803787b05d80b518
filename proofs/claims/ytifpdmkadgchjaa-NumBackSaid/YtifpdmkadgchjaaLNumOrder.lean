/- The walk of NumOrder: it answers true. -/
import Derived.Test.YtifpdmkadgchjaaLNumWide
import Derived.StillTailTactics
import Derived.Deep.RegionWith
namespace Go.Proofs.Ytifpdmkadgchjaa
open Go.RowKit
set_option linter.unusedVariables false

/-- 'Var' of one number, its slice made anew in block g. -/
theorem var_one (n : Nat) (hn : n < 18446744073709551616) (w : World) (g : Nat) (hg : g = w.heap.size) :
    Calls Try.prog 17 #[.slice (some ⟨g, 0, none⟩) 1 1] (w.alloc (.cells #[V64 n] 22)) fun e w' => e = .returned (S (P.row n)) ∧ Below w.heap.size w w' := by
  subst hg
  have h := var_any (some ⟨w.heap.size, 0, none⟩) 1 [n] (w.alloc (.cells #[V64 n] 22)) (by simp) (by simpa using hn) (nums_new w _ _ _ rfl)
  rw [show P.vars [n] = P.row n by simp [P.vars]] at h
  exact h.mono fun e w' ⟨he, hb⟩ => ⟨he, ((Below.refl _ _).alloc (Nat.le_refl _) _).trans (hb.mono (by simp))⟩

theorem P.at_app (p x : List UInt8) (c : UInt8) : P.at_ (p ++ c :: x) p.length = c.toNat := by
  unfold P.at_
  simp
theorem P.at_app_lt (p x y : List UInt8) (i : Nat) (h : i < p.length) : P.at_ (p ++ x) i = P.at_ (p ++ y) i := by
  unfold P.at_
  rw [List.getD_eq_getElem?_getD, List.getD_eq_getElem?_getD, List.getElem?_append_left h, List.getElem?_append_left h]

attribute [local go_sem] str_app str_at

set_option maxRecDepth 100000 in
set_option maxHeartbeats 4000000 in
theorem law_order (a b : Nat) (x y : List UInt8) (w : World) (ha : a < 18446744073709551616) (hb : b < 18446744073709551616) (hx : x.length ≤ 9223372036854775807) (hy : y.length ≤ 9223372036854775807) :
    Calls Try.prog 4 #[V64 a, V64 b, S x, S y] w fun e w' => e = .returned (.bool true) ∧ Below w.heap.size w w' := by
  by_cases h100 : 100 < x.length ∨ 100 < y.length
  · by_cases hx1 : 100 < x.length
    · clear h100
      go_enter Try.func4, Try.ntmps4
      go_wp2_with (go_at_call 16; (with_reducible refine (awake_any _).mono ?_); rintro e w7 ⟨rfl, hb7⟩)
      go_ret
      exact ⟨rfl, hb7⟩
    · have hy1 : 100 < y.length := by omega
      clear h100
      go_enter Try.func4, Try.ntmps4
      go_wp2_with (go_at_call 16; (with_reducible refine (awake_any _).mono ?_); rintro e w7 ⟨rfl, hb7⟩)
      go_ret
      exact ⟨rfl, hb7⟩
  · have hx1 : x.length ≤ 100 := by omega
    have hy1 : y.length ≤ 100 := by omega
    clear h100
    have Hva := Lib.hid (fun w => var_one a ha w)
    have Hvb := Lib.hid (fun w => var_one b hb w)
    have la9 := P.row_len9 a
    have lb9 := P.row_len9 b
    have la1 : 1 ≤ (P.row a).length := by rw [P.row_length]; omega
    have lb1 : 1 ≤ (P.row b).length := by rw [P.row_length]; omega
    by_cases hab : a = b
    · subst hab
      generalize P.row a = s at *
      have hc := Lib.hid (Below.refl w.heap.size w)
      go_enter Try.func4, Try.ntmps4
      go_wp2_with (first
        | (go_at_call 17; (with_reducible refine (Hva.out _ _ (by simp)).mono ?_); rintro e w1 ⟨rfl, hb1⟩; replace hc := Lib.hid (Chain.up hc.out hb1); clear hb1)
        | (go_at_call 16; (with_reducible refine (awake_any _).mono ?_); rintro e w7 ⟨rfl, hb7⟩; replace hc := Lib.hid (Chain.up hc.out hb7); clear hb7))
      go_ret
      exact ⟨rfl, hc.out⟩
    · obtain ⟨p, c, d, l, m, e1, e2, hne, hcd⟩ := P.row_parts a b ha hb hab
      have hne2 : P.row a ≠ P.row b := fun h => hab (P.row_inj ha hb h)
      have hle := Lib.hid (P.less_cut p c d (l ++ x) (m ++ y) hne)
      have h1 := Lib.hid (fun i (h : i < p.length) => P.at_app_lt p (c :: l) (d :: m) i h)
      have h2 := Lib.hid (P.at_app p l c)
      have h3 := Lib.hid (P.at_app p m d)
      have hcn : (c.toNat : Int) ≠ d.toNat := fun h => hne (UInt8.toNat_inj.1 (by omega))
      have hcd' : (c.toNat : Int) < d.toNat ↔ (a : Int) < b := by rw [Int.ofNat_lt, Int.ofNat_lt, ← hcd, UInt8.lt_iff_toNat_lt]
      have lp1 : p.length < (P.row a).length := by rw [e1]; simp
      have lp2 : p.length < (P.row b).length := by rw [e2]; simp
      rw [← List.cons_append, ← List.append_assoc, ← e1, ← List.cons_append, ← List.append_assoc, ← e2] at hle
      rw [← e1] at h1 h2
      rw [← e2] at h1 h3
      have hle' := Lib.hid (show Op.bytesLess (P.row a ++ x) (P.row b ++ y) = decide ((a : Int) < b) by rw [hle.out]; congr 1; rw [← hcd', UInt8.lt_iff_toNat_lt, Int.ofNat_lt])
      clear e1 e2 hle hcd hne
      generalize P.row a = s at *
      generalize P.row b = t at *
      generalize c.toNat = c1 at *
      generalize d.toNat = d1 at *
      generalize p.length = k at *
      clear p c d l m
      have hc := Lib.hid (Below.refl w.heap.size w)
      have hab' : ¬ (a : Int) = b := by omega
      have hst : (s == t) = false := by simpa using hne2
      have hab2 : ((a : Int) == (b : Int)) = false := by simpa using hab'
      go_enter Try.func4, Try.ntmps4
      go_wp2_with (first
        | (go_at_call 17; (with_reducible refine (Hva.out _ _ (by simp)).mono ?_); rintro e w1 ⟨rfl, hb1⟩; replace hc := Lib.hid (Chain.up hc.out hb1); clear hb1)
        | (go_at_call 17; (with_reducible refine (Hvb.out _ _ (by simp)).mono ?_); rintro e w1 ⟨rfl, hb1⟩; replace hc := Lib.hid (Chain.up hc.out hb1); clear hb1))
      go_loopw [11] (fun i wr => ∃ j : Nat, j ≤ k ∧ i = .int .i64 j ∧ Below w.heap.size w wr) (fun i _ => s.length - (intOf i).toNat)
      case atStart => exact ⟨0, by omega, rfl, hc.out⟩
      case round =>
        clear hc
        obtain ⟨j, hj, rfl, hc⟩ := hrel
        by_cases hjk : j < k
        · have he := h1.out j hjk
          have hj1 : j < s.length := by omega
          have hj2 : j < t.length := by omega
          have hj1i : (j : Int) < s.length := by omega
          have hj2i : (j : Int) < t.length := by omega
          clear h1 h2 h3
          go_wp2_with fail
          go_region
          go_wp2
          go_roundw
          case rel => exact ⟨j + 1, by omega, by go_num, hc.drew⟩
          case measure => simp [intOf]; omega
        · obtain rfl : j = k := by omega
          have e2 := h2.out
          have e3 := h3.out
          have hj1i : (j : Int) < s.length := by omega
          have hj2i : (j : Int) < t.length := by omega
          clear h1 h2 h3
          rw [← e2, ← e3] at hcn hcd'
          clear e2 e3
          go_wp2_with fail
          go_region
          go_wp2_with fail
          have hle2 := hle'.out
          have hdec : decide ((P.at_ s j : Int) < P.at_ t j) = decide ((a : Int) < b) := by rw [decide_eq_decide]; exact hcd'
          have hlen1 : ¬ 9223372036854775807 < s.length + x.length := by omega
          have hlen2 : ¬ 9223372036854775807 < t.length + y.length := by omega
          go_still_tail 25, (by kernel_rfl)
          change wpList _ _ _ _ _ (wr.drew).drew
          have hc2 := Lib.hid hc.drew.drew
          clear hc
          generalize wr.drew.drew = wd at *
          go_wp2_with (go_at_call 16; (with_reducible refine (awake_any _).mono ?_); rintro e w7 ⟨rfl, hb7⟩)
          go_ret
          exact ⟨rfl, Chain.up hc2.out hb7⟩

theorem law_order' (a b : Int) (x y : List UInt8) (w : World) (ha : (Lit.int .u64 a).wf = true) (hb : (Lit.int .u64 b).wf = true) (hx : x.length ≤ 9223372036854775807) (hy : y.length ≤ 9223372036854775807) :
    Calls Try.prog 4 #[.int .u64 a, .int .u64 b, S x, S y] w fun e w' => e = .returned (.bool true) ∧ Below w.heap.size w w' := by
  have h1 := u64_bd ha
  have h2 := u64_bd hb
  obtain ⟨n, rfl⟩ : ∃ n : Nat, a = (n : Int) := ⟨a.toNat, by omega⟩
  obtain ⟨m, rfl⟩ : ∃ n : Nat, b = (n : Int) := ⟨b.toNat, by omega⟩
  exact law_order n m x y w (by omega) (by omega) hx hy
end Go.Proofs.Ytifpdmkadgchjaa
