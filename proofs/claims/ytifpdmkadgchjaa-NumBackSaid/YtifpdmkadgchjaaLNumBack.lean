/- The walk of NumBack: it answers true. -/
import Derived.Test.YtifpdmkadgchjaaLNumOrder
import Derived.Deep.RegionHeld3
namespace Go.Proofs.Ytifpdmkadgchjaa
open Go.RowKit
set_option linter.unusedVariables false

theorem P.vars_drop (ns : List Nat) (k : Nat) (h : k < ns.length) : P.vars (ns.drop k) = P.row ns[k] ++ P.vars (ns.drop (k + 1)) := by
  rw [List.drop_eq_getElem_cons h]
  rfl
theorem str_from (r x : List UInt8) : (ByteArray.mk (r ++ x).toArray).extract r.length (r.length + x.length) = ⟨x.toArray⟩ := by
  rw [str_cut]
  congr 2
  rw [List.drop_left]
  exact List.take_of_length_le (by simp)

/-- 'Var' of one number that lies in block g. -/
theorem var_at (n : Nat) (hn : n < 18446744073709551616) (w : World) (g : Nat) (hg : w.cell? ⟨g, 0, none⟩ = some (V64 n)) :
    Calls Try.prog 17 #[.slice (some ⟨g, 0, none⟩) 1 1] w fun e w' => e = .returned (S (P.row n)) ∧ Below w.heap.size w w' := by
  have h := var_any (some ⟨g, 0, none⟩) 1 [n] w (by simp) (by simpa using hn) (fun i hi => ⟨g, 0, rfl, World.block_lt_of_cell? w _ hg, by
    obtain rfl : i = 0 := by simpa using hi
    exact hg⟩)
  rwa [show P.vars [n] = P.row n by simp [P.vars]] at h

attribute [local go_sem] str_app str_take

set_option maxRecDepth 100000 in
set_option maxHeartbeats 4000000 in
theorem law_back (a : Option Addr) (c : Nat) (ns : List Nat) (s : List UInt8) (w : World) (hn9 : ns.length ≤ 9223372036854775807) (hns : ∀ n ∈ ns, n < 18446744073709551616) (hp : NumsAt w a ns) (hs : s.length ≤ 20000) :
    Calls Try.prog 5 #[.slice a ns.length c, S s] w fun e w' => e = .returned (.bool true) ∧ Below w.heap.size w w' := by
  by_cases h200 : 200 < ns.length
  · clear hp hns
    go_enter Try.func5, Try.ntmps5
    go_wp2_with (go_at_call 16; (with_reducible refine (awake_any _).mono ?_); rintro e w7 ⟨rfl, hb7⟩)
    go_ret
    exact ⟨rfl, hb7⟩
  · have Hv := Lib.hid (var_any a c ns w (by omega) hns hp)
    have hvl := P.vars_len ns
    have hvl2 : (P.vars ns).length ≤ 1800 := by omega
    have Hns := Lib.hid hns
    have Hp := Lib.hid hp
    clear hns hp
    go_enter Try.func5, Try.ntmps5
    go_wp2_with (go_at_call 17; (with_reducible refine Hv.out.mono ?_); rintro e w1 ⟨rfl, hb1⟩)
    go_loopw [5, 6] (fun r i wr => ∃ k : Nat, k ≤ ns.length ∧ i = .int .i64 k ∧ r = S (P.vars (ns.drop k) ++ s) ∧ Below w.heap.size w wr) (fun _ i _ => ns.length - (intOf i).toNat)
    case atStart => exact ⟨0, by omega, rfl, rfl, hb1⟩
    case round =>
      obtain ⟨k, hk, rfl, rfl, hb⟩ := hrel
      by_cases hlt : k < ns.length
      · obtain ⟨b, o, rfl, hbb, hc⟩ := Hp.out k hlt
        have Hx := Lib.hid (fun (wr : World) (h : Below w.heap.size w wr) => (h.cell (p := ⟨b, o + k, none⟩) hbb).trans hc)
        clear hc
        have hn := Hns.out ns[k] (List.getElem_mem _)
        have Hd := Lib.hid (P.vars_drop ns k hlt)
        have hxl : (P.vars (ns.drop (k + 1))).length ≤ 1800 := by have := P.vars_len (ns.drop (k + 1)); simp at this; omega
        rw [Hd.out, List.append_assoc]
        generalize ns[k] = n at *
        have hr9 := P.row_len9 n
        have hr1 : 1 ≤ (P.row n).length := by rw [P.row_length]; omega
        generalize hxs : P.vars (ns.drop (k + 1)) ++ s = x at *
        have hxx : x.length ≤ 22000 := by rw [← hxs, List.length_append]; omega
        have hrd := P.read_row n hn x
        have Hrv := Lib.hid (fun w => readVar_any (P.row n ++ x) w (by rw [List.length_append]; omega))
        rw [hrd.1, hrd.2.1, hrd.2.2] at Hrv
        have Hcut := Lib.hid (str_from (P.row n) x)
        clear hrd
        generalize P.row n = r at *
        go_wp2_with (go_at_call 10; (with_reducible refine (Hrv.out _).mono ?_); rintro e w2 ⟨rfl, hb2⟩; have hcx := Hx.out _ (hb.trans (hb2.mono hb.size)))
        go_roundw
        case rel => exact ⟨k + 1, by omega, by go_num, by rw [Hcut.out, hxs], hb.trans (hb2.mono hb.size)⟩
        case measure => simp [intOf]; omega
      · obtain rfl : k = ns.length := by omega
        rw [List.drop_length, show P.vars [] ++ s = s by rfl]
        have Hrv := Lib.hid (fun w => readVar_any s w (by omega))
        by_cases hok : P.rOk s = true
        · have hr := P.row_read s hok
          have Hv1 := Lib.hid (fun w g hg => var_at (P.rNum s) hr.2.2.2 w g hg)
          rw [hr.2.2.1] at Hv1
          have hz1 := hr.1
          have hz2 := hr.2.1
          have hnn := hr.2.2.2
          have hz1i : (1 : Int) ≤ (P.rSize s : Int) := by omega
          have hz2i : (P.rSize s : Int) ≤ (s.length : Int) := by omega
          clear hr
          generalize P.rNum s = n at *
          generalize P.rSize s = z at *
          rw [hok] at Hrv
          go_wp2_with (go_at_call 10; (with_reducible refine (Hrv.out _).mono ?_); rintro e w2 ⟨rfl, hb2⟩)
          have hcc := Chain.up hb hb2
          go_region_held3 (fun wx => Below w.heap.size w wx) (first | exact hcc.drew | exact Chain.up (by assumption) hb3 | exact Chain.up (by assumption) hb4 | exact Below.alloc (by assumption) (Below.size (by assumption)) _) (first
            | (go_at_call 16; (with_reducible refine (awake_any _).mono ?_); rintro e w4 ⟨rfl, hb4⟩)
            | (go_at_call 17; (with_reducible refine (Hv1.out _ _ ?hc).mono ?_); (case hc => rw [World.cell?_drew, World.cell?_alloc_new]; rfl); rintro e w3 ⟨rfl, hb3⟩))
          go_wp2_with fail
          go_ret
          exact ⟨rfl, by assumption⟩
        · have hok' : P.rOk s = false := by simpa using hok
          rw [show P.rNum s = 0 by unfold P.rNum; rw [hok']; rfl, show P.rSize s = 0 by unfold P.rSize; rw [hok']; rfl, hok'] at Hrv
          go_wp2_with (first
            | (go_at_call 10; (with_reducible refine (Hrv.out _).mono ?_); rintro e w2 ⟨rfl, hb2⟩)
            | (go_at_call 16; (with_reducible refine (awake_any _).mono ?_); rintro e w3 ⟨rfl, hb3⟩))
          go_ret
          exact ⟨rfl, (hb.trans (hb2.mono hb.size)).trans (hb3.mono (by have := hb.size; have := hb2.size; omega))⟩
set_option maxRecDepth 100000 in
set_option maxHeartbeats 4000000 in
theorem law_back_long (a : Option Addr) (c : Nat) (ns : List Nat) (s s0 : List UInt8) (w : World) (hbig : 20000 < s0.length) (hqs : s0.take 20000 = s) (hn9 : ns.length ≤ 9223372036854775807) (hns : ∀ n ∈ ns, n < 18446744073709551616) (hp : NumsAt w a ns) (hs : s.length ≤ 20000) :
    Calls Try.prog 5 #[.slice a ns.length c, S s0] w fun e w' => e = .returned (.bool true) ∧ Below w.heap.size w w' := by
  by_cases h200 : 200 < ns.length
  · clear hp hns
    go_enter Try.func5, Try.ntmps5
    go_wp2_with (go_at_call 16; (with_reducible refine (awake_any _).mono ?_); rintro e w7 ⟨rfl, hb7⟩)
    go_ret
    exact ⟨rfl, hb7⟩
  · have Hv := Lib.hid (var_any a c ns w (by omega) hns hp)
    have hvl := P.vars_len ns
    have hvl2 : (P.vars ns).length ≤ 1800 := by omega
    have Hns := Lib.hid hns
    have Hp := Lib.hid hp
    clear hns hp
    go_enter Try.func5, Try.ntmps5
    go_wp2_with (go_at_call 17; (with_reducible refine Hv.out.mono ?_); rintro e w1 ⟨rfl, hb1⟩)
    go_loopw [5, 6] (fun r i wr => ∃ k : Nat, k ≤ ns.length ∧ i = .int .i64 k ∧ r = S (P.vars (ns.drop k) ++ s) ∧ Below w.heap.size w wr) (fun _ i _ => ns.length - (intOf i).toNat)
    case atStart => exact ⟨0, by omega, rfl, rfl, hb1⟩
    case round =>
      obtain ⟨k, hk, rfl, rfl, hb⟩ := hrel
      by_cases hlt : k < ns.length
      · obtain ⟨b, o, rfl, hbb, hc⟩ := Hp.out k hlt
        have Hx := Lib.hid (fun (wr : World) (h : Below w.heap.size w wr) => (h.cell (p := ⟨b, o + k, none⟩) hbb).trans hc)
        clear hc
        have hn := Hns.out ns[k] (List.getElem_mem _)
        have Hd := Lib.hid (P.vars_drop ns k hlt)
        have hxl : (P.vars (ns.drop (k + 1))).length ≤ 1800 := by have := P.vars_len (ns.drop (k + 1)); simp at this; omega
        rw [Hd.out, List.append_assoc]
        generalize ns[k] = n at *
        have hr9 := P.row_len9 n
        have hr1 : 1 ≤ (P.row n).length := by rw [P.row_length]; omega
        generalize hxs : P.vars (ns.drop (k + 1)) ++ s = x at *
        have hxx : x.length ≤ 22000 := by rw [← hxs, List.length_append]; omega
        have hrd := P.read_row n hn x
        have Hrv := Lib.hid (fun w => readVar_any (P.row n ++ x) w (by rw [List.length_append]; omega))
        rw [hrd.1, hrd.2.1, hrd.2.2] at Hrv
        have Hcut := Lib.hid (str_from (P.row n) x)
        clear hrd
        generalize P.row n = r at *
        go_wp2_with (go_at_call 10; (with_reducible refine (Hrv.out _).mono ?_); rintro e w2 ⟨rfl, hb2⟩; have hcx := Hx.out _ (hb.trans (hb2.mono hb.size)))
        go_roundw
        case rel => exact ⟨k + 1, by omega, by go_num, by rw [Hcut.out, hxs], hb.trans (hb2.mono hb.size)⟩
        case measure => simp [intOf]; omega
      · obtain rfl : k = ns.length := by omega
        rw [List.drop_length, show P.vars [] ++ s = s by rfl]
        have Hrv := Lib.hid (fun w => readVar_any s w (by omega))
        by_cases hok : P.rOk s = true
        · have hr := P.row_read s hok
          have Hv1 := Lib.hid (fun w g hg => var_at (P.rNum s) hr.2.2.2 w g hg)
          rw [hr.2.2.1] at Hv1
          have hz1 := hr.1
          have hz2 := hr.2.1
          have hnn := hr.2.2.2
          have hz1i : (1 : Int) ≤ (P.rSize s : Int) := by omega
          have hz2i : (P.rSize s : Int) ≤ (s.length : Int) := by omega
          clear hr
          generalize P.rNum s = n at *
          generalize P.rSize s = z at *
          rw [hok] at Hrv
          go_wp2_with (go_at_call 10; (with_reducible refine (Hrv.out _).mono ?_); rintro e w2 ⟨rfl, hb2⟩)
          have hcc := Chain.up hb hb2
          go_region_held3 (fun wx => Below w.heap.size w wx) (first | exact hcc.drew | exact Chain.up (by assumption) hb3 | exact Chain.up (by assumption) hb4 | exact Below.alloc (by assumption) (Below.size (by assumption)) _) (first
            | (go_at_call 16; (with_reducible refine (awake_any _).mono ?_); rintro e w4 ⟨rfl, hb4⟩)
            | (go_at_call 17; (with_reducible refine (Hv1.out _ _ ?hc).mono ?_); (case hc => rw [World.cell?_drew, World.cell?_alloc_new]; rfl); rintro e w3 ⟨rfl, hb3⟩))
          go_wp2_with fail
          go_ret
          exact ⟨rfl, by assumption⟩
        · have hok' : P.rOk s = false := by simpa using hok
          rw [show P.rNum s = 0 by unfold P.rNum; rw [hok']; rfl, show P.rSize s = 0 by unfold P.rSize; rw [hok']; rfl, hok'] at Hrv
          go_wp2_with (first
            | (go_at_call 10; (with_reducible refine (Hrv.out _).mono ?_); rintro e w2 ⟨rfl, hb2⟩)
            | (go_at_call 16; (with_reducible refine (awake_any _).mono ?_); rintro e w3 ⟨rfl, hb3⟩))
          go_ret
          exact ⟨rfl, (hb.trans (hb2.mono hb.size)).trans (hb3.mono (by have := hb.size; have := hb2.size; omega))⟩

theorem law_back' (a : Option Addr) (c : Nat) (ns : List Nat) (s : List UInt8) (w : World) (hn9 : ns.length ≤ 9223372036854775807) (hns : ∀ n ∈ ns, n < 18446744073709551616) (hp : NumsAt w a ns) (hs : s.length ≤ 9223372036854775807) :
    Calls Try.prog 5 #[.slice a ns.length c, S s] w fun e w' => e = .returned (.bool true) ∧ Below w.heap.size w w' := by
  by_cases hbig : 20000 < s.length
  · exact law_back_long a c ns (s.take 20000) s w hbig rfl hn9 hns hp (by simp; omega)
  · exact law_back a c ns s w hn9 hns hp (by omega)
end Go.Proofs.Ytifpdmkadgchjaa
