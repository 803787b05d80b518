/- FrameTail: of frames that are cut and turned just the records are read that lie whole ahead of the harm. The walk of the law. -/
import Derived.Test.YtmfabbncoekjhaaDoorLFrameKnown
import Derived.Test.YtmfabbncoekjhaaDoorPTail
import Derived.Test.YtmfabbncoekjhaaDoorWTurned
import Derived.BigRegion
namespace Go.Proofs.YtmfabbncoekjhaaDoor
open Go.RowKit
set_option linter.unusedVariables false

theorem great_bytes {ss : List (List UInt8)} (h : P.great ss = false) : P.fbytes ss = P.frames ss ∧ P.ferr ss = 0 := by
  have hg := (P.great_not h).2.2
  unfold P.fbytes P.ferr
  rw [hg]
  exact ⟨rfl, rfl⟩
theorem readF_empty (w : World) (ht : TabOk w) :
    Calls Tryd.prog 11 #[.string ByteArray.empty] w fun e w' => ∃ a c, e = .returned (.tuple #[.slice a (P.recs []).length c, .int .i64 (P.whole [])]) ∧ StrsAt w' a (P.recs []) ∧ Below w.heap.size w w' := readF_any [] w (by simp) ht
theorem strs_take {w : World} {a : Option Addr} {l : List (List UInt8)} (n : Nat) (h : StrsAt w a l) : StrsAt w a (l.take n) := by
  intro i hi
  have hi' : i < l.length := by simp at hi; omega
  obtain ⟨b, o, e, hb, hc⟩ := h i hi'
  exact ⟨b, o, e, hb, by rw [hc]; simp⟩

attribute [local go_sem] str_takeN str_dropN str_at

set_option maxRecDepth 100000 in
set_option maxHeartbeats 4000000 in
theorem tail_none (a : Option Addr) (c : Nat) (l : List (List UInt8)) (cut at_ : Nat) (m : BitVec 32) (w : World) (hl9 : l.length ≤ 9223372036854775807) (hp : StrsAt w a l) (ht : TabOk w) (hg1 : P.great l = true) :
    Calls Tryd.prog 7 #[.slice a l.length c, .int .u16 cut, .int .u16 at_, W32 m] w fun e w' => e = .returned (.bool true) ∧ Below w.heap.size w w' := by
  have HG1 := Lib.hid (great_any a c l w hl9 hp)
  rw [hg1] at HG1
  go_enter Tryd.func7, Tryd.ntmps7
  go_wp2_with (first
    | (go_at_call 14; (with_reducible refine (HG1.out).mono ?_); rintro e w1 ⟨rfl, hb1⟩)
    | (go_at_call 13; (with_reducible refine (awake_any _ (ht.up hb1)).mono ?_); rintro e w2 ⟨rfl, hb2⟩))
  go_ret
  exact ⟨rfl, Chain.up hb1 hb2⟩

set_option maxRecDepth 100000 in
set_option maxHeartbeats 4000000 in
theorem tail_some (a : Option Addr) (c : Nat) (l : List (List UInt8)) (cut at_ : Nat) (m : BitVec 32) (w : World) (hl9 : l.length ≤ 9223372036854775807) (hls : ∀ r ∈ l, r.length ≤ 9223372036854775807) (hp : StrsAt w a l) (hlc : l.length ≤ c) (ht : TabOk w) (hg1 : P.great l = false)
    (hcut : cut < 65536) (hat : at_ < 65536) (h0 : 0 < (P.frames l).length ∧ 0 < cut % ((P.frames l).length + 1)) :
    Calls Tryd.prog 7 #[.slice a l.length c, .int .u16 cut, .int .u16 at_, W32 m] w fun e w' => e = .returned (.bool true) ∧ Below w.heap.size w w' := by
  have HG1 := Lib.hid (great_any a c l w hl9 hp)
  rw [hg1] at HG1
  have n1 := P.great_not hg1
  have s1 := P.frames_small hg1
  have HW1 := Lib.hid (fun wx (hx : Below w.heap.size w wx) => writeF_any a c l wx (by omega) (hp.up hx) hls (ht.up hx))
  rw [(great_bytes hg1).1, (great_bytes hg1).2] at HW1
  have hkl : cut % ((P.frames l).length + 1) ≤ (P.frames l).length := by have := Nat.mod_lt cut (show 0 < (P.frames l).length + 1 by omega); omega
  have htl : ((P.frames l).take (cut % ((P.frames l).length + 1))).length = cut % ((P.frames l).length + 1) := by rw [List.length_take, Nat.min_eq_left hkl]
  have Htl0 := Lib.hid (fun u hl p hwin n hn hw hend => P.tail_whole l ((P.fok_iff l).1 n1.2.2) ((P.frames l).take (cut % ((P.frames l).length + 1))) u ((P.frames l).drop (cut % ((P.frames l).length + 1))) (List.take_append_drop _ _).symm hl p hwin n hn hw hend)
  have Hcut := Lib.hid (show ((cut : Int) % (((P.frames l).length : Int) + 1)) = ((cut % ((P.frames l).length + 1) : Nat) : Int) by simp)
  have Hok := Lib.hid ((P.fok_iff l).1 n1.2.2)
  have HP := Lib.hid hp
  clear n1 hp hg1
  generalize hs0 : P.frames l = s at *
  generalize hk0 : cut % (s.length + 1) = k at *
  have hcutk := Hcut.out
  have hk0i : (0 : Int) < (k : Int) := by omega
  have hkli : (k : Int) ≤ (s.length : Int) := by omega
  generalize ht0 : s.take k = t at *
  have hpk : at_ % k < k := Nat.mod_lt _ (by omega)
  have hT := Lib.hid (fun W => turned_any t (at_ % k) m W (by omega) (by omega))
  have hul := P.turned_length t (at_ % k) m
  have Htail := Lib.hid (Htl0.out (P.turned t (at_ % k) m) hul (at_ % k) (fun i hi => (P.trn_get t (at_ % k) m i 4 (by omega) hi).symm))
  have hdl := P.diff_le t (P.turned t (at_ % k) m)
  have Hsame := Lib.hid (fun i hi => P.diff_same t (P.turned t (at_ % k) m) i hi)
  have Hnot := Lib.hid (fun h => P.diff_not t (P.turned t (at_ % k) m) hul.symm h)
  rw [Int.natCast_emod] at hT
  rw [htl] at hul hdl Hnot
  generalize P.turned t (at_ % k) m = u at *
  generalize hd0 : P.diff t u = h at *
  clear hd0 Htl0
  go_enter Tryd.func7, Tryd.ntmps7
  go_wp2_with (first
    | (go_at_call 14; (with_reducible refine (HG1.out).mono ?_); rintro e w1 ⟨rfl, hb1⟩)
    | (go_at_call 10; (with_reducible refine (HW1.out _ hb1).mono ?_); rintro e w2 ⟨rfl, hb2⟩; have hc2 := Chain.up hb1 hb2)
    | (go_at_call 17; (with_reducible refine (hT.out _).mono ?_); rintro e w3 ⟨rfl, hb3⟩; have hc3 := Chain.up hc2 hb3))
  go_loopw [12, 14] (fun z i wr => ∃ (j q : Nat), i = .int .i64 j ∧ z = .int .i64 q ∧ j ≤ k ∧ (q = k ∧ j ≤ h ∨ q = h ∧ j = h + 1 ∧ h < k) ∧ Below w.heap.size w wr) (fun _ i _ => k - (intOf i).toNat)
  case atStart => exact ⟨0, k, rfl, rfl, by omega, .inl ⟨rfl, by omega⟩, hc3⟩
  case round =>
    obtain ⟨j, q, rfl, rfl, hjk, hq, HB⟩ := hrel
    clear hc3 hb1 hb2 hb3 hc2
    by_cases hcont : j < k ∧ q = k
    · obtain ⟨hj, rfl⟩ := hcont
      have hjh : j ≤ h := by omega
      have hj1 : (j : Int) < (t.length : Int) := by omega
      have hj2 : (j : Int) < (u.length : Int) := by omega
      have hji : (j : Int) < (q : Int) := by omega
      by_cases hlt : j < h
      · have hs := Hsame.out j hlt
        have he : P.at_ t j = P.at_ u j := by unfold P.at_; rw [List.getD_eq_getElem?_getD, List.getD_eq_getElem?_getD, hs]
        go_wp2_with fail
        go_region
        go_wp2
        go_roundw
        case rel => exact ⟨j + 1, q, by go_num, rfl, by omega, .inl ⟨rfl, by omega⟩, HB.drew⟩
        case measure => simp [intOf]; omega
      · obtain rfl : j = h := by omega
        have hs := Hnot.out hj
        have he : ¬ P.at_ t j = P.at_ u j := by
          intro e
          unfold P.at_ at e
          rw [List.getD_eq_getElem?_getD, List.getD_eq_getElem?_getD, List.getElem?_eq_getElem (show j < t.length by omega), List.getElem?_eq_getElem (show j < u.length by omega)] at e
          apply hs
          rw [List.getElem?_eq_getElem (show j < t.length by omega), List.getElem?_eq_getElem (show j < u.length by omega)]
          exact congrArg some (UInt8.toNat_inj.1 e)
        have hei : ¬ (P.at_ t j : Int) = (P.at_ u j : Int) := by omega
        clear hs
        go_wp2_with fail
        go_region
        go_wp2
        go_roundw
        case rel => exact ⟨j + 1, j, by go_num, rfl, by omega, .inr ⟨rfl, rfl, hj⟩, HB.drew⟩
        case measure => simp [intOf]; omega
    · have hqh : h = q := by omega
      subst hqh
      clear hq
      by_cases hj : j < k
      · have hji : (j : Int) < (k : Int) := by omega
        have hqi : ¬ (h : Int) = (k : Int) := by omega
        have hqb : ((h : Int) == (k : Int)) = false := by simp; omega
        go_wp2_with fail
        go_loopw [15, 16] (fun z n wr => ∃ k : Nat, k ≤ l.length ∧ n = .int .i64 k ∧ z = .int .i64 ((P.frames (l.take k)).length : Int) ∧ (P.frames (l.take k)).length ≤ h ∧ Below w.heap.size w wr) (fun _ n _ => l.length - (intOf n).toNat)
        case atStart => exact ⟨0, by omega, rfl, rfl, by simp [P.frames], HB⟩
        case round =>
          obtain ⟨n, hn, rfl, rfl, hwd, hb2⟩ := hrel
          by_cases hlt : n < l.length
          · obtain ⟨bk, o, rfl, hbb, hcc⟩ := HP.out n hlt
            have hc0 := (hb2.cell (p := ⟨bk, o + n, none⟩) hbb).trans hcc
            have hri := Hok.out l[n] (List.getElem_mem _)
            have HW := Lib.hid (fun wx ht g hg => writeF_one l[n] hri wx ht g hg)
            have hfl : (P.frame l[n]).length ≤ 1000000 := by rw [P.frame_length]; have := P.cells_le l[n].length; omega
            have Hnx := Lib.hid (show (P.frames (l.take (n + 1))).length = (P.frames (l.take n)).length + (P.frame l[n]).length by rw [List.take_succ_eq_append_getElem hlt, P.frames_snoc, List.length_append])
            have Hend := Lib.hid (show h < (P.frames (l.take n)).length + (P.frame l[n]).length → ∀ hh : n < l.length, h < (P.frames (l.take n)).length + (P.frame l[n]).length from fun hz _ => hz)
            clear hcc
            by_cases hbrk : h < (P.frames (l.take n)).length + (P.frame l[n]).length
            · have hend := Hend.out hbrk
              have hbi : (h : Int) < ((P.frames (l.take n)).length : Int) + ((P.frame l[n]).length : Int) := by omega
              have hwi : ((P.frames (l.take n)).length : Int) ≤ 1000000 := by omega
              generalize P.frame l[n] = f at *
              generalize l[n] = r at *
              go_wp2_with (go_at_call 10; (with_reducible refine (HW.out _ (ht.up hb2) _ rfl).mono ?_); rintro e w5 ⟨rfl, hb5⟩; replace hb2 := Chain.up hb2 hb5; clear hb5)
              have HR := Lib.hid (fun wx (hx : Below w.heap.size w wx) => readF_any u wx (by omega) (ht.up hx))
              have hW := Htail.out n hn hwd hend
              rw [hW.eq.1, hW.eq.2, List.length_take, Nat.min_eq_left hn] at HR
              have HS := Lib.hid (fun a3 c3 wx (h3 : StrsAt wx a3 (l.take n)) (hx : Below w.heap.size w wx) => same_any a3 _ c3 c (l.take n) (l.take n) wx (by simp; omega) (by simp; omega) h3 (strs_take n (HP.out.up hx)))
              rw [List.length_take, Nat.min_eq_left hn, show ((l.take n) == (l.take n)) = true by simp] at HS
              have hni : (n : Int) ≤ (c : Int) := by omega
              have hnl : (n : Int) ≤ (l.length : Int) := by omega
              clear hW hend
              go_wp2_with (first
                | (go_at_call 11; (with_reducible refine (HR.out _ hb2).mono ?_); rintro e w8 ⟨a8, c8, rfl, hs8, hb8⟩; have hc8 := Chain.up hb2 hb8)
                | (go_at_call 12; (with_reducible refine (HS.out _ _ _ hs8 hc8).mono ?_); rintro e w9 ⟨rfl, hb9⟩; have hc9 := Chain.up hc8 hb9)
                | (go_at_call 13; (with_reducible refine (awake_any _ (ht.up hc9)).mono ?_); rintro e w10 ⟨rfl, hb10⟩; have hc10 := Chain.up hc9 hb10))
              go_ret
              exact ⟨rfl, hc10⟩
            · have hbi : ((P.frames (l.take n)).length : Int) + ((P.frame l[n]).length : Int) ≤ (h : Int) := by omega
              generalize P.frame l[n] = f at *
              generalize l[n] = r at *
              go_wp2_with (go_at_call 10; (with_reducible refine (HW.out _ (ht.up hb2) _ rfl).mono ?_); rintro e w5 ⟨rfl, hb5⟩; replace hb2 := Chain.up hb2 hb5; clear hb5)
              go_roundw
              case rel => exact ⟨n + 1, by omega, by go_num, by rw [Hnx.out]; exact congrArg (Value.int .i64) (by omega), by rw [Hnx.out]; omega, hb2⟩
              case measure => simp [intOf]; omega
          · have hend : ∀ hh : n < l.length, h < (P.frames (l.take n)).length + (P.frame l[n]).length := fun hh => absurd hh hlt
            have HR := Lib.hid (fun wx (hx : Below w.heap.size w wx) => readF_any u wx (by omega) (ht.up hx))
            have hW := Htail.out n hn hwd hend
            rw [hW.eq.1, hW.eq.2, List.length_take, Nat.min_eq_left hn] at HR
            have HS := Lib.hid (fun a3 c3 wx (h3 : StrsAt wx a3 (l.take n)) (hx : Below w.heap.size w wx) => same_any a3 _ c3 c (l.take n) (l.take n) wx (by simp; omega) (by simp; omega) h3 (strs_take n (HP.out.up hx)))
            rw [List.length_take, Nat.min_eq_left hn, show ((l.take n) == (l.take n)) = true by simp] at HS
            have hni : (n : Int) ≤ (c : Int) := by omega
            have hnl : (n : Int) ≤ (l.length : Int) := by omega
            clear hW hend
            go_wp2_with (first
              | (go_at_call 11; (with_reducible refine (HR.out _ hb2).mono ?_); rintro e w8 ⟨a8, c8, rfl, hs8, hb8⟩; have hc8 := Chain.up hb2 hb8)
              | (go_at_call 12; (with_reducible refine (HS.out _ _ _ hs8 hc8).mono ?_); rintro e w9 ⟨rfl, hb9⟩; have hc9 := Chain.up hc8 hb9)
              | (go_at_call 13; (with_reducible refine (awake_any _ (ht.up hc9)).mono ?_); rintro e w10 ⟨rfl, hb10⟩; have hc10 := Chain.up hc9 hb10))
            go_ret
            exact ⟨rfl, hc10⟩
      · have hji : (k : Int) ≤ (j : Int) := by omega
        go_wp2_with fail
        go_loopw [15, 16] (fun z n wr => ∃ k : Nat, k ≤ l.length ∧ n = .int .i64 k ∧ z = .int .i64 ((P.frames (l.take k)).length : Int) ∧ (P.frames (l.take k)).length ≤ h ∧ Below w.heap.size w wr) (fun _ n _ => l.length - (intOf n).toNat)
        case atStart => exact ⟨0, by omega, rfl, rfl, by simp [P.frames], HB⟩
        case round =>
          obtain ⟨n, hn, rfl, rfl, hwd, hb2⟩ := hrel
          by_cases hlt : n < l.length
          · obtain ⟨bk, o, rfl, hbb, hcc⟩ := HP.out n hlt
            have hc0 := (hb2.cell (p := ⟨bk, o + n, none⟩) hbb).trans hcc
            have hri := Hok.out l[n] (List.getElem_mem _)
            have HW := Lib.hid (fun wx ht g hg => writeF_one l[n] hri wx ht g hg)
            have hfl : (P.frame l[n]).length ≤ 1000000 := by rw [P.frame_length]; have := P.cells_le l[n].length; omega
            have Hnx := Lib.hid (show (P.frames (l.take (n + 1))).length = (P.frames (l.take n)).length + (P.frame l[n]).length by rw [List.take_succ_eq_append_getElem hlt, P.frames_snoc, List.length_append])
            have Hend := Lib.hid (show h < (P.frames (l.take n)).length + (P.frame l[n]).length → ∀ hh : n < l.length, h < (P.frames (l.take n)).length + (P.frame l[n]).length from fun hz _ => hz)
            clear hcc
            by_cases hbrk : h < (P.frames (l.take n)).length + (P.frame l[n]).length
            · have hend := Hend.out hbrk
              have hbi : (h : Int) < ((P.frames (l.take n)).length : Int) + ((P.frame l[n]).length : Int) := by omega
              have hwi : ((P.frames (l.take n)).length : Int) ≤ 1000000 := by omega
              generalize P.frame l[n] = f at *
              generalize l[n] = r at *
              go_wp2_with (go_at_call 10; (with_reducible refine (HW.out _ (ht.up hb2) _ rfl).mono ?_); rintro e w5 ⟨rfl, hb5⟩; replace hb2 := Chain.up hb2 hb5; clear hb5)
              have HR := Lib.hid (fun wx (hx : Below w.heap.size w wx) => readF_any u wx (by omega) (ht.up hx))
              have hW := Htail.out n hn hwd hend
              rw [hW.eq.1, hW.eq.2, List.length_take, Nat.min_eq_left hn] at HR
              have HS := Lib.hid (fun a3 c3 wx (h3 : StrsAt wx a3 (l.take n)) (hx : Below w.heap.size w wx) => same_any a3 _ c3 c (l.take n) (l.take n) wx (by simp; omega) (by simp; omega) h3 (strs_take n (HP.out.up hx)))
              rw [List.length_take, Nat.min_eq_left hn, show ((l.take n) == (l.take n)) = true by simp] at HS
              have hni : (n : Int) ≤ (c : Int) := by omega
              have hnl : (n : Int) ≤ (l.length : Int) := by omega
              clear hW hend
              go_wp2_with (first
                | (go_at_call 11; (with_reducible refine (HR.out _ hb2).mono ?_); rintro e w8 ⟨a8, c8, rfl, hs8, hb8⟩; have hc8 := Chain.up hb2 hb8)
                | (go_at_call 12; (with_reducible refine (HS.out _ _ _ hs8 hc8).mono ?_); rintro e w9 ⟨rfl, hb9⟩; have hc9 := Chain.up hc8 hb9)
                | (go_at_call 13; (with_reducible refine (awake_any _ (ht.up hc9)).mono ?_); rintro e w10 ⟨rfl, hb10⟩; have hc10 := Chain.up hc9 hb10))
              go_ret
              exact ⟨rfl, hc10⟩
            · have hbi : ((P.frames (l.take n)).length : Int) + ((P.frame l[n]).length : Int) ≤ (h : Int) := by omega
              generalize P.frame l[n] = f at *
              generalize l[n] = r at *
              go_wp2_with (go_at_call 10; (with_reducible refine (HW.out _ (ht.up hb2) _ rfl).mono ?_); rintro e w5 ⟨rfl, hb5⟩; replace hb2 := Chain.up hb2 hb5; clear hb5)
              go_roundw
              case rel => exact ⟨n + 1, by omega, by go_num, by rw [Hnx.out]; exact congrArg (Value.int .i64) (by omega), by rw [Hnx.out]; omega, hb2⟩
              case measure => simp [intOf]; omega
          · have hend : ∀ hh : n < l.length, h < (P.frames (l.take n)).length + (P.frame l[n]).length := fun hh => absurd hh hlt
            have HR := Lib.hid (fun wx (hx : Below w.heap.size w wx) => readF_any u wx (by omega) (ht.up hx))
            have hW := Htail.out n hn hwd hend
            rw [hW.eq.1, hW.eq.2, List.length_take, Nat.min_eq_left hn] at HR
            have HS := Lib.hid (fun a3 c3 wx (h3 : StrsAt wx a3 (l.take n)) (hx : Below w.heap.size w wx) => same_any a3 _ c3 c (l.take n) (l.take n) wx (by simp; omega) (by simp; omega) h3 (strs_take n (HP.out.up hx)))
            rw [List.length_take, Nat.min_eq_left hn, show ((l.take n) == (l.take n)) = true by simp] at HS
            have hni : (n : Int) ≤ (c : Int) := by omega
            have hnl : (n : Int) ≤ (l.length : Int) := by omega
            clear hW hend
            go_wp2_with (first
              | (go_at_call 11; (with_reducible refine (HR.out _ hb2).mono ?_); rintro e w8 ⟨a8, c8, rfl, hs8, hb8⟩; have hc8 := Chain.up hb2 hb8)
              | (go_at_call 12; (with_reducible refine (HS.out _ _ _ hs8 hc8).mono ?_); rintro e w9 ⟨rfl, hb9⟩; have hc9 := Chain.up hc8 hb9)
              | (go_at_call 13; (with_reducible refine (awake_any _ (ht.up hc9)).mono ?_); rintro e w10 ⟨rfl, hb10⟩; have hc10 := Chain.up hc9 hb10))
            go_ret
            exact ⟨rfl, hc10⟩

set_option maxRecDepth 100000 in
set_option maxHeartbeats 4000000 in
theorem tail_zero (a : Option Addr) (c : Nat) (l : List (List UInt8)) (cut at_ : Nat) (m : BitVec 32) (w : World) (hl9 : l.length ≤ 9223372036854775807) (hls : ∀ r ∈ l, r.length ≤ 9223372036854775807) (hp : StrsAt w a l) (hlc : l.length ≤ c) (ht : TabOk w) (hg1 : P.great l = false)
    (hcut : cut < 65536) (hat : at_ < 65536) (h0 : cut % ((P.frames l).length + 1) = 0) :
    Calls Tryd.prog 7 #[.slice a l.length c, .int .u16 cut, .int .u16 at_, W32 m] w fun e w' => e = .returned (.bool true) ∧ Below w.heap.size w w' := by
  have HG1 := Lib.hid (great_any a c l w hl9 hp)
  rw [hg1] at HG1
  have n1 := P.great_not hg1
  have s1 := P.frames_small hg1
  have HW1 := Lib.hid (fun wx (hx : Below w.heap.size w wx) => writeF_any a c l wx (by omega) (hp.up hx) hls (ht.up hx))
  rw [(great_bytes hg1).1, (great_bytes hg1).2] at HW1
  have Htail := Lib.hid (P.tail_whole l ((P.fok_iff l).1 n1.2.2) [] [] (P.frames l) rfl rfl 0 (fun _ _ => rfl))
  rw [show P.diff [] [] = 0 from rfl] at Htail
  have hcutk : ((cut : Int) % (((P.frames l).length : Int) + 1)) = 0 := by
    have : ((cut % ((P.frames l).length + 1) : Nat) : Int) = 0 := by rw [h0]; rfl
    simpa using this
  have Hok := Lib.hid ((P.fok_iff l).1 n1.2.2)
  have HP := Lib.hid hp
  have hul : ([] : List UInt8).length = 0 := rfl
  clear n1 hp hg1 h0
  generalize hs0 : P.frames l = s at *
  go_enter Tryd.func7, Tryd.ntmps7
  go_wp2_with (first
    | (go_at_call 14; (with_reducible refine (HG1.out).mono ?_); rintro e w1 ⟨rfl, hb1⟩)
    | (go_at_call 10; (with_reducible refine (HW1.out _ hb1).mono ?_); rintro e w2 ⟨rfl, hb2⟩; have hc2 := Chain.up hb1 hb2))
  have HB := hc2
  clear hb1 hb2 hc2 hcutk
  go_loopw [15, 16] (fun z n wr => ∃ k : Nat, k ≤ l.length ∧ n = .int .i64 k ∧ z = .int .i64 ((P.frames (l.take k)).length : Int) ∧ (P.frames (l.take k)).length ≤ 0 ∧ Below w.heap.size w wr) (fun _ n _ => l.length - (intOf n).toNat)
  case atStart => exact ⟨0, by omega, rfl, rfl, by simp [P.frames], HB⟩
  case round =>
    obtain ⟨n, hn, rfl, rfl, hwd, hb2⟩ := hrel
    by_cases hlt : n < l.length
    · obtain ⟨bk, o, rfl, hbb, hcc⟩ := HP.out n hlt
      have hc0 := (hb2.cell (p := ⟨bk, o + n, none⟩) hbb).trans hcc
      have hri := Hok.out l[n] (List.getElem_mem _)
      have HW := Lib.hid (fun wx ht g hg => writeF_one l[n] hri wx ht g hg)
      have hfl : (P.frame l[n]).length ≤ 1000000 := by rw [P.frame_length]; have := P.cells_le l[n].length; omega
      have Hnx := Lib.hid (show (P.frames (l.take (n + 1))).length = (P.frames (l.take n)).length + (P.frame l[n]).length by rw [List.take_succ_eq_append_getElem hlt, P.frames_snoc, List.length_append])
      have Hend := Lib.hid (show 0 < (P.frames (l.take n)).length + (P.frame l[n]).length → ∀ hh : n < l.length, 0 < (P.frames (l.take n)).length + (P.frame l[n]).length from fun hz _ => hz)
      clear hcc
      by_cases hbrk : 0 < (P.frames (l.take n)).length + (P.frame l[n]).length
      · have hend := Hend.out hbrk
        have hbi : (0 : Int) < ((P.frames (l.take n)).length : Int) + ((P.frame l[n]).length : Int) := by omega
        have hwi : ((P.frames (l.take n)).length : Int) ≤ 1000000 := by omega
        generalize P.frame l[n] = f at *
        generalize l[n] = r at *
        go_wp2_with (go_at_call 10; (with_reducible refine (HW.out _ (ht.up hb2) _ rfl).mono ?_); rintro e w5 ⟨rfl, hb5⟩; replace hb2 := Chain.up hb2 hb5; clear hb5)
        have HR := Lib.hid (fun wx (hx : Below w.heap.size w wx) => readF_empty wx (ht.up hx))
        have hW := Htail.out n hn hwd hend
        rw [hW.eq.1, hW.eq.2, List.length_take, Nat.min_eq_left hn] at HR
        have HS := Lib.hid (fun a3 c3 wx (h3 : StrsAt wx a3 (l.take n)) (hx : Below w.heap.size w wx) => same_any a3 _ c3 c (l.take n) (l.take n) wx (by simp; omega) (by simp; omega) h3 (strs_take n (HP.out.up hx)))
        rw [List.length_take, Nat.min_eq_left hn, show ((l.take n) == (l.take n)) = true by simp] at HS
        have hni : (n : Int) ≤ (c : Int) := by omega
        have hnl : (n : Int) ≤ (l.length : Int) := by omega
        clear hW hend
        go_wp2_with (first
          | (go_at_call 11; (with_reducible refine (HR.out _ hb2).mono ?_); rintro e w8 ⟨a8, c8, rfl, hs8, hb8⟩; have hc8 := Chain.up hb2 hb8)
          | (go_at_call 12; (with_reducible refine (HS.out _ _ _ hs8 hc8).mono ?_); rintro e w9 ⟨rfl, hb9⟩; have hc9 := Chain.up hc8 hb9)
          | (go_at_call 13; (with_reducible refine (awake_any _ (ht.up hc9)).mono ?_); rintro e w10 ⟨rfl, hb10⟩; have hc10 := Chain.up hc9 hb10))
        go_ret
        exact ⟨rfl, hc10⟩
      · have hbi : ((P.frames (l.take n)).length : Int) + ((P.frame l[n]).length : Int) ≤ (0 : Int) := by omega
        generalize P.frame l[n] = f at *
        generalize l[n] = r at *
        go_wp2_with (go_at_call 10; (with_reducible refine (HW.out _ (ht.up hb2) _ rfl).mono ?_); rintro e w5 ⟨rfl, hb5⟩; replace hb2 := Chain.up hb2 hb5; clear hb5)
        go_roundw
        case rel => exact ⟨n + 1, by omega, by go_num, by rw [Hnx.out]; exact congrArg (Value.int .i64) (by omega), by rw [Hnx.out]; omega, hb2⟩
        case measure => simp [intOf]; omega
    · have hend : ∀ hh : n < l.length, 0 < (P.frames (l.take n)).length + (P.frame l[n]).length := fun hh => absurd hh hlt
      have HR := Lib.hid (fun wx (hx : Below w.heap.size w wx) => readF_empty wx (ht.up hx))
      have hW := Htail.out n hn hwd hend
      rw [hW.eq.1, hW.eq.2, List.length_take, Nat.min_eq_left hn] at HR
      have HS := Lib.hid (fun a3 c3 wx (h3 : StrsAt wx a3 (l.take n)) (hx : Below w.heap.size w wx) => same_any a3 _ c3 c (l.take n) (l.take n) wx (by simp; omega) (by simp; omega) h3 (strs_take n (HP.out.up hx)))
      rw [List.length_take, Nat.min_eq_left hn, show ((l.take n) == (l.take n)) = true by simp] at HS
      have hni : (n : Int) ≤ (c : Int) := by omega
      have hnl : (n : Int) ≤ (l.length : Int) := by omega
      clear hW hend
      go_wp2_with (first
        | (go_at_call 11; (with_reducible refine (HR.out _ hb2).mono ?_); rintro e w8 ⟨a8, c8, rfl, hs8, hb8⟩; have hc8 := Chain.up hb2 hb8)
        | (go_at_call 12; (with_reducible refine (HS.out _ _ _ hs8 hc8).mono ?_); rintro e w9 ⟨rfl, hb9⟩; have hc9 := Chain.up hc8 hb9)
        | (go_at_call 13; (with_reducible refine (awake_any _ (ht.up hc9)).mono ?_); rintro e w10 ⟨rfl, hb10⟩; have hc10 := Chain.up hc9 hb10))
      go_ret
      exact ⟨rfl, hc10⟩
/-- The law, as the row asks it. -/
theorem law_tail (a : Option Addr) (c : Nat) (l : List (List UInt8)) (x y z : Int) (w : World) (hl9 : l.length ≤ 9223372036854775807) (hls : ∀ r ∈ l, r.length ≤ 9223372036854775807) (hp : StrsAt w a l) (_hn : a = none → c = 0) (hlc : l.length ≤ c)
    (hx : (Lit.int .u16 x).wf = true) (hy : (Lit.int .u16 y).wf = true) (hz : (Lit.int .u32 z).wf = true) (ht : TabOk w) :
    Calls Tryd.prog 7 #[.slice a l.length c, .int .u16 x, .int .u16 y, .int .u32 z] w fun e w' => e = .returned (.bool true) ∧ Below w.heap.size w w' := by
  obtain ⟨cut, rfl, hcut⟩ : ∃ k : Nat, x = k ∧ k < 65536 := by
    simp [Lit.wf, IntKind.min, IntKind.max, IntKind.signed, IntKind.bits] at hx
    exact ⟨x.toNat, by omega, by omega⟩
  obtain ⟨at_, rfl, hat⟩ : ∃ k : Nat, y = k ∧ k < 65536 := by
    simp [Lit.wf, IntKind.min, IntKind.max, IntKind.signed, IntKind.bits] at hy
    exact ⟨y.toNat, by omega, by omega⟩
  obtain ⟨m, rfl⟩ : ∃ m : BitVec 32, z = n32 m := by
    have hb : 0 ≤ z ∧ z ≤ 4294967295 := by
      simp [Lit.wf, IntKind.min, IntKind.max, IntKind.signed, IntKind.bits] at hz
      omega
    refine ⟨BitVec.ofNat 32 z.toNat, ?_⟩
    unfold n32
    rw [BitVec.toNat_ofNat]
    omega
  cases hg1 : P.great l with
  | true => exact tail_none a c l cut at_ m w hl9 hp ht hg1
  | false =>
    by_cases h0 : cut % ((P.frames l).length + 1) = 0
    · exact tail_zero a c l cut at_ m w hl9 hls hp hlc ht hg1 hcut hat h0
    · have hlt := Nat.mod_lt cut (show 0 < (P.frames l).length + 1 by omega)
      exact tail_some a c l cut at_ m w hl9 hls hp hlc ht hg1 hcut hat ⟨by omega, by omega⟩
end Go.Proofs.YtmfabbncoekjhaaDoor
