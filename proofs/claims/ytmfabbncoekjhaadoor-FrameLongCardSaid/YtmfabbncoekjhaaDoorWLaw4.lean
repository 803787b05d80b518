/- The walks of Great, Same and awake. -/
import Derived.Test.YtmfabbncoekjhaaDoorWFrameR
import Derived.BigRegion
namespace Go.Proofs.YtmfabbncoekjhaaDoor
open Go.RowKit
set_option linter.unusedVariables false

/-- How many bytes texts have. -/
def P.total (ss : List (List UInt8)) : Nat := (ss.map List.length).sum
theorem P.total_cons (s : List UInt8) (ss : List (List UInt8)) : P.total (s :: ss) = s.length + P.total ss := by simp [P.total]
theorem P.total_snoc (ss : List (List UInt8)) (s : List UInt8) : P.total (ss ++ [s]) = P.total ss + s.length := by simp [P.total]
theorem P.mem_total : ∀ (ss : List (List UInt8)) (s : List UInt8), s ∈ ss → s.length ≤ P.total ss
  | t :: ss, s, h => by
    rw [P.total_cons]
    rcases List.mem_cons.1 h with rfl | h
    · omega
    · have := P.mem_total ss s h; omega
def P.great (ss : List (List UInt8)) : Bool := decide (60 < ss.length ∨ 4000 < P.total ss)
theorem P.great_not {ss : List (List UInt8)} (h : P.great ss = false) : ss.length ≤ 60 ∧ P.total ss ≤ 4000 ∧ P.fok ss = true := by
  unfold P.great at h
  have := of_decide_eq_false h
  refine ⟨by omega, by omega, (P.fok_iff ss).2 fun r hr => ?_⟩
  have := P.mem_total ss r hr
  omega
theorem P.frames_small {ss : List (List UInt8)} (h : P.great ss = false) : (P.frames ss).length ≤ 20000 := by
  have hg := P.great_not h
  have : ∀ ss : List (List UInt8), (P.frames ss).length ≤ 32 * ss.length + 2 * P.total ss := by
    intro ss
    induction ss with
    | nil => simp [P.frames]
    | cons s ss ih =>
      have := P.cells_le s.length
      rw [P.frames_cons, List.length_append, P.frame_length, P.total_cons, List.length_cons]
      omega
  have := this ss
  omega

set_option maxRecDepth 100000 in
set_option maxHeartbeats 2000000 in
theorem great_any (a : Option Addr) (c : Nat) (ss : List (List UInt8)) (w : World) (hlen : ss.length ≤ 9223372036854775807) (hp : StrsAt w a ss) :
    Calls Tryd.prog 14 #[.slice a ss.length c] w fun e w' => e = .returned (.bool (P.great ss)) ∧ Below w.heap.size w w' := by
  have Hp := Lib.hid hp
  clear hp
  by_cases h200 : 60 < ss.length
  · have Hg := Lib.hid (show P.great ss = true from decide_eq_true (.inl h200))
    go_enter Tryd.func14, Tryd.ntmps14
    go_wp2
    go_ret
    exact ⟨by rw [Hg.out]; rfl, Below.refl _ _⟩
  · have hl200 : ss.length ≤ 60 := by omega
    go_enter Tryd.func14, Tryd.ntmps14
    go_wp2
    go_loop [3, 4] (fun n i => ∃ k : Nat, k ≤ ss.length ∧ i = .int .i64 k ∧ n = .int .i64 (P.total (ss.take k) : Int) ∧ P.total (ss.take k) ≤ 4000 * k) (fun _ i => ss.length - (intOf i).toNat)
    case atStart => exact ⟨0, by omega, rfl, rfl, by simp [P.total]⟩
    case round =>
      obtain ⟨k, hk, rfl, rfl, hkt⟩ := hrel
      by_cases hlt : k < ss.length
      · obtain ⟨b, o, rfl, hbb, hc⟩ := Hp.out k hlt
        have Hnx := Lib.hid (show P.total (ss.take (k + 1)) = P.total (ss.take k) + ss[k].length by rw [List.take_succ_eq_append_getElem hlt, P.total_snoc])
        have Hone := Lib.hid (show 4000 < ss[k].length → P.great ss = true from fun h => decide_eq_true (.inr (by have := P.mem_total ss ss[k] (List.getElem_mem hlt); omega)))
        generalize P.total (ss.take k) = m at *
        generalize ss[k] = s at *
        by_cases hbig : 4000 < s.length
        · have Hg := Lib.hid (Hone.out hbig)
          go_wp2
          go_ret
          exact ⟨by rw [Hg.out]; rfl, Below.refl _ _⟩
        · go_wp2
          go_round
          case rel => exact ⟨k + 1, by omega, by go_num, by rw [Hnx.out]; go_num, by rw [Hnx.out]; omega⟩
          case measure => simp [intOf]; omega
      · obtain rfl : k = ss.length := by omega
        have Hg := Lib.hid (show P.great ss = decide (4000 < P.total (ss.take ss.length)) by rw [List.take_length]; unfold P.great; rw [decide_eq_decide]; omega)
        generalize P.total (ss.take ss.length) = m at *
        by_cases hm : 4000 < m
        · have Hg2 := Lib.hid (show P.great ss = true by rw [Hg.out]; exact decide_eq_true hm)
          go_wp2
          go_ret
          exact ⟨by rw [Hg2.out]; simp; omega, Below.refl _ _⟩
        · have Hg2 := Lib.hid (show P.great ss = false by rw [Hg.out]; exact decide_eq_false hm)
          go_wp2
          go_ret
          exact ⟨by rw [Hg2.out]; simp; omega, Below.refl _ _⟩

set_option maxRecDepth 100000 in
set_option maxHeartbeats 2000000 in
theorem same_any (a a' : Option Addr) (c c' : Nat) (l m : List (List UInt8)) (w : World) (hl : l.length ≤ 9223372036854775807) (hm : m.length ≤ 9223372036854775807) (hp : StrsAt w a l) (hq : StrsAt w a' m) :
    Calls Tryd.prog 12 #[.slice a l.length c, .slice a' m.length c'] w fun e w' => e = .returned (.bool (l == m)) ∧ Below w.heap.size w w' := by
  have Hp := Lib.hid hp
  have Hq := Lib.hid hq
  clear hp hq
  by_cases hlen : l.length = m.length
  · rw [hlen]
    have Hlen := Lib.hid hlen
    clear hlen hl
    go_enter Tryd.func12, Tryd.ntmps12
    go_wp2
    go_loopw [5] (fun i wr => ∃ k : Nat, k ≤ m.length ∧ i = .int .i64 k ∧ l.take k = m.take k ∧ Below w.heap.size w wr) (fun i _ => m.length - (intOf i).toNat)
    case atStart => exact ⟨0, by omega, rfl, rfl, Below.refl _ _⟩
    case round =>
      obtain ⟨k, hk, rfl, htk, hb⟩ := hrel
      have Htk := Lib.hid htk
      clear htk
      by_cases hlt2 : k < m.length
      · have hlt := Lib.hid (show k < l.length by rw [Hlen.out]; exact hlt2)
        obtain ⟨b, o, rfl, hbb, hc⟩ := Hp.out k hlt.out
        obtain ⟨b', o', rfl, hbb', hc'⟩ := Hq.out k hlt2
        have h0 := (hb.cell (p := ⟨b, o + k, none⟩) hbb).trans hc
        have h1 := (hb.cell (p := ⟨b', o' + k, none⟩) hbb').trans hc'
        have Hnx := Lib.hid (show l[k]'hlt.out = m[k] → l.take (k + 1) = m.take (k + 1) from fun h => by rw [List.take_succ_eq_append_getElem hlt.out, List.take_succ_eq_append_getElem hlt2, Htk.out, h])
        have Hno := Lib.hid (show l[k]'hlt.out ≠ m[k] → (l == m) = false from fun h => by rw [beq_eq_false_iff_ne]; intro e; subst e; exact h rfl)
        have hki2 : (k : Int) < m.length := by omega
        clear hc hc'
        generalize l[k]'hlt.out = s at *
        generalize m[k] = t at *
        by_cases hst : s = t
        · have Hn := Lib.hid (Hnx.out hst)
          subst hst
          go_wp2_with fail
          go_region
          go_wp2
          go_roundw
          case rel => exact ⟨k + 1, by omega, by go_num, Hn.out, hb.drew⟩
          case measure => simp [intOf]; omega
        · have Hn := Lib.hid (Hno.out hst)
          have hst2 : (s == t) = false := beq_eq_false_iff_ne.2 hst
          go_wp2_with fail
          go_region
          go_wp2
          go_ret
          exact ⟨by rw [Hn.out]; rfl, hb.drew⟩
      · obtain rfl : k = m.length := by omega
        have He := Lib.hid (show (l == m) = true by
          have h := Htk.out
          rw [List.take_length, ← Hlen.out, List.take_length] at h
          rw [h]; simp)
        go_wp2
        go_ret
        exact ⟨by rw [He.out]; rfl, hb⟩
  · have He := Lib.hid (show (l == m) = false by rw [beq_eq_false_iff_ne]; intro e; subst e; exact hlen rfl)
    go_enter Tryd.func12, Tryd.ntmps12
    have hleni : ¬ (l.length : Int) = m.length := by omega
    go_wp2
    go_ret
    exact ⟨by rw [He.out]; rfl, Below.refl _ _⟩

def aw2 : List UInt8 := P.frames [[97], [98]]
theorem aw2_is : aw2 = P.frame [97] ++ P.frame [98] := by unfold aw2; rw [P.frames_cons, P.frames_cons]; simp [P.frames]
theorem aw2_len : aw2.length = 64 := by rw [aw2_is, List.length_append, P.frame_length, P.frame_length]; rfl
theorem aw2_ok : P.fbytes [[97], [98]] = aw2 ∧ P.ferr [[97], [98]] = 0 := by
  have : P.fok [[97], [98]] = true := by decide
  unfold P.fbytes P.ferr
  rw [this]
  exact ⟨rfl, rfl⟩
theorem aw2_all : P.recs aw2 = [[97], [98]] ∧ P.whole aw2 = 64 :=
  P.Whole.eq ⟨by rw [aw2_len]; omega, by rw [List.take_of_length_le (by rw [aw2_len]; omega)]; rfl, P.one_end (.inl (by rw [List.length_drop, aw2_len]; omega)), by simp⟩
theorem aw2_cut : P.recs (aw2.take 63) = [[97]] ∧ P.whole (aw2.take 63) = 32 := by
  refine P.Whole.eq ⟨by rw [List.length_take, aw2_len]; omega, ?_, P.one_end (.inl (by rw [List.length_drop, List.length_take, aw2_len]; omega)), by simp⟩
  have h32 : (P.frame [97]).length = 32 := by rw [P.frame_length]; rfl
  rw [List.take_take, show min 32 63 = 32 from rfl, aw2_is, ← h32, List.take_left]
  simp [P.frames]

attribute [local go_sem] str_takeN str_dropN

set_option maxRecDepth 100000 in
set_option maxHeartbeats 4000000 in
theorem awake_any (w : World) (ht : TabOk w) : Calls Tryd.prog 13 #[] w fun e w' => e = .returned (.bool true) ∧ Below w.heap.size w w' := by
  have HW := Lib.hid (fun wx (hx : TabOk wx) => writeF_any (some ⟨wx.heap.size, 0, none⟩) 2 [[97], [98]] (wx.alloc (.cells #[S [97], S [98]] 9)) (by decide) (strs_new wx _ _ _ rfl) (by simp) (hx.alloc _))
  rw [aw2_ok.1, aw2_ok.2, show ([[97], [98]] : List (List UInt8)).length = 2 from rfl] at HW
  have H1 := Lib.hid (fun wx (hx : TabOk wx) => readF_any (aw2.take 63) wx (by simp [aw2_len]) hx)
  have H2 := Lib.hid (fun wx (hx : TabOk wx) => readF_any aw2 wx (by simp [aw2_len]) hx)
  rw [aw2_cut.1, aw2_cut.2, show ([[97]] : List (List UInt8)).length = 1 from rfl] at H1
  rw [aw2_all.1, aw2_all.2, show ([[97], [98]] : List (List UInt8)).length = 2 from rfl] at H2
  have hl := aw2_len
  have hli : (aw2.length : Int) = 64 := by omega
  generalize aw2 = s at *
  go_enter Tryd.func13, Tryd.ntmps13
  go_wp2_with (first
    | (go_at_call 10; (with_reducible refine (HW.out _ ht).mono ?_); rintro e w1 ⟨rfl, hb1⟩; have hc1 := ((Below.refl _ _).alloc (Nat.le_refl _) _).trans (hb1.mono (by simp)))
    | (go_at_call 11; (with_reducible refine (H1.out _ (ht.up hc1)).mono ?_); rintro e w2 ⟨a2, c2, rfl, hs2, hb2⟩; have hc2 := Chain.up hc1 hb2; obtain ⟨b2, o2, rfl, hlt2, hcell2⟩ := hs2 0 (by simp))
    | (go_at_call 11; (with_reducible refine (H2.out _ (ht.up hc2)).mono ?_); rintro e w3 ⟨a3, c3, rfl, hs3, hb3⟩; have hc3 := Chain.up hc2 hb3; obtain ⟨b3, o3, rfl, hlt3, hcell3⟩ := hs3 1 (by simp); have hcell2' : w3.cell? ⟨b2, o2, none⟩ = some (S [97]) := (hb3.cell (p := ⟨b2, o2, none⟩) hlt2).trans hcell2; have hcell3' : w3.cell? ⟨b3, o3 + 1, none⟩ = some (S [98]) := hcell3))
  go_ret
  exact ⟨rfl, hc3⟩
end Go.Proofs.YtmfabbncoekjhaaDoor
