/- ScriptEach: a script is its acts' scripts, one behind the other; none of them is the beginning of another one's. The walk of the law. -/
import Derived.Test.YtnflbgindcejjaaDoorWSLaw
import Derived.Test.YtnflbgindcejjaaDoorWInv
namespace Go.Proofs.YtnflbgindcejjaaDoor
open Go.RowKit
set_option linter.unusedVariables false
set_option linter.unusedSimpArgs false

/-- How much acts hold. -/
def P.sizeA (a : P.Ac) : Nat := a.text.length + a.draws.length + a.cr.keep.length + a.cr.spoil.length
def P.sumA (l : List P.Ac) : Nat := (l.map P.sizeA).foldr (· + ·) 0
theorem P.sumA_snoc (l : List P.Ac) (a : P.Ac) : P.sumA (l ++ [a]) = P.sumA l + P.sizeA a := by
  induction l with
  | nil => simp [P.sumA]
  | cons b l ih =>
    show P.sizeA b + P.sumA (l ++ [a]) = (P.sizeA b + P.sumA l) + P.sizeA a
    rw [ih]
    omega
/-- What Great gives. -/
def GreatDid (n : Nat) (rs : List AcR) (w : World) (e : Ending) (w' : World) : Prop := (∃ b : Bool, e = .returned (.bool b) ∧ (b = false → n ≤ 120 ∧ (∀ r ∈ rs, r.x.text.length ≤ 12000) ∧ P.sumA (rs.map AcR.x) ≤ 12000)) ∧ Below w.heap.size w w'
set_option maxRecDepth 100000 in
set_option maxHeartbeats 8000000 in
theorem great_any (a : Option Addr) (rs : List AcR) (c n : Nat) (w : World) (hn : n = rs.length) (hl : n ≤ 9223372036854775807) (hat : ActsAt w a rs) :
    Calls Tryd.prog 15 #[.slice a n c] w (GreatDid n rs w) := by
  by_cases hlong : 120 < n
  · have hlong2 : (120 : Int) < (n : Int) := by omega
    clear hat hn
    go_enter Tryd.func15, Tryd.ntmps15
    go_wp2_with fail
    go_ret
    exact ⟨⟨true, rfl, fun h => by cases h⟩, Below.refl _ _⟩
  have hshort : ¬ (120 : Int) < (n : Int) := by omega
  have Hrows := Lib.hid hat.rows
  have Hn := Lib.hid hn
  clear hat hn
  go_enter Tryd.func15, Tryd.ntmps15
  go_wp2_with fail
  go_loopw [4, 3] (fun z y wr => ∃ j m : Nat, j ≤ n ∧ z = .int .i64 j ∧ y = .int .i64 m ∧ m ≤ 26000 * j ∧ m = P.sumA ((rs.map AcR.x).take j) ∧ (∀ r ∈ rs.take j, r.x.text.length ≤ 12000) ∧ Below w.heap.size w wr) (fun z _ _ => n - (intOf z).toNat)
  case atStart => exact ⟨0, 0, by omega, rfl, rfl, by omega, rfl, fun r hr => by simp at hr, Below.refl _ _⟩
  case round =>
    obtain ⟨j, m, hj, rfl, rfl, hm, hsum, hts, hw⟩ := hrel
    have Hsum := Lib.hid hsum
    have Hts := Lib.hid hts
    clear hsum hts
    by_cases hlt : j < n
    · have hltl : j < rs.length := by have := Hn.out; omega
      have hltm : j < (rs.map AcR.x).length := by rw [List.length_map]; exact hltl
      obtain ⟨bb, o, rfl, hbb, c0, c1, c2, c3, c4, c5, c6⟩ := act_at (RowsAt.up Hrows.out hw) j hltl
      have Hnx := Lib.hid (show P.sumA ((rs.map AcR.x).take (j + 1)) = m + P.sizeA rs[j].x by rw [List.take_succ_eq_append_getElem hltm, P.sumA_snoc, List.getElem_map, ← Hsum.out])
      have Htn := Lib.hid (show rs[j].x.text.length ≤ 12000 → ∀ r ∈ rs.take (j + 1), r.x.text.length ≤ 12000 from fun h r hr => by
        rw [List.take_succ_eq_append_getElem hltl] at hr
        rcases List.mem_append.1 hr with hr | hr
        · exact Hts.out r hr
        · rw [List.mem_singleton.1 hr]; exact h)
      generalize rs[j] = r at *
      have Hsz := Lib.hid (show P.sizeA r.x = r.x.text.length + r.x.draws.length + r.x.cr.keep.length + r.x.cr.spoil.length from rfl)
      have hw1 : ∀ O, Below w.heap.size w (wr.alloc O) := fun O => hw.alloc hw.size _
      by_cases h1 : r.x.text.length ≤ 12000
      case neg =>
        have h1' : 12000 < r.x.text.length := by omega
        go_wp2_with fail
        go_ret
        exact ⟨⟨true, rfl, fun h => by cases h⟩, hw1 _⟩
      by_cases h2 : r.x.draws.length ≤ 12000
      case neg =>
        have h2' : 12000 < r.x.draws.length := by omega
        go_wp2_with fail
        go_ret
        exact ⟨⟨true, rfl, fun h => by cases h⟩, hw1 _⟩
      by_cases h3 : r.x.cr.keep.length ≤ 1000
      case neg =>
        have h3' : 1000 < r.x.cr.keep.length := by omega
        go_wp2_with fail
        go_ret
        exact ⟨⟨true, rfl, fun h => by cases h⟩, hw1 _⟩
      by_cases h4 : r.x.cr.spoil.length ≤ 1000
      case neg =>
        have h4' : 1000 < r.x.cr.spoil.length := by omega
        go_wp2_with fail
        go_ret
        exact ⟨⟨true, rfl, fun h => by cases h⟩, hw1 _⟩
      have hmb : m ≤ 3200000 := by omega
      go_wp2_with fail
      go_roundw
      case rel => exact ⟨j + 1, m + P.sizeA r.x, by omega, by go_num, by rw [Hsz.out]; go_num, by rw [Hsz.out]; omega, Hnx.out.symm, Htn.out h1, hw1 _⟩
      case measure => simp [intOf]; omega
    · obtain rfl : j = n := by omega
      have hall : ∀ r ∈ rs, r.x.text.length ≤ 12000 := by
        have h := Hts.out
        rwa [List.take_of_length_le (by have := Hn.out; omega)] at h
      have hsm : P.sumA (rs.map AcR.x) = m := by
        have h := Hsum.out
        rw [List.take_of_length_le (by rw [List.length_map]; have := Hn.out; omega)] at h
        exact h.symm
      by_cases hbig : 12000 < m
      · have hb2 : decide (12000 < m) = true := decide_eq_true hbig
        go_wp2_with fail
        go_ret
        exact ⟨⟨true, ret_bool (by first | (simp [hbig]; done) | (simp [hbig]; omega)), fun h => by cases h⟩, hw⟩
      · have hb2 : decide (12000 < m) = false := decide_eq_false hbig
        go_wp2_with fail
        go_ret
        exact ⟨⟨false, ret_bool (by first | (simp [hbig]; done) | (simp [hbig]; omega)), fun _ => ⟨by omega, hall, by omega⟩⟩, hw⟩

theorem Own.draws {w : World} {B : Nat} {a : Option Addr} {c : Nat} {l : List UInt8} (h : Own w B (.slice a l.length c) l) : DrawsAt w a l ∧ (a = none → c = 0) := by
  rcases h.2 with ⟨h1, h0⟩ | ⟨g, cap, cur, h1, _, hg, hnc, _, _, htake⟩
  · injection h1 with h1 _ h3
    exact ⟨.inl (List.length_eq_zero_iff.1 h0), fun _ => h3⟩
  · injection h1 with h1 _ h3
    subst h1
    refine ⟨.inr ⟨g, 0, rfl, lt_heap hg, fun j hj => ?_⟩, fun h => by cases h⟩
    have h5 : cur.toList[j]? = some (u8V l[j]) := by
      have := congrArg (fun q : List Value => q[j]?) htake
      simp only [List.getElem?_take, Nat.mul_one] at this
      rw [if_pos hj] at this
      rw [this]
      simp [hj]
    simp only [World.cell?, hg, Nat.zero_add]
    simpa using h5
theorem Own.cap {w : World} {B : Nat} {a : Option Addr} {c : Nat} {l : List UInt8} (h : Own w B (.slice a l.length c) l) : l.length ≤ c := by
  rcases h.2 with ⟨h1, h0⟩ | ⟨g, cap, cur, h1, _, hg, hnc, _⟩
  · omega
  · injection h1 with _ _ h3
    omega
theorem DrawsAt.take {w : World} {a : Option Addr} {l : List UInt8} (h : DrawsAt w a l) (m : Nat) : DrawsAt w a (l.take m) := by
  rcases h with rfl | ⟨b, o, h1, h2, h3⟩
  · exact .inl List.take_nil
  · refine .inr ⟨b, o, h1, h2, fun j hj => ?_⟩
    rw [List.length_take] at hj
    rw [h3 j (by omega), List.getElem_take]
theorem ActsAt.one {w : World} {b o : Nat} {rs : List AcR} (h : ActsAt w (some ⟨b, o, none⟩) rs) (k : Nat) (hk : k < rs.length) : ActsAt w (some ⟨b, o + k * 7, none⟩) [rs[k]] := by
  refine ⟨fun i hi => ?_, fun r hr => ?_, fun r hr => ?_⟩
  · obtain rfl : i = 0 := by simpa using hi
    obtain ⟨b', o', he, hlt, hc⟩ := h.rows k hk
    injection he with he
    injection he with h1 h2
    subst h1 h2
    exact ⟨b, o + k * 7, rfl, hlt, fun j hj => by rw [Nat.zero_mul, Nat.add_zero]; exact hc j hj⟩
  · rw [List.mem_singleton.1 hr]; exact h.acts _ (List.getElem_mem hk)
  · rw [List.mem_singleton.1 hr]; exact h.ty _ (List.getElem_mem hk)
theorem P.encS_one {a : P.Ac} (h : P.rightB a = true) : P.encS [a] = (P.actB a, 0) := by
  unfold P.encS
  rw [if_neg (by simp), if_pos (by simp [h])]
  simp [P.scriptB]
theorem P.encS_no {l : List P.Ac} (hl : l.length ≤ 4096) (h : ¬ l.all P.rightB = true) : P.encS l = ([], 1) := by
  unfold P.encS
  rw [if_neg (by omega), if_neg h]

attribute [local go_sem] str_app
set_option maxRecDepth 100000 in
set_option maxHeartbeats 8000000 in
theorem law_each (rs : List AcR) (a : Option Addr) (n c : Nat) (w : World) (hn : n = rs.length) (hl : n ≤ 9223372036854775807) (hat : ActsAt w a rs) (hnc : n ≤ c) :
    Calls Tryd.prog 8 #[.slice a n c] w fun e w' => e = .returned (.bool true) ∧ Below w.heap.size w w' := by
  have Hat := Lib.hid hat
  have Hn := Lib.hid hn
  have HG := Lib.hid (great_any a rs c n w hn hl hat)
  clear hat hn
  go_enter Tryd.func8, Tryd.ntmps8
  go_wp2_with fail
  go_at_call 15
  (with_reducible refine HG.out.mono ?_)
  rintro e w1 ⟨⟨b, rfl, hgr⟩, hb1⟩
  cases b with
  | true =>
    go_wp2_with (go_at_call 14; (with_reducible refine (awake_any _).mono ?_); rintro e w2 ⟨rfl, hb2⟩)
    go_ret
    exact ⟨rfl, Chain.up hb1 hb2⟩
  | false =>
    obtain ⟨hn120, hts, _⟩ := hgr rfl
    have hst : SmallT rs := fun r hr _ => by have := hts r hr; omega
    by_cases hall : (rs.map AcR.x).all P.rightB = true
    case neg =>
      have He := Lib.hid (P.encS_no (l := rs.map AcR.x) (by rw [List.length_map]; have := Hn.out; omega) hall)
      go_wp2_with (first
        | (go_at_call 9; (with_reducible refine (encode_any a rs c n w1 ?h1 ?h2 (Hat.out.up hb1) hst).mono ?_); (case h1 => exact Hn.out); (case h2 => omega); rintro e w2 ⟨v2, rfl, hown2, hb2⟩; rw [He.out] at hown2 ⊢; have hb12 := Chain.up hb1 hb2; obtain ⟨a2, c2, hv2⟩ := Own.isS hown2; subst hv2)
        | (go_at_call 14; (with_reducible refine (awake_any _).mono ?_); rintro e w5 ⟨rfl, hb5⟩))
      go_ret
      exact ⟨rfl, Chain.up hb12 hb5⟩
    have hRL : P.RightL (rs.map AcR.x) := fun x hx => by
      obtain ⟨r, hr, rfl⟩ := List.mem_map.1 hx
      exact ⟨List.all_eq_true.1 hall _ hx, Hat.out.ty r hr⟩
    have He := Lib.hid (show P.encS (rs.map AcR.x) = (P.scriptB (rs.map AcR.x), 0) by unfold P.encS; rw [if_neg (by rw [List.length_map]; have := Hn.out; omega), if_pos hall])
    have hok : OkActs rs := ok_of_map rfl hRL
    have Hok := Lib.hid hok
    have hsl : (P.scriptB (rs.map AcR.x)).length ≤ 27000 * 120 := by
      have := P.scriptB_le rs (fun r hr => ⟨(hok r hr).1, hst r hr (hok r hr).1⟩)
      have := Hn.out
      omega
    clear hok hRL hall hgr
    go_wp2_with (go_at_call 9; (with_reducible refine (encode_any a rs c n w1 ?h1 ?h2 (Hat.out.up hb1) hst).mono ?_); (case h1 => exact Hn.out); (case h2 => omega); rintro e w2 ⟨v2, rfl, hown2, hb2⟩; rw [He.out] at hown2 ⊢; have hb12 := Chain.up hb1 hb2)
    go_loopw [6, 5, 7, 8, 9, 10, 11, 12] (fun z y x7 x8 x9 x10 x11 x12 wr => ∃ j : Nat, j ≤ n ∧ z = .int .i64 j ∧ y = S (P.scriptB ((rs.map AcR.x).take j)) ∧ Own wr w1.heap.size v2 (P.scriptB (rs.map AcR.x)) ∧ Below w.heap.size w wr) (fun z _ _ _ _ _ _ _ _ => n - (intOf z).toNat)
    case atStart => exact ⟨0, by omega, rfl, rfl, hown2, hb12⟩
    case round =>
      clear hown2 hb12
      obtain ⟨j, hj, rfl, rfl, hown, hb⟩ := hrel
      by_cases hlt : j < n
      case neg =>
        obtain rfl : j = n := by omega
        have Htk := Lib.hid (show (rs.map AcR.x).take j = rs.map AcR.x from List.take_of_length_le (by rw [List.length_map]; have := Hn.out; omega))
        rw [Htk.out]
        go_wp2_with (first
          | (refine wpList_conv_own (by rfl) hown ?_)
          | (go_at_call 14; (with_reducible refine (awake_any _).mono ?_); rintro e w5 ⟨rfl, hb5⟩))
        go_ret
        exact ⟨rfl, Chain.up hb hb5⟩
      have hltl : j < rs.length := by have := Hn.out; omega
      obtain ⟨bb, o, hbo, _⟩ := Hat.out.rows j hltl
      subst hbo
      have hjc : ¬ j = c := by omega
      have hokj := Hok.out _ (List.getElem_mem hltl)
      have Hrj := Lib.hid (rfl : rs[j].x = rs[j].x)
      have hst1 : SmallT [rs[j]] := fun r hr _ => by rw [List.mem_singleton.1 hr]; have := hts _ (List.getElem_mem hltl); omega
      have He1 := Lib.hid (show P.encS ([rs[j]].map AcR.x) = (P.actB rs[j].x, 0) from P.encS_one hokj.1)
      have hat1 := (Hat.out.up hb).one j hltl
      have hpos := P.actB_pos rs[j].x
      have hA1l : (P.actB rs[j].x).length ≤ 27000 := by have := P.actB_le _ hokj.1; have := hts _ (List.getElem_mem hltl); omega
      have hltm : j < (rs.map AcR.x).length := by rw [List.length_map]; exact hltl
      have Hnx := Lib.hid (show P.scriptB ((rs.map AcR.x).take (j + 1)) = P.scriptB ((rs.map AcR.x).take j) ++ P.actB rs[j].x by rw [List.take_succ_eq_append_getElem hltm, P.scriptB_app, List.getElem_map]; simp [P.scriptB])
      have haccl : (P.scriptB ((rs.map AcR.x).take j)).length ≤ 27000 * 120 := by
        have h1 := P.scriptB_app ((rs.map AcR.x).take j) ((rs.map AcR.x).drop j)
        rw [List.take_append_drop] at h1
        have h2 := congrArg List.length h1
        rw [List.length_append] at h2
        omega
      generalize hA1 : P.actB rs[j].x = A1 at *
      have HA1 := Lib.hid hA1
      clear hA1
      generalize P.scriptB ((rs.map AcR.x).take j) = acc at *
      have hne0 : ((A1.length : Int) == 0) = false := beq_eq_false_iff_ne.2 (by omega)
      have hadd : ¬ 9223372036854775807 < acc.length + A1.length := by omega
      go_wp2_with fail
      (with_reducible refine (encode_any (some ⟨bb, o + j * 7, none⟩) [rs[j]] (c - j) 1 wr rfl ?h1 hat1 hst1).mono ?_)
      case h1 => omega
      rintro e w3 ⟨v3, rfl, hown3, hb3⟩
      rw [He1.out] at hown3 ⊢
      obtain ⟨a3, c3, hv3⟩ := Own.isS hown3
      subst hv3
      have hb13 := Chain.up hb hb3
      have hown23 := hown.up hb3
      clear hat1 hst1 hown hb3 hpos
      go_wp2_with (refine wpList_conv_own (by rfl) hown3 ?_)
      go_loopw [9, 10, 11, 12] (fun z x10 x11 x12 wk => ∃ k : Nat, k ≤ j ∧ z = .int .i64 k ∧ Own wk w1.heap.size v2 (P.scriptB (rs.map AcR.x)) ∧ Own wk wr.heap.size (.slice a3 A1.length c3) A1 ∧ Below w.heap.size w wk) (fun z _ _ _ _ => j - (intOf z).toNat)
      case atStart => exact ⟨0, by omega, rfl, hown23, hown3, hb13⟩
      case round =>
        clear hown23 hown3 hb13 hb
        obtain ⟨k, hk, rfl, hown2, hown3, hb⟩ := hrel
        by_cases hkj : k < j ∧ k < 10
        case neg =>
          by_cases hkj1 : k < j
          · have hk10 : ¬ k < 10 := fun h => hkj ⟨hkj1, h⟩
            clear hkj
            go_wp2_with fail
            go_roundw
            case rel => exact ⟨j + 1, by omega, by go_num, by rw [Hnx.out], hown2, hb⟩
            case measure => simp [intOf]; omega
          · clear hkj
            go_wp2_with fail
            go_roundw
            case rel => exact ⟨j + 1, by omega, by go_num, by rw [Hnx.out], hown2, hb⟩
            case measure => simp [intOf]; omega
        obtain ⟨hkj, hk10⟩ := hkj
        have hltk : k < rs.length := by have := Hn.out; omega
        have hkc : ¬ k = c := by omega
        have hokk := Hok.out _ (List.getElem_mem hltk)
        have hst2 : SmallT [rs[k]] := fun r hr _ => by rw [List.mem_singleton.1 hr]; have := hts _ (List.getElem_mem hltk); omega
        have He2 := Lib.hid (show P.encS ([rs[k]].map AcR.x) = (P.actB rs[k].x, 0) from P.encS_one hokk.1)
        have hat2 := (Hat.out.up hb).one k hltk
        have Hone := Lib.hid (fun x y => P.act_one (x := x) (y := y) hokj hokk)
        generalize hA2 : P.actB rs[k].x = A2 at *
        have HA2 := Lib.hid hA2
        clear hA2
        go_wp2_with (go_at_call 9; (with_reducible refine (encode_any (some ⟨bb, o + k * 7, none⟩) [rs[k]] (c - k) 1 _ rfl ?h1 hat2 hst2).mono ?_); (case h1 => omega); rintro e w4 ⟨v4, rfl, hown4, hb4⟩; rw [He2.out] at hown4 ⊢; obtain ⟨a4, c4, hv4⟩ := Own.isS hown4; subst hv4; have hb14 := Chain.up hb hb4; have hown24 := hown2.up hb4; have hown34 := hown3.up hb4)
        have hatj := (Hat.out.up hb14).one j hltl
        have hatk := (Hat.out.up hb14).one k hltk
        have hokj1 : OkActs [rs[j]] := fun r hr => by rw [List.mem_singleton.1 hr]; exact hokj
        have hokk1 : OkActs [rs[k]] := fun r hr => by rw [List.mem_singleton.1 hr]; exact hokk
        have HSm := Lib.hid (fun wx (hx : Below w4.heap.size w4 wx) => same_any (some ⟨bb, o + j * 7, none⟩) (some ⟨bb, o + k * 7, none⟩) (c - j) (c - k) 1 1 [rs[j]] [rs[k]] wx rfl rfl (by omega) (by omega) (hatj.up hx) (hatk.up hx) hokj1 hokk1)
        clear hat2 hst2 hown2 hown3 hb hb4 hatj hatk hokj1 hokk1 hokj hokk
        have hwj : IntKind.i64.wrap ((j : Int) + 1) = ((j + 1 : Nat) : Int) := by rw [IntWalk.i64_in _ (by omega)]; omega
        have hwk : IntKind.i64.wrap ((k : Int) + 1) = ((k + 1 : Nat) : Int) := by rw [IntWalk.i64_in _ (by omega)]; omega
        have hj0 : (0 : Int) ≤ (j : Int) + 1 := by omega
        have hk0 : (0 : Int) ≤ (k : Int) + 1 := by omega
        have hj1 : (j : Int) + 1 ≤ (c : Int) := by omega
        have hk1 : (k : Int) + 1 ≤ (c : Int) := by omega
        have hcj : ¬ c = j := by omega
        have hck : ¬ c = k := by omega
        refine wp_region_held_drew (S := fun wx => Below w4.heap.size w4 wx) (by kernel_rfl) (Below.refl _ _).drew (fun hHeld => ?_)
        refine wpAnyH_take (i := 0) (v := ?_) rfl (by kernel_rfl) (by kernel_rfl) (by kernel_rfl) (fun _ _ _ h => h) (Or.inl ⟨by rfl, ?_⟩) hHeld ?_
        rotate_left
        · intro wq hSw; go_simp; (try with_reducible rfl)
        simp only [Act.put, List.getElem_toArray, List.getElem_cons_succ, List.getElem_cons_zero, List.setIfInBounds_toArray, List.set_cons_zero, List.set_cons_succ]
        refine wpAnyH_take (i := 1) (v := ?_) rfl (by kernel_rfl) (by kernel_rfl) (by kernel_rfl) (fun _ _ _ h => h) (Or.inl ⟨by rfl, ?_⟩) hHeld ?_
        rotate_left
        · intro wq hSw; go_simp; (try with_reducible rfl)
        simp only [Act.put, List.getElem_toArray, List.getElem_cons_succ, List.getElem_cons_zero, List.setIfInBounds_toArray, List.set_cons_zero, List.set_cons_succ]
        refine wpAnyH_take (i := 2) (v := ?_) rfl (by kernel_rfl) (by kernel_rfl) (by kernel_rfl) (fun _ _ _ h => h) (Or.inl ⟨by rfl, ?_⟩) hHeld ?_
        rotate_left
        · intro wq hSw; go_simp; (try with_reducible rfl)
        simp only [Act.put, List.getElem_toArray, List.getElem_cons_succ, List.getElem_cons_zero, List.setIfInBounds_toArray, List.set_cons_zero, List.set_cons_succ]
        refine wpAnyH_take (i := 3) (v := ?_) rfl (by kernel_rfl) (by kernel_rfl) (by kernel_rfl) (fun _ _ _ h => h) (Or.inl ⟨by rfl, ?_⟩) hHeld ?_
        rotate_left
        · intro wq hSw; go_simp; (try with_reducible rfl)
        simp only [Act.put, List.getElem_toArray, List.getElem_cons_succ, List.getElem_cons_zero, List.setIfInBounds_toArray, List.set_cons_zero, List.set_cons_succ]
        refine wpAnyH_take (i := 4) (v := ?_) rfl (by kernel_rfl) (by kernel_rfl) (by kernel_rfl) (fun _ _ _ h => h) (Or.inl ⟨by rfl, ?_⟩) hHeld ?_
        rotate_left
        · intro wq hSw; go_simp; (try with_reducible rfl)
        simp only [Act.put, List.getElem_toArray, List.getElem_cons_succ, List.getElem_cons_zero, List.setIfInBounds_toArray, List.set_cons_zero, List.set_cons_succ]
        refine wpAnyH_take (i := 5) (v := ?_) rfl (by kernel_rfl) (by kernel_rfl) (by kernel_rfl) (fun _ _ _ h => h) (Or.inl ⟨by rfl, ?_⟩) hHeld ?_
        rotate_left
        · intro wq hSw; go_simp; (try with_reducible rfl)
        simp only [Act.put, List.getElem_toArray, List.getElem_cons_succ, List.getElem_cons_zero, List.setIfInBounds_toArray, List.set_cons_zero, List.set_cons_succ]
        refine wpAnyH_take (i := 6) (v := ?_) rfl (by kernel_rfl) (by kernel_rfl) (by kernel_rfl) (fun _ _ _ h => h) (Or.inl ⟨by rfl, ?_⟩) hHeld ?_
        rotate_left
        · intro wq hSw; go_simp; (try with_reducible rfl)
        simp only [Act.put, List.getElem_toArray, List.getElem_cons_succ, List.getElem_cons_zero, List.setIfInBounds_toArray, List.set_cons_zero, List.set_cons_succ]
        refine wpAnyH_take (i := 7) (v := ?_) rfl (by kernel_rfl) (by kernel_rfl) (by kernel_rfl) (fun _ _ _ h => h) (Or.inl ⟨by rfl, ?_⟩) hHeld ?_
        rotate_left
        · intro wq hSw; go_simp; (try with_reducible rfl)
        simp only [Act.put, List.getElem_toArray, List.getElem_cons_succ, List.getElem_cons_zero, List.setIfInBounds_toArray, List.set_cons_zero, List.set_cons_succ]
        refine wpAnyH_take (i := 8) (v := ?_) rfl (by kernel_rfl) (by kernel_rfl) (by kernel_rfl) (fun _ _ _ h => h) (Or.inl ⟨by rfl, ?_⟩) hHeld ?_
        rotate_left
        · intro wq hSw; go_simp; (try with_reducible rfl)
        simp only [Act.put, List.getElem_toArray, List.getElem_cons_succ, List.getElem_cons_zero, List.setIfInBounds_toArray, List.set_cons_zero, List.set_cons_succ]
        refine wpAnyH_take (i := 9) (v := ?_) rfl (by kernel_rfl) (by kernel_rfl) (by kernel_rfl) (fun _ _ _ h => h) (Or.inl ⟨by rfl, ?_⟩) hHeld ?_
        rotate_left
        · intro wq hSw; go_simp; (try with_reducible rfl)
        simp only [Act.put, List.getElem_toArray, List.getElem_cons_succ, List.getElem_cons_zero, List.setIfInBounds_toArray, List.set_cons_zero, List.set_cons_succ]
        refine wpAnyH_one (i := 10) (by kernel_rfl) rfl (fun K hK => ?_)
        simp only [List.getElem_toArray, List.getElem_cons_succ, List.getElem_cons_zero]
        go_simp
        (with_reducible refine (HSm.out _ hHeld).mono ?_)
        rintro e w5 ⟨⟨b5, rfl, hb5e⟩, hb5⟩
        have hH5 := Chain.up hHeld hb5
        refine hK.out _ _ hH5 ?_
        clear hK K
        refine wpAnyH_take (i := 11) (v := ?_) rfl (by kernel_rfl) (by kernel_rfl) (by kernel_rfl) (fun _ _ _ h => h) (Or.inl ⟨by rfl, ?_⟩) hH5 ?_
        rotate_left
        · intro wq hSw; go_simp; (try with_reducible rfl)
        simp only [Act.put, List.getElem_toArray, List.getElem_cons_succ, List.getElem_cons_zero, List.setIfInBounds_toArray, List.set_cons_zero, List.set_cons_succ]
        refine wpAnyH_done (by kernel_rfl) ?_ _
        have hb15 := Chain.up hb14 hH5
        have hown25 := hown24.up hH5
        have hown35 := hown34.up hH5
        have hown45 := hown4.up hH5
        have hcap := hown35.cap
        have hdr := hown35.draws
        have hd2 := hown45.says
        clear hHeld hH5 hown24 hown34 hown4 HSm hb14 hwj hwk hj0 hk0 hj1 hk1 hcj hck
        by_cases hle : A2.length ≤ A1.length
        case neg =>
          have hge : decide ((A2.length : Int) ≤ (A1.length : Int)) = false := decide_eq_false (by omega)
          have hgen : decide (A2.length ≤ A1.length) = false := decide_eq_false hle
          clear hdr hd2 hcap
          go_wp2_with fail
          refine wp_region_held_drew (S := fun wx => Below w5.heap.size w5 wx) (by kernel_rfl) (Below.refl _ _).drew (fun hH6 => ?_)
          refine wpAnyH_take (i := 0) (v := ?_) rfl (by kernel_rfl) (by kernel_rfl) (by kernel_rfl) (fun _ _ _ h => h) (Or.inl ⟨by rfl, ?_⟩) hH6 ?_
          rotate_left
          · intro wq hSw; go_simp; (try with_reducible rfl)
          simp only [Act.put, List.getElem_toArray, List.getElem_cons_succ, List.getElem_cons_zero, List.setIfInBounds_toArray, List.set_cons_zero, List.set_cons_succ]
          refine wpAnyH_take (i := 1) (v := ?_) rfl (by kernel_rfl) (by kernel_rfl) (by kernel_rfl) (fun _ _ _ h => h) (Or.inl ⟨by rfl, ?_⟩) hH6 ?_
          rotate_left
          · intro wq hSw; go_simp; (try with_reducible rfl)
          simp only [Act.put, List.getElem_toArray, List.getElem_cons_succ, List.getElem_cons_zero, List.setIfInBounds_toArray, List.set_cons_zero, List.set_cons_succ]
          refine wpAnyH_take (i := 2) (v := ?_) rfl (by kernel_rfl) (by kernel_rfl) (by kernel_rfl) (fun _ _ _ h => h) (Or.inl ⟨by rfl, ?_⟩) hH6 ?_
          rotate_left
          · intro wq hSw; go_simp; (try with_reducible rfl)
          simp only [Act.put, List.getElem_toArray, List.getElem_cons_succ, List.getElem_cons_zero, List.setIfInBounds_toArray, List.set_cons_zero, List.set_cons_succ]
          refine wpAnyH_take (i := 3) (v := ?_) rfl (by kernel_rfl) (by kernel_rfl) (by kernel_rfl) (fun _ _ _ h => h) (Or.inl ⟨by rfl, ?_⟩) hH6 ?_
          rotate_left
          · intro wq hSw; go_simp; (try with_reducible rfl)
          simp only [Act.put, List.getElem_toArray, List.getElem_cons_succ, List.getElem_cons_zero, List.setIfInBounds_toArray, List.set_cons_zero, List.set_cons_succ]
          refine wpAnyH_take (i := 4) (v := ?_) rfl (by kernel_rfl) (by kernel_rfl) (by kernel_rfl) (fun _ _ _ h => h) (Or.inl ⟨by rfl, ?_⟩) hH6 ?_
          rotate_left
          · intro wq hSw; go_simp; (try with_reducible rfl)
          simp only [Act.put, List.getElem_toArray, List.getElem_cons_succ, List.getElem_cons_zero, List.setIfInBounds_toArray, List.set_cons_zero, List.set_cons_succ]
          refine wpAnyH_take (i := 5) (v := ?_) rfl (by kernel_rfl) (by kernel_rfl) (by kernel_rfl) (fun _ _ _ h => h) (Or.inl ⟨by rfl, ?_⟩) hH6 ?_
          rotate_left
          · intro wq hSw; go_simp; (try with_reducible rfl)
          simp only [Act.put, List.getElem_toArray, List.getElem_cons_succ, List.getElem_cons_zero, List.setIfInBounds_toArray, List.set_cons_zero, List.set_cons_succ]
          refine wpAnyH_take (i := 6) (v := undef) rfl (by kernel_rfl) (by kernel_rfl) (by kernel_rfl) (fun _ _ _ h => h) (Or.inr ⟨by rfl, rfl⟩) hH6 ?_
          simp only [Act.put, List.getElem_toArray, List.getElem_cons_succ, List.getElem_cons_zero, List.setIfInBounds_toArray, List.set_cons_zero, List.set_cons_succ]
          refine wpAnyH_take (i := 7) (v := undef) rfl (by kernel_rfl) (by kernel_rfl) (by kernel_rfl) (fun _ _ _ h => h) (Or.inr ⟨by rfl, rfl⟩) hH6 ?_
          simp only [Act.put, List.getElem_toArray, List.getElem_cons_succ, List.getElem_cons_zero, List.setIfInBounds_toArray, List.set_cons_zero, List.set_cons_succ]
          refine wpAnyH_take (i := 8) (v := undef) rfl (by kernel_rfl) (by kernel_rfl) (by kernel_rfl) (fun _ _ _ h => h) (Or.inr ⟨by rfl, rfl⟩) hH6 ?_
          simp only [Act.put, List.getElem_toArray, List.getElem_cons_succ, List.getElem_cons_zero, List.setIfInBounds_toArray, List.set_cons_zero, List.set_cons_succ]
          refine wpAnyH_take (i := 9) (v := undef) rfl (by kernel_rfl) (by kernel_rfl) (by kernel_rfl) (fun _ _ _ h => h) (Or.inr ⟨by rfl, rfl⟩) hH6 ?_
          simp only [Act.put, List.getElem_toArray, List.getElem_cons_succ, List.getElem_cons_zero, List.setIfInBounds_toArray, List.set_cons_zero, List.set_cons_succ]
          refine wpAnyH_take (i := 10) (v := undef) rfl (by kernel_rfl) (by kernel_rfl) (by kernel_rfl) (fun _ _ _ h => h) (Or.inr ⟨by rfl, rfl⟩) hH6 ?_
          simp only [Act.put, List.getElem_toArray, List.getElem_cons_succ, List.getElem_cons_zero, List.setIfInBounds_toArray, List.set_cons_zero, List.set_cons_succ]
          refine wpAnyH_take (i := 11) (v := undef) rfl (by kernel_rfl) (by kernel_rfl) (by kernel_rfl) (fun _ _ _ h => h) (Or.inr ⟨by rfl, rfl⟩) hH6 ?_
          simp only [Act.put, List.getElem_toArray, List.getElem_cons_succ, List.getElem_cons_zero, List.setIfInBounds_toArray, List.set_cons_zero, List.set_cons_succ]
          refine wpAnyH_take (i := 12) (v := undef) rfl (by kernel_rfl) (by kernel_rfl) (by kernel_rfl) (fun _ _ _ h => h) (Or.inr ⟨by rfl, rfl⟩) hH6 ?_
          simp only [Act.put, List.getElem_toArray, List.getElem_cons_succ, List.getElem_cons_zero, List.setIfInBounds_toArray, List.set_cons_zero, List.set_cons_succ]
          refine wpAnyH_take (i := 13) (v := undef) rfl (by kernel_rfl) (by kernel_rfl) (by kernel_rfl) (fun _ _ _ h => h) (Or.inr ⟨by rfl, rfl⟩) hH6 ?_
          simp only [Act.put, List.getElem_toArray, List.getElem_cons_succ, List.getElem_cons_zero, List.setIfInBounds_toArray, List.set_cons_zero, List.set_cons_succ]
          refine wpAnyH_take (i := 14) (v := undef) rfl (by kernel_rfl) (by kernel_rfl) (by kernel_rfl) (fun _ _ _ h => h) (Or.inr ⟨by rfl, rfl⟩) hH6 ?_
          simp only [Act.put, List.getElem_toArray, List.getElem_cons_succ, List.getElem_cons_zero, List.setIfInBounds_toArray, List.set_cons_zero, List.set_cons_succ]
          refine wpAnyH_take (i := 15) (v := undef) rfl (by kernel_rfl) (by kernel_rfl) (by kernel_rfl) (fun _ _ _ h => h) (Or.inr ⟨by rfl, rfl⟩) hH6 ?_
          simp only [Act.put, List.getElem_toArray, List.getElem_cons_succ, List.getElem_cons_zero, List.setIfInBounds_toArray, List.set_cons_zero, List.set_cons_succ]
          refine wpAnyH_take (i := 16) (v := ?_) rfl (by kernel_rfl) (by kernel_rfl) (by kernel_rfl) (fun _ _ _ h => h) (Or.inl ⟨by rfl, ?_⟩) hH6 ?_
          rotate_left
          · intro wq hSw; go_simp; (try with_reducible rfl)
          simp only [Act.put, List.getElem_toArray, List.getElem_cons_succ, List.getElem_cons_zero, List.setIfInBounds_toArray, List.set_cons_zero, List.set_cons_succ]
          refine wpAnyH_done (by kernel_rfl) ?_ _
          have hb16 := Chain.up hb15 hH6
          have hown26 := hown25.up hH6
          have hown36 := hown35.up hH6
          go_wp2_with fail
          go_roundw
          case rel => exact ⟨k + 1, by omega, by go_num, hown26, hown36, hb16⟩
          case measure => simp [intOf]; omega
        have hge : decide ((A2.length : Int) ≤ (A1.length : Int)) = true := decide_eq_true (by omega)
        have hgen : decide (A2.length ≤ A1.length) = true := decide_eq_true hle
        have hd1 := (hdr.1.take A2.length).says (n := A2.length) (c := c3) (by rw [List.length_take]; omega) hdr.2
        have hcap2 : (A2.length : Int) ≤ (c3 : Int) := by omega
        have hcap0 : (0 : Int) ≤ (A2.length : Int) := by omega
        have Hone2 := Lib.hid (show A1.take A2.length = A2 → rs[j].x = rs[k].x from fun h => by
          have h1 := Hone.out (A2.drop A2.length) (A1.drop A2.length)
          have h2 := List.take_append_drop A2.length A1
          rw [h] at h2
          rw [HA1.out] at h1
          refine (h1 ?_).1
          rw [List.drop_eq_nil_of_le (Nat.le_refl _), List.append_nil, h2])
        cases b5 with
        | true =>
          have hxx : rs[j].x = rs[k].x := by
            have := hb5e.1 rfl
            simpa using this
          have hAA : A1 = A2 := by rw [← HA1.out, ← HA2.out, hxx]
          have htk : A1.take A2.length = A2 := by rw [hAA]; exact List.take_length
          rw [htk] at hd1
          clear hdr hcap htk hxx hb5e hle
          have HA1' := HA1
          have HA2' := HA2
          clear HA1 HA2
          subst hAA
          go_wp2_with fail
          refine wp_region_held_drew (S := fun wx => Below w5.heap.size w5 wx) (by kernel_rfl) (Below.refl _ _).drew (fun hH6 => ?_)
          refine wpAnyH_take (i := 0) (v := ?_) rfl (by kernel_rfl) (by kernel_rfl) (by kernel_rfl) (fun _ _ _ h => h) (Or.inl ⟨by rfl, ?_⟩) hH6 ?_
          rotate_left
          · intro wq hSw; go_simp; (try with_reducible rfl)
          simp only [Act.put, List.getElem_toArray, List.getElem_cons_succ, List.getElem_cons_zero, List.setIfInBounds_toArray, List.set_cons_zero, List.set_cons_succ]
          refine wpAnyH_take (i := 1) (v := ?_) rfl (by kernel_rfl) (by kernel_rfl) (by kernel_rfl) (fun _ _ _ h => h) (Or.inl ⟨by rfl, ?_⟩) hH6 ?_
          rotate_left
          · intro wq hSw; go_simp; (try with_reducible rfl)
          simp only [Act.put, List.getElem_toArray, List.getElem_cons_succ, List.getElem_cons_zero, List.setIfInBounds_toArray, List.set_cons_zero, List.set_cons_succ]
          refine wpAnyH_take (i := 2) (v := ?_) rfl (by kernel_rfl) (by kernel_rfl) (by kernel_rfl) (fun _ _ _ h => h) (Or.inl ⟨by rfl, ?_⟩) hH6 ?_
          rotate_left
          · intro wq hSw; go_simp; (try with_reducible rfl)
          simp only [Act.put, List.getElem_toArray, List.getElem_cons_succ, List.getElem_cons_zero, List.setIfInBounds_toArray, List.set_cons_zero, List.set_cons_succ]
          refine wpAnyH_take (i := 3) (v := ?_) rfl (by kernel_rfl) (by kernel_rfl) (by kernel_rfl) (fun _ _ _ h => h) (Or.inl ⟨by rfl, ?_⟩) hH6 ?_
          rotate_left
          · intro wq hSw; go_simp; (try with_reducible rfl)
          simp only [Act.put, List.getElem_toArray, List.getElem_cons_succ, List.getElem_cons_zero, List.setIfInBounds_toArray, List.set_cons_zero, List.set_cons_succ]
          refine wpAnyH_take (i := 4) (v := ?_) rfl (by kernel_rfl) (by kernel_rfl) (by kernel_rfl) (fun _ _ _ h => h) (Or.inl ⟨by rfl, ?_⟩) hH6 ?_
          rotate_left
          · intro wq hSw; go_simp; (try with_reducible rfl)
          simp only [Act.put, List.getElem_toArray, List.getElem_cons_succ, List.getElem_cons_zero, List.setIfInBounds_toArray, List.set_cons_zero, List.set_cons_succ]
          refine wpAnyH_take (i := 5) (v := ?_) rfl (by kernel_rfl) (by kernel_rfl) (by kernel_rfl) (fun _ _ _ h => h) (Or.inl ⟨by rfl, ?_⟩) hH6 ?_
          rotate_left
          · intro wq hSw; go_simp; (try with_reducible rfl)
          simp only [Act.put, List.getElem_toArray, List.getElem_cons_succ, List.getElem_cons_zero, List.setIfInBounds_toArray, List.set_cons_zero, List.set_cons_succ]
          refine wpAnyH_take (i := 6) (v := ?_) rfl (by kernel_rfl) (by kernel_rfl) (by kernel_rfl) (fun _ _ _ h => h) (Or.inl ⟨by rfl, ?_⟩) hH6 ?_
          rotate_left
          · intro wq hSw; go_simp; (try with_reducible rfl)
          simp only [Act.put, List.getElem_toArray, List.getElem_cons_succ, List.getElem_cons_zero, List.setIfInBounds_toArray, List.set_cons_zero, List.set_cons_succ]
          refine wpAnyH_take (i := 7) (v := ?_) rfl (by kernel_rfl) (by kernel_rfl) (by kernel_rfl) (fun _ _ _ h => h) (Or.inl ⟨by rfl, ?_⟩) hH6 ?_
          rotate_left
          · intro wq hSw; go_simp; (try with_reducible rfl)
          simp only [Act.put, List.getElem_toArray, List.getElem_cons_succ, List.getElem_cons_zero, List.setIfInBounds_toArray, List.set_cons_zero, List.set_cons_succ]
          refine wpAnyH_take (i := 8) (v := ?_) rfl (by kernel_rfl) (by kernel_rfl) (by kernel_rfl) (fun _ _ _ h => h) (Or.inl ⟨by rfl, ?_⟩) hH6 ?_
          rotate_left
          · intro wq hSw; go_simp; (try with_reducible rfl)
          simp only [Act.put, List.getElem_toArray, List.getElem_cons_succ, List.getElem_cons_zero, List.setIfInBounds_toArray, List.set_cons_zero, List.set_cons_succ]
          refine wpAnyH_take (i := 9) (v := ?_) rfl (by kernel_rfl) (by kernel_rfl) (by kernel_rfl) (fun _ _ _ h => h) (Or.inl ⟨by rfl, ?_⟩) hH6 ?_
          rotate_left
          · intro wq hSw; go_simp; (try with_reducible rfl)
          simp only [Act.put, List.getElem_toArray, List.getElem_cons_succ, List.getElem_cons_zero, List.setIfInBounds_toArray, List.set_cons_zero, List.set_cons_succ]
          refine wpAnyH_take (i := 10) (v := ?_) rfl (by kernel_rfl) (by kernel_rfl) (by kernel_rfl) (fun _ _ _ h => h) (Or.inl ⟨by rfl, ?_⟩) hH6 ?_
          rotate_left
          · intro wq hSw; have hq := hd1 wq hSw; go_simp; (try with_reducible rfl)
          simp only [Act.put, List.getElem_toArray, List.getElem_cons_succ, List.getElem_cons_zero, List.setIfInBounds_toArray, List.set_cons_zero, List.set_cons_succ]
          refine wpAnyH_take (i := 11) (v := ?_) rfl (by kernel_rfl) (by kernel_rfl) (by kernel_rfl) (fun _ _ _ h => h) (Or.inl ⟨by rfl, ?_⟩) hH6 ?_
          rotate_left
          · intro wq hSw; go_simp; (try with_reducible rfl)
          simp only [Act.put, List.getElem_toArray, List.getElem_cons_succ, List.getElem_cons_zero, List.setIfInBounds_toArray, List.set_cons_zero, List.set_cons_succ]
          refine wpAnyH_take (i := 12) (v := ?_) rfl (by kernel_rfl) (by kernel_rfl) (by kernel_rfl) (fun _ _ _ h => h) (Or.inl ⟨by rfl, ?_⟩) hH6 ?_
          rotate_left
          · intro wq hSw; have hq := hd2 wq hSw; go_simp; (try with_reducible rfl)
          simp only [Act.put, List.getElem_toArray, List.getElem_cons_succ, List.getElem_cons_zero, List.setIfInBounds_toArray, List.set_cons_zero, List.set_cons_succ]
          refine wpAnyH_take (i := 13) (v := ?_) rfl (by kernel_rfl) (by kernel_rfl) (by kernel_rfl) (fun _ _ _ h => h) (Or.inl ⟨by rfl, ?_⟩) hH6 ?_
          rotate_left
          · intro wq hSw; go_simp; (try with_reducible rfl)
          simp only [Act.put, List.getElem_toArray, List.getElem_cons_succ, List.getElem_cons_zero, List.setIfInBounds_toArray, List.set_cons_zero, List.set_cons_succ]
          refine wpAnyH_take (i := 14) (v := ?_) rfl (by kernel_rfl) (by kernel_rfl) (by kernel_rfl) (fun _ _ _ h => h) (Or.inl ⟨by rfl, ?_⟩) hH6 ?_
          rotate_left
          · intro wq hSw; go_simp; (try with_reducible rfl)
          simp only [Act.put, List.getElem_toArray, List.getElem_cons_succ, List.getElem_cons_zero, List.setIfInBounds_toArray, List.set_cons_zero, List.set_cons_succ]
          refine wpAnyH_take (i := 15) (v := ?_) rfl (by kernel_rfl) (by kernel_rfl) (by kernel_rfl) (fun _ _ _ h => h) (Or.inl ⟨by rfl, ?_⟩) hH6 ?_
          rotate_left
          · intro wq hSw; go_simp; (try with_reducible rfl)
          simp only [Act.put, List.getElem_toArray, List.getElem_cons_succ, List.getElem_cons_zero, List.setIfInBounds_toArray, List.set_cons_zero, List.set_cons_succ]
          refine wpAnyH_take (i := 16) (v := ?_) rfl (by kernel_rfl) (by kernel_rfl) (by kernel_rfl) (fun _ _ _ h => h) (Or.inl ⟨by rfl, ?_⟩) hH6 ?_
          rotate_left
          · intro wq hSw; go_simp; (try with_reducible rfl)
          simp only [Act.put, List.getElem_toArray, List.getElem_cons_succ, List.getElem_cons_zero, List.setIfInBounds_toArray, List.set_cons_zero, List.set_cons_succ]
          refine wpAnyH_done (by kernel_rfl) ?_ _
          have hb16 := Chain.up hb15 hH6
          have hown26 := hown25.up hH6
          have hown36 := hown35.up hH6
          go_wp2_with fail
          go_roundw
          case rel => exact ⟨k + 1, by omega, by go_num, hown26, hown36, hb16⟩
          case measure => simp [intOf]; omega
        | false =>
          have hxx : ¬ A1.take A2.length = A2 := fun h => by
            have h1 := Hone2.out h
            have h2 := hb5e.2 (by simp [h1])
            cases h2
          have he1 : (A1.take A2.length == A2) = false := beq_eq_false_iff_ne.2 hxx
          generalize A1.take A2.length = T1 at *
          clear hdr hcap hxx hb5e hle
          go_wp2_with fail
          refine wp_region_held_drew (S := fun wx => Below w5.heap.size w5 wx) (by kernel_rfl) (Below.refl _ _).drew (fun hH6 => ?_)
          refine wpAnyH_take (i := 0) (v := ?_) rfl (by kernel_rfl) (by kernel_rfl) (by kernel_rfl) (fun _ _ _ h => h) (Or.inl ⟨by rfl, ?_⟩) hH6 ?_
          rotate_left
          · intro wq hSw; go_simp; (try with_reducible rfl)
          simp only [Act.put, List.getElem_toArray, List.getElem_cons_succ, List.getElem_cons_zero, List.setIfInBounds_toArray, List.set_cons_zero, List.set_cons_succ]
          refine wpAnyH_take (i := 1) (v := ?_) rfl (by kernel_rfl) (by kernel_rfl) (by kernel_rfl) (fun _ _ _ h => h) (Or.inl ⟨by rfl, ?_⟩) hH6 ?_
          rotate_left
          · intro wq hSw; go_simp; (try with_reducible rfl)
          simp only [Act.put, List.getElem_toArray, List.getElem_cons_succ, List.getElem_cons_zero, List.setIfInBounds_toArray, List.set_cons_zero, List.set_cons_succ]
          refine wpAnyH_take (i := 2) (v := ?_) rfl (by kernel_rfl) (by kernel_rfl) (by kernel_rfl) (fun _ _ _ h => h) (Or.inl ⟨by rfl, ?_⟩) hH6 ?_
          rotate_left
          · intro wq hSw; go_simp; (try with_reducible rfl)
          simp only [Act.put, List.getElem_toArray, List.getElem_cons_succ, List.getElem_cons_zero, List.setIfInBounds_toArray, List.set_cons_zero, List.set_cons_succ]
          refine wpAnyH_take (i := 3) (v := ?_) rfl (by kernel_rfl) (by kernel_rfl) (by kernel_rfl) (fun _ _ _ h => h) (Or.inl ⟨by rfl, ?_⟩) hH6 ?_
          rotate_left
          · intro wq hSw; go_simp; (try with_reducible rfl)
          simp only [Act.put, List.getElem_toArray, List.getElem_cons_succ, List.getElem_cons_zero, List.setIfInBounds_toArray, List.set_cons_zero, List.set_cons_succ]
          refine wpAnyH_take (i := 4) (v := ?_) rfl (by kernel_rfl) (by kernel_rfl) (by kernel_rfl) (fun _ _ _ h => h) (Or.inl ⟨by rfl, ?_⟩) hH6 ?_
          rotate_left
          · intro wq hSw; go_simp; (try with_reducible rfl)
          simp only [Act.put, List.getElem_toArray, List.getElem_cons_succ, List.getElem_cons_zero, List.setIfInBounds_toArray, List.set_cons_zero, List.set_cons_succ]
          refine wpAnyH_take (i := 5) (v := ?_) rfl (by kernel_rfl) (by kernel_rfl) (by kernel_rfl) (fun _ _ _ h => h) (Or.inl ⟨by rfl, ?_⟩) hH6 ?_
          rotate_left
          · intro wq hSw; go_simp; (try with_reducible rfl)
          simp only [Act.put, List.getElem_toArray, List.getElem_cons_succ, List.getElem_cons_zero, List.setIfInBounds_toArray, List.set_cons_zero, List.set_cons_succ]
          refine wpAnyH_take (i := 6) (v := ?_) rfl (by kernel_rfl) (by kernel_rfl) (by kernel_rfl) (fun _ _ _ h => h) (Or.inl ⟨by rfl, ?_⟩) hH6 ?_
          rotate_left
          · intro wq hSw; go_simp; (try with_reducible rfl)
          simp only [Act.put, List.getElem_toArray, List.getElem_cons_succ, List.getElem_cons_zero, List.setIfInBounds_toArray, List.set_cons_zero, List.set_cons_succ]
          refine wpAnyH_take (i := 7) (v := ?_) rfl (by kernel_rfl) (by kernel_rfl) (by kernel_rfl) (fun _ _ _ h => h) (Or.inl ⟨by rfl, ?_⟩) hH6 ?_
          rotate_left
          · intro wq hSw; go_simp; (try with_reducible rfl)
          simp only [Act.put, List.getElem_toArray, List.getElem_cons_succ, List.getElem_cons_zero, List.setIfInBounds_toArray, List.set_cons_zero, List.set_cons_succ]
          refine wpAnyH_take (i := 8) (v := ?_) rfl (by kernel_rfl) (by kernel_rfl) (by kernel_rfl) (fun _ _ _ h => h) (Or.inl ⟨by rfl, ?_⟩) hH6 ?_
          rotate_left
          · intro wq hSw; go_simp; (try with_reducible rfl)
          simp only [Act.put, List.getElem_toArray, List.getElem_cons_succ, List.getElem_cons_zero, List.setIfInBounds_toArray, List.set_cons_zero, List.set_cons_succ]
          refine wpAnyH_take (i := 9) (v := ?_) rfl (by kernel_rfl) (by kernel_rfl) (by kernel_rfl) (fun _ _ _ h => h) (Or.inl ⟨by rfl, ?_⟩) hH6 ?_
          rotate_left
          · intro wq hSw; go_simp; (try with_reducible rfl)
          simp only [Act.put, List.getElem_toArray, List.getElem_cons_succ, List.getElem_cons_zero, List.setIfInBounds_toArray, List.set_cons_zero, List.set_cons_succ]
          refine wpAnyH_take (i := 10) (v := ?_) rfl (by kernel_rfl) (by kernel_rfl) (by kernel_rfl) (fun _ _ _ h => h) (Or.inl ⟨by rfl, ?_⟩) hH6 ?_
          rotate_left
          · intro wq hSw; have hq := hd1 wq hSw; go_simp; (try with_reducible rfl)
          simp only [Act.put, List.getElem_toArray, List.getElem_cons_succ, List.getElem_cons_zero, List.setIfInBounds_toArray, List.set_cons_zero, List.set_cons_succ]
          refine wpAnyH_take (i := 11) (v := ?_) rfl (by kernel_rfl) (by kernel_rfl) (by kernel_rfl) (fun _ _ _ h => h) (Or.inl ⟨by rfl, ?_⟩) hH6 ?_
          rotate_left
          · intro wq hSw; go_simp; (try with_reducible rfl)
          simp only [Act.put, List.getElem_toArray, List.getElem_cons_succ, List.getElem_cons_zero, List.setIfInBounds_toArray, List.set_cons_zero, List.set_cons_succ]
          refine wpAnyH_take (i := 12) (v := ?_) rfl (by kernel_rfl) (by kernel_rfl) (by kernel_rfl) (fun _ _ _ h => h) (Or.inl ⟨by rfl, ?_⟩) hH6 ?_
          rotate_left
          · intro wq hSw; have hq := hd2 wq hSw; go_simp; (try with_reducible rfl)
          simp only [Act.put, List.getElem_toArray, List.getElem_cons_succ, List.getElem_cons_zero, List.setIfInBounds_toArray, List.set_cons_zero, List.set_cons_succ]
          refine wpAnyH_take (i := 13) (v := ?_) rfl (by kernel_rfl) (by kernel_rfl) (by kernel_rfl) (fun _ _ _ h => h) (Or.inl ⟨by rfl, ?_⟩) hH6 ?_
          rotate_left
          · intro wq hSw; go_simp; (try with_reducible rfl)
          simp only [Act.put, List.getElem_toArray, List.getElem_cons_succ, List.getElem_cons_zero, List.setIfInBounds_toArray, List.set_cons_zero, List.set_cons_succ]
          refine wpAnyH_take (i := 14) (v := ?_) rfl (by kernel_rfl) (by kernel_rfl) (by kernel_rfl) (fun _ _ _ h => h) (Or.inl ⟨by rfl, ?_⟩) hH6 ?_
          rotate_left
          · intro wq hSw; go_simp; (try with_reducible rfl)
          simp only [Act.put, List.getElem_toArray, List.getElem_cons_succ, List.getElem_cons_zero, List.setIfInBounds_toArray, List.set_cons_zero, List.set_cons_succ]
          refine wpAnyH_take (i := 15) (v := ?_) rfl (by kernel_rfl) (by kernel_rfl) (by kernel_rfl) (fun _ _ _ h => h) (Or.inl ⟨by rfl, ?_⟩) hH6 ?_
          rotate_left
          · intro wq hSw; go_simp; (try with_reducible rfl)
          simp only [Act.put, List.getElem_toArray, List.getElem_cons_succ, List.getElem_cons_zero, List.setIfInBounds_toArray, List.set_cons_zero, List.set_cons_succ]
          refine wpAnyH_take (i := 16) (v := ?_) rfl (by kernel_rfl) (by kernel_rfl) (by kernel_rfl) (fun _ _ _ h => h) (Or.inl ⟨by rfl, ?_⟩) hH6 ?_
          rotate_left
          · intro wq hSw; go_simp; (try with_reducible rfl)
          simp only [Act.put, List.getElem_toArray, List.getElem_cons_succ, List.getElem_cons_zero, List.setIfInBounds_toArray, List.set_cons_zero, List.set_cons_succ]
          refine wpAnyH_done (by kernel_rfl) ?_ _
          have hb16 := Chain.up hb15 hH6
          have hown26 := hown25.up hH6
          have hown36 := hown35.up hH6
          go_wp2_with fail
          go_roundw
          case rel => exact ⟨k + 1, by omega, by go_num, hown26, hown36, hb16⟩
          case measure => simp [intOf]; omega
end Go.Proofs.YtnflbgindcejjaaDoor
