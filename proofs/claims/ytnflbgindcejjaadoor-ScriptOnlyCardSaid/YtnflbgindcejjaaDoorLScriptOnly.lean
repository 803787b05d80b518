/- ScriptOnly: what is decoded of any bytes may be, and its script is a beginning of these bytes; what stands behind that is no act. The walk of the law. -/
import Derived.Test.YtnflbgindcejjaaDoorWSLaw
import Derived.Test.YtnflbgindcejjaaDoorWInv
namespace Go.Proofs.YtnflbgindcejjaaDoor
open Go.RowKit
set_option linter.unusedVariables false
set_option linter.unusedSimpArgs false

theorem P.all_right {l : List P.Ac} (h : P.RightL l) : l.all P.rightB = true := List.all_eq_true.2 fun a ha => (h a ha).1
theorem P.encS_right {l : List P.Ac} (h : P.RightL l) (hl : l.length ≤ 4096) : P.encS l = (P.scriptB l, 0) := by
  unfold P.encS
  rw [if_neg (by omega), if_pos (P.all_right h)]
theorem P.actB_text (a : P.Ac) (h : P.rightB a = true) : a.text.length ≤ (P.actB a).length := by
  unfold P.actB
  by_cases hk : a.kind = 1
  · rw [if_pos hk, List.length_cons, List.length_append, List.length_append]
    omega
  · rw [(P.right_kind h).2.2.2.2.1 hk]
    simp
theorem P.text_in {l : List P.Ac} {a : P.Ac} (ha : a ∈ l) (h : P.rightB a = true) : a.text.length ≤ (P.scriptB l).length := by
  induction l with
  | nil => simp at ha
  | cons b l ih =>
    rw [P.scriptB_cons, List.length_append]
    rcases List.mem_cons.1 ha with rfl | ha
    · have := P.actB_text a h
      omega
    · have := ih ha
      omega
theorem small_of {rs : List AcR} {l : List P.Ac} {n : Nat} (h : rs.map AcR.x = l) (hl : (P.scriptB l).length ≤ n) (hn : n ≤ 20000) : SmallT rs := fun r hr hR => by
  have h1 : r.x ∈ l := by rw [← h]; exact List.mem_map_of_mem hr
  have := P.text_in h1 hR
  omega
theorem P.acts_rest {x : List UInt8} (h : P.rdAct x = none) : P.rdActs 4096 x = [] := by
  unfold P.rdActs
  rw [h]
theorem str_fromS (r x : List UInt8) : (ByteArray.mk (r ++ x).toArray).extract r.length (r.length + x.length) = ⟨x.toArray⟩ := by
  rw [ByteArray.extract_mk]
  congr 1
  simp
theorem str_headS (r x : List UInt8) : (ByteArray.mk (r ++ x).toArray).extract 0 r.length = ⟨r.toArray⟩ := by
  rw [ByteArray.extract_mk]
  congr 1
  simp
/-- What decoding says of a short text. -/
theorem P.acts_all (s : List UInt8) (hs : s.length ≤ 4000) : ∃ x, s = P.scriptB (P.rdActs 4096 s) ++ x ∧ P.rdActs 4096 x = [] ∧ (P.rdActs 4096 s).length ≤ 4000 := by
  obtain ⟨h1, h2, x, h3, h4⟩ := P.rdActs_is 4096 s
  have hl := P.scriptB_len (P.rdActs 4096 s)
  have hx : (P.scriptB (P.rdActs 4096 s)).length ≤ s.length := by
    have := congrArg List.length h3
    rw [List.length_append] at this
    omega
  exact ⟨x, h3, P.acts_rest (h4 (by omega)), by omega⟩

attribute [local go_sem] str_takeS str_fromS str_headS
set_option maxRecDepth 100000 in
set_option maxHeartbeats 8000000 in
theorem law_only (s : List UInt8) (w : World) (hs : s.length ≤ 9223372036854775807) :
    Calls Tryd.prog 7 #[S s] w fun e w' => e = .returned (.bool true) ∧ Below w.heap.size w w' := by
  by_cases hlong : 4000 < s.length
  · have hlong2 : (4000 : Int) < (s.length : Int) := by omega
    have htl : (s.take 4000).length ≤ 4000 := by rw [List.length_take]; omega
    obtain ⟨X, hX1, hX2, hX3⟩ := P.acts_all (s.take 4000) htl
    have hRL := (P.rdActs_is 4096 (s.take 4000)).1
    clear hs
    have HX1 := Lib.hid hX1
    have HX2 := Lib.hid hX2
    clear hX1 hX2
    go_enter Tryd.func7, Tryd.ntmps7
    go_wp2_with (refine wpList_conv_ownG (s.take 4000) (by rfl) 5 rfl Tryd.underlying9 Tryd.underlying30 Tryd.underlying5 ?hl ?_; (case hl => omega); intro v1 w1 hown1 hb1)
    (with_reducible refine (decode_any v1 (s.take 4000) w1 ?h1 (OwnG.says hown1)).mono ?_)
    case h1 => omega
    rintro e w2 ⟨rs, v2, rfl, hrd, hown2, hacs2, hb2⟩
    have hok2 := ok_of_map hrd hRL
    obtain ⟨a2, c2, hv2, hat2⟩ := acts_own hown2 hacs2 hok2
    subst hv2
    rw [← hrd] at HX1 hX3
    rw [List.length_map] at hX3
    have Hat2 := Lib.hid hat2
    have Hok2 := Lib.hid hok2
    have hSl : (P.scriptB (rs.map AcR.x)).length + X.length = ((s.take 4000)).length := by
      have := congrArg List.length HX1.out
      rw [List.length_append] at this
      exact this.symm
    have hst := small_of (n := 4000) rfl (show (P.scriptB (rs.map AcR.x)).length ≤ 4000 by omega) (by omega)
    have henc : P.encS (rs.map AcR.x) = (P.scriptB (rs.map AcR.x), 0) := P.encS_right (by rw [hrd]; exact hRL) (by rw [List.length_map]; omega)
    have HE := Lib.hid henc
    have HSl := Lib.hid hSl
    clear hSl
    have hcut : (s.take 4000) = P.scriptB (rs.map AcR.x) ++ X := HX1.out
    clear hat2 hok2 hrd hRL hown2 hacs2 henc
    generalize hn : rs.length = n at *
    have Hn := Lib.hid hn
    clear hn
    have hb12 := Chain.up hb1 hb2
    have hat0 := Lib.hid hb12
    go_wp2_with fail
    go_loopw [4] (fun i wr => ∃ j : Nat, j ≤ n ∧ i = .int .i64 j ∧ Below w2.heap.size w2 wr) (fun i _ => n - (intOf i).toNat)
    case atStart => exact ⟨0, by omega, rfl, Below.refl _ _⟩
    case round =>
      obtain ⟨j, hj, rfl, hb⟩ := hrel
      by_cases hlt : j < n
      · have hltl : j < rs.length := by have := Hn.out; omega
        have hat3 := Hat2.out.up hb
        obtain ⟨bb, o, rfl, hbb, c0, c1, c2', c3, c4, c5, c6⟩ := act_at hat3.rows j hltl
        have hac := hat3.acts _ (List.getElem_mem hltl)
        have hok := (Hok2.out _ (List.getElem_mem hltl)).1
        clear hat3
        generalize rs[j] = r at *
        have hcr := hac.2.2
        have HR := Lib.hid (fun wx (hp : CrAt wx r.a r.b r.x.cr) => right_any r.x r.da r.a r.b r.x.draws.length r.dc r.x.cr.keep.length r.k r.x.cr.spoil.length r.m rfl rfl rfl wx hp)
        rw [hok] at HR
        go_wp2_with (go_at_call 12; (with_reducible refine (HR.out _ hcr).mono ?_); rintro e w3 ⟨rfl, hb3⟩)
        go_roundw
        case rel => exact ⟨j + 1, by omega, by go_num, Chain.up hb hb3⟩
        case measure => simp [intOf]; omega
      · obtain rfl : j = n := by omega
        have hbw := Chain.up hb12 hb
        go_wp2_with (go_at_call 9; (with_reducible refine (encode_any a2 rs c2 j wr ?h1 ?h2 (Hat2.out.up hb) hst).mono ?_); (case h1 => exact Hn.out.symm); (case h2 => omega); rintro e w4 ⟨v4, rfl, hown4, hb4⟩; rw [HE.out] at hown4 ⊢; have hb4' := Chain.up hbw hb4; obtain ⟨a4, c4, hv4⟩ := Own.isS hown4; subst hv4)
        generalize hsb : P.scriptB (rs.map AcR.x) = SB at *
        have Hsb := Lib.hid hsb
        have hd1 := hown4.says
        have hrun := fun wx (hx : Below w4.heap.size w4 wx) => hd1 wx hx
        clear hsb
        have htake : (SB ++ X).take SB.length = SB := List.take_left
        have hXl : X.length ≤ 4000 := by have := HSl.out; omega
        have hSBl : SB.length ≤ 4000 := by have := HSl.out; omega
        clear HSl htake htl HX1
        have hle : decide ((SB.length : Int) + (X.length : Int) < (SB.length : Int)) = false := decide_eq_false (by omega)
        have hle2 : (SB.length : Int) ≤ (SB.length : Int) + (X.length : Int) := by omega
        refine wp_region_held_drew (S := fun wx => Below w4.heap.size w4 wx) (by kernel_rfl) (Below.refl _ _).drew (fun hHeld => ?_)
        refine wpAnyH_take (i := 0) (v := ?_) rfl (by kernel_rfl) (by kernel_rfl) (by kernel_rfl) (fun _ _ _ h => h) (Or.inl ⟨by rfl, ?_⟩) hHeld ?_
        rotate_left
        · intro wq hSw; go_simp; (try with_reducible rfl)
        simp only [Act.put, List.getElem_toArray, List.getElem_cons_succ, List.getElem_cons_zero, List.setIfInBounds_toArray, List.set_cons_zero, List.set_cons_succ]
        refine wpAnyH_take (i := 1) (v := ?_) rfl (by kernel_rfl) (by kernel_rfl) (by kernel_rfl) (fun _ _ _ h => h) (Or.inl ⟨by rfl, ?_⟩) hHeld ?_
        rotate_left
        · intro wq hSw; go_simp; (try with_reducible rfl)
        simp only [Act.put, List.getElem_toArray, List.getElem_cons_succ, List.getElem_cons_zero, List.setIfInBounds_toArray, List.set_cons_zero, List.set_cons_succ]
        refine wpAnyH_take (i := 2) (v := ?_) rfl (by kernel_rfl) (by kernel_rfl) (by kernel_rfl) (fun _ _ _ h => h) (Or.inl ⟨by rfl, ?_⟩) hHeld ?_
        rotate_left
        · intro wq hSw; go_simp; (try with_reducible rfl)
        simp only [Act.put, List.getElem_toArray, List.getElem_cons_succ, List.getElem_cons_zero, List.setIfInBounds_toArray, List.set_cons_zero, List.set_cons_succ]
        refine wpAnyH_take (i := 3) (v := ?_) rfl (by kernel_rfl) (by kernel_rfl) (by kernel_rfl) (fun _ _ _ h => h) (Or.inl ⟨by rfl, ?_⟩) hHeld ?_
        rotate_left
        · intro wq hSw; go_simp; (try with_reducible rfl)
        simp only [Act.put, List.getElem_toArray, List.getElem_cons_succ, List.getElem_cons_zero, List.setIfInBounds_toArray, List.set_cons_zero, List.set_cons_succ]
        refine wpAnyH_take (i := 4) (v := ?_) rfl (by kernel_rfl) (by kernel_rfl) (by kernel_rfl) (fun _ _ _ h => h) (Or.inl ⟨by rfl, ?_⟩) hHeld ?_
        rotate_left
        · intro wq hSw; go_simp; (try with_reducible rfl)
        simp only [Act.put, List.getElem_toArray, List.getElem_cons_succ, List.getElem_cons_zero, List.setIfInBounds_toArray, List.set_cons_zero, List.set_cons_succ]
        refine wpAnyH_take (i := 5) (v := ?_) rfl (by kernel_rfl) (by kernel_rfl) (by kernel_rfl) (fun _ _ _ h => h) (Or.inl ⟨by rfl, ?_⟩) hHeld ?_
        rotate_left
        · intro wq hSw; go_simp; (try with_reducible rfl)
        simp only [Act.put, List.getElem_toArray, List.getElem_cons_succ, List.getElem_cons_zero, List.setIfInBounds_toArray, List.set_cons_zero, List.set_cons_succ]
        refine wpAnyH_take (i := 6) (v := ?_) rfl (by kernel_rfl) (by kernel_rfl) (by kernel_rfl) (fun _ _ _ h => h) (Or.inl ⟨by rfl, ?_⟩) hHeld ?_
        rotate_left
        · intro wq hSw; go_simp; (try with_reducible rfl)
        simp only [Act.put, List.getElem_toArray, List.getElem_cons_succ, List.getElem_cons_zero, List.setIfInBounds_toArray, List.set_cons_zero, List.set_cons_succ]
        refine wpAnyH_take (i := 7) (v := ?_) rfl (by kernel_rfl) (by kernel_rfl) (by kernel_rfl) (fun _ _ _ h => h) (Or.inl ⟨by rfl, ?_⟩) hHeld ?_
        rotate_left
        · intro wq hSw; go_simp; (try with_reducible rfl)
        simp only [Act.put, List.getElem_toArray, List.getElem_cons_succ, List.getElem_cons_zero, List.setIfInBounds_toArray, List.set_cons_zero, List.set_cons_succ]
        refine wpAnyH_take (i := 8) (v := ?_) rfl (by kernel_rfl) (by kernel_rfl) (by kernel_rfl) (fun _ _ _ h => h) (Or.inl ⟨by rfl, ?_⟩) hHeld ?_
        rotate_left
        · intro wq hSw; go_simp; (try with_reducible rfl)
        simp only [Act.put, List.getElem_toArray, List.getElem_cons_succ, List.getElem_cons_zero, List.setIfInBounds_toArray, List.set_cons_zero, List.set_cons_succ]
        refine wpAnyH_take (i := 9) (v := ?_) rfl (by kernel_rfl) (by kernel_rfl) (by kernel_rfl) (fun _ _ _ h => h) (Or.inl ⟨by rfl, ?_⟩) hHeld ?_
        rotate_left
        · intro wq hSw; go_simp; (try with_reducible rfl)
        simp only [Act.put, List.getElem_toArray, List.getElem_cons_succ, List.getElem_cons_zero, List.setIfInBounds_toArray, List.set_cons_zero, List.set_cons_succ]
        refine wpAnyH_take (i := 10) (v := ?_) rfl (by kernel_rfl) (by kernel_rfl) (by kernel_rfl) (fun _ _ _ h => h) (Or.inl ⟨by rfl, ?_⟩) hHeld ?_
        rotate_left
        · intro wq hSw; go_simp; (try with_reducible rfl)
        simp only [Act.put, List.getElem_toArray, List.getElem_cons_succ, List.getElem_cons_zero, List.setIfInBounds_toArray, List.set_cons_zero, List.set_cons_succ]
        refine wpAnyH_take (i := 11) (v := ?_) rfl (by kernel_rfl) (by kernel_rfl) (by kernel_rfl) (fun _ _ _ h => h) (Or.inl ⟨by rfl, ?_⟩) hHeld ?_
        rotate_left
        · intro wq hSw; have hq := hrun wq hSw; go_simp; (try with_reducible rfl)
        simp only [Act.put, List.getElem_toArray, List.getElem_cons_succ, List.getElem_cons_zero, List.setIfInBounds_toArray, List.set_cons_zero, List.set_cons_succ]
        refine wpAnyH_take (i := 12) (v := ?_) rfl (by kernel_rfl) (by kernel_rfl) (by kernel_rfl) (fun _ _ _ h => h) (Or.inl ⟨by rfl, ?_⟩) hHeld ?_
        rotate_left
        · intro wq hSw; go_simp; (try with_reducible rfl)
        simp only [Act.put, List.getElem_toArray, List.getElem_cons_succ, List.getElem_cons_zero, List.setIfInBounds_toArray, List.set_cons_zero, List.set_cons_succ]
        refine wpAnyH_take (i := 13) (v := ?_) rfl (by kernel_rfl) (by kernel_rfl) (by kernel_rfl) (fun _ _ _ h => h) (Or.inl ⟨by rfl, ?_⟩) hHeld ?_
        rotate_left
        · intro wq hSw; go_simp; (try with_reducible rfl)
        simp only [Act.put, List.getElem_toArray, List.getElem_cons_succ, List.getElem_cons_zero, List.setIfInBounds_toArray, List.set_cons_zero, List.set_cons_succ]
        refine wpAnyH_take (i := 14) (v := ?_) rfl (by kernel_rfl) (by kernel_rfl) (by kernel_rfl) (fun _ _ _ h => h) (Or.inl ⟨by rfl, ?_⟩) hHeld ?_
        rotate_left
        · intro wq hSw; go_simp; (try with_reducible rfl)
        simp only [Act.put, List.getElem_toArray, List.getElem_cons_succ, List.getElem_cons_zero, List.setIfInBounds_toArray, List.set_cons_zero, List.set_cons_succ]
        refine wpAnyH_take (i := 15) (v := ?_) rfl (by kernel_rfl) (by kernel_rfl) (by kernel_rfl) (fun _ _ _ h => h) (Or.inl ⟨by rfl, ?_⟩) hHeld ?_
        rotate_left
        · intro wq hSw; go_simp; (try with_reducible rfl)
        simp only [Act.put, List.getElem_toArray, List.getElem_cons_succ, List.getElem_cons_zero, List.setIfInBounds_toArray, List.set_cons_zero, List.set_cons_succ]
        refine wpAnyH_take (i := 16) (v := ?_) rfl (by kernel_rfl) (by kernel_rfl) (by kernel_rfl) (fun _ _ _ h => h) (Or.inl ⟨by rfl, ?_⟩) hHeld ?_
        rotate_left
        · intro wq hSw; go_simp; (try with_reducible rfl)
        simp only [Act.put, List.getElem_toArray, List.getElem_cons_succ, List.getElem_cons_zero, List.setIfInBounds_toArray, List.set_cons_zero, List.set_cons_succ]
        refine wpAnyH_take (i := 17) (v := ?_) rfl (by kernel_rfl) (by kernel_rfl) (by kernel_rfl) (fun _ _ _ h => h) (Or.inl ⟨by rfl, ?_⟩) hHeld ?_
        rotate_left
        · intro wq hSw; go_simp; (try with_reducible rfl)
        simp only [Act.put, List.getElem_toArray, List.getElem_cons_succ, List.getElem_cons_zero, List.setIfInBounds_toArray, List.set_cons_zero, List.set_cons_succ]
        refine wpAnyH_done (by kernel_rfl) ?_ _
        have hbd := Chain.up hb4' hHeld
        clear hrun hd1 hown4
        go_wp2_with (refine wpList_conv_ownG X (by rfl) 5 rfl Tryd.underlying9 Tryd.underlying30 Tryd.underlying5 ?hl ?_; (case hl => omega); intro v5 w5 hown5 hb5)
        go_at_call 11
        (with_reducible refine (decode_any v5 X w5 ?h1 (OwnG.says hown5)).mono ?_)
        case h1 => omega
        rintro e w6 ⟨qs, v6, rfl, hqd, hown6, hacs6, hb6⟩
        rw [HX2.out] at hqd
        obtain rfl : qs = [] := by simpa using hqd
        obtain ⟨a6, c6, hv6, _, _⟩ := hown6.is acCells_len
        subst hv6
        go_wp2_with (go_at_call 14; (with_reducible refine (awake_any _).mono ?_); rintro e w7 ⟨rfl, hb7⟩)
        go_ret
        exact ⟨rfl, Chain.up (Chain.up (Chain.up hbd hb5) hb6) hb7⟩
  · have hlong2 : ¬ (4000 : Int) < (s.length : Int) := by omega
    have htl : s.length ≤ 4000 := by omega
    obtain ⟨X, hX1, hX2, hX3⟩ := P.acts_all s htl
    have hRL := (P.rdActs_is 4096 s).1
    clear hs hlong
    have HX1 := Lib.hid hX1
    have HX2 := Lib.hid hX2
    clear hX1 hX2
    go_enter Tryd.func7, Tryd.ntmps7
    go_wp2_with (refine wpList_conv_ownG s (by rfl) 5 rfl Tryd.underlying9 Tryd.underlying30 Tryd.underlying5 ?hl ?_; (case hl => omega); intro v1 w1 hown1 hb1)
    (with_reducible refine (decode_any v1 s w1 ?h1 (OwnG.says hown1)).mono ?_)
    case h1 => omega
    rintro e w2 ⟨rs, v2, rfl, hrd, hown2, hacs2, hb2⟩
    have hok2 := ok_of_map hrd hRL
    obtain ⟨a2, c2, hv2, hat2⟩ := acts_own hown2 hacs2 hok2
    subst hv2
    rw [← hrd] at HX1 hX3
    rw [List.length_map] at hX3
    have Hat2 := Lib.hid hat2
    have Hok2 := Lib.hid hok2
    have hSl : (P.scriptB (rs.map AcR.x)).length + X.length = (s).length := by
      have := congrArg List.length HX1.out
      rw [List.length_append] at this
      exact this.symm
    have hst := small_of (n := 4000) rfl (show (P.scriptB (rs.map AcR.x)).length ≤ 4000 by omega) (by omega)
    have henc : P.encS (rs.map AcR.x) = (P.scriptB (rs.map AcR.x), 0) := P.encS_right (by rw [hrd]; exact hRL) (by rw [List.length_map]; omega)
    have HE := Lib.hid henc
    have HSl := Lib.hid hSl
    clear hSl
    have hcut : s = P.scriptB (rs.map AcR.x) ++ X := HX1.out
    clear hat2 hok2 hrd hRL hown2 hacs2 henc
    generalize hn : rs.length = n at *
    have Hn := Lib.hid hn
    clear hn
    have hb12 := Chain.up hb1 hb2
    have hat0 := Lib.hid hb12
    go_wp2_with fail
    go_loopw [4] (fun i wr => ∃ j : Nat, j ≤ n ∧ i = .int .i64 j ∧ Below w2.heap.size w2 wr) (fun i _ => n - (intOf i).toNat)
    case atStart => exact ⟨0, by omega, rfl, Below.refl _ _⟩
    case round =>
      obtain ⟨j, hj, rfl, hb⟩ := hrel
      by_cases hlt : j < n
      · have hltl : j < rs.length := by have := Hn.out; omega
        have hat3 := Hat2.out.up hb
        obtain ⟨bb, o, rfl, hbb, c0, c1, c2', c3, c4, c5, c6⟩ := act_at hat3.rows j hltl
        have hac := hat3.acts _ (List.getElem_mem hltl)
        have hok := (Hok2.out _ (List.getElem_mem hltl)).1
        clear hat3
        generalize rs[j] = r at *
        have hcr := hac.2.2
        have HR := Lib.hid (fun wx (hp : CrAt wx r.a r.b r.x.cr) => right_any r.x r.da r.a r.b r.x.draws.length r.dc r.x.cr.keep.length r.k r.x.cr.spoil.length r.m rfl rfl rfl wx hp)
        rw [hok] at HR
        go_wp2_with (go_at_call 12; (with_reducible refine (HR.out _ hcr).mono ?_); rintro e w3 ⟨rfl, hb3⟩)
        go_roundw
        case rel => exact ⟨j + 1, by omega, by go_num, Chain.up hb hb3⟩
        case measure => simp [intOf]; omega
      · obtain rfl : j = n := by omega
        have hbw := Chain.up hb12 hb
        go_wp2_with (go_at_call 9; (with_reducible refine (encode_any a2 rs c2 j wr ?h1 ?h2 (Hat2.out.up hb) hst).mono ?_); (case h1 => exact Hn.out.symm); (case h2 => omega); rintro e w4 ⟨v4, rfl, hown4, hb4⟩; rw [HE.out] at hown4 ⊢; have hb4' := Chain.up hbw hb4; obtain ⟨a4, c4, hv4⟩ := Own.isS hown4; subst hv4)
        generalize hsb : P.scriptB (rs.map AcR.x) = SB at *
        have Hsb := Lib.hid hsb
        have hd1 := hown4.says
        have hrun := fun wx (hx : Below w4.heap.size w4 wx) => hd1 wx hx
        clear hsb
        have htake : (SB ++ X).take SB.length = SB := List.take_left
        have hXl : X.length ≤ 4000 := by have := HSl.out; omega
        have hSBl : SB.length ≤ 4000 := by have := HSl.out; omega
        clear HSl htake htl HX1
        have hle : decide ((SB.length : Int) + (X.length : Int) < (SB.length : Int)) = false := decide_eq_false (by omega)
        have hle2 : (SB.length : Int) ≤ (SB.length : Int) + (X.length : Int) := by omega
        refine wp_region_held_drew (S := fun wx => Below w4.heap.size w4 wx) (by kernel_rfl) (Below.refl _ _).drew (fun hHeld => ?_)
        refine wpAnyH_take (i := 0) (v := ?_) rfl (by kernel_rfl) (by kernel_rfl) (by kernel_rfl) (fun _ _ _ h => h) (Or.inl ⟨by rfl, ?_⟩) hHeld ?_
        rotate_left
        · intro wq hSw; go_simp; (try with_reducible rfl)
        simp only [Act.put, List.getElem_toArray, List.getElem_cons_succ, List.getElem_cons_zero, List.setIfInBounds_toArray, List.set_cons_zero, List.set_cons_succ]
        refine wpAnyH_take (i := 1) (v := ?_) rfl (by kernel_rfl) (by kernel_rfl) (by kernel_rfl) (fun _ _ _ h => h) (Or.inl ⟨by rfl, ?_⟩) hHeld ?_
        rotate_left
        · intro wq hSw; go_simp; (try with_reducible rfl)
        simp only [Act.put, List.getElem_toArray, List.getElem_cons_succ, List.getElem_cons_zero, List.setIfInBounds_toArray, List.set_cons_zero, List.set_cons_succ]
        refine wpAnyH_take (i := 2) (v := ?_) rfl (by kernel_rfl) (by kernel_rfl) (by kernel_rfl) (fun _ _ _ h => h) (Or.inl ⟨by rfl, ?_⟩) hHeld ?_
        rotate_left
        · intro wq hSw; go_simp; (try with_reducible rfl)
        simp only [Act.put, List.getElem_toArray, List.getElem_cons_succ, List.getElem_cons_zero, List.setIfInBounds_toArray, List.set_cons_zero, List.set_cons_succ]
        refine wpAnyH_take (i := 3) (v := ?_) rfl (by kernel_rfl) (by kernel_rfl) (by kernel_rfl) (fun _ _ _ h => h) (Or.inl ⟨by rfl, ?_⟩) hHeld ?_
        rotate_left
        · intro wq hSw; go_simp; (try with_reducible rfl)
        simp only [Act.put, List.getElem_toArray, List.getElem_cons_succ, List.getElem_cons_zero, List.setIfInBounds_toArray, List.set_cons_zero, List.set_cons_succ]
        refine wpAnyH_take (i := 4) (v := ?_) rfl (by kernel_rfl) (by kernel_rfl) (by kernel_rfl) (fun _ _ _ h => h) (Or.inl ⟨by rfl, ?_⟩) hHeld ?_
        rotate_left
        · intro wq hSw; go_simp; (try with_reducible rfl)
        simp only [Act.put, List.getElem_toArray, List.getElem_cons_succ, List.getElem_cons_zero, List.setIfInBounds_toArray, List.set_cons_zero, List.set_cons_succ]
        refine wpAnyH_take (i := 5) (v := ?_) rfl (by kernel_rfl) (by kernel_rfl) (by kernel_rfl) (fun _ _ _ h => h) (Or.inl ⟨by rfl, ?_⟩) hHeld ?_
        rotate_left
        · intro wq hSw; go_simp; (try with_reducible rfl)
        simp only [Act.put, List.getElem_toArray, List.getElem_cons_succ, List.getElem_cons_zero, List.setIfInBounds_toArray, List.set_cons_zero, List.set_cons_succ]
        refine wpAnyH_take (i := 6) (v := ?_) rfl (by kernel_rfl) (by kernel_rfl) (by kernel_rfl) (fun _ _ _ h => h) (Or.inl ⟨by rfl, ?_⟩) hHeld ?_
        rotate_left
        · intro wq hSw; go_simp; (try with_reducible rfl)
        simp only [Act.put, List.getElem_toArray, List.getElem_cons_succ, List.getElem_cons_zero, List.setIfInBounds_toArray, List.set_cons_zero, List.set_cons_succ]
        refine wpAnyH_take (i := 7) (v := ?_) rfl (by kernel_rfl) (by kernel_rfl) (by kernel_rfl) (fun _ _ _ h => h) (Or.inl ⟨by rfl, ?_⟩) hHeld ?_
        rotate_left
        · intro wq hSw; go_simp; (try with_reducible rfl)
        simp only [Act.put, List.getElem_toArray, List.getElem_cons_succ, List.getElem_cons_zero, List.setIfInBounds_toArray, List.set_cons_zero, List.set_cons_succ]
        refine wpAnyH_take (i := 8) (v := ?_) rfl (by kernel_rfl) (by kernel_rfl) (by kernel_rfl) (fun _ _ _ h => h) (Or.inl ⟨by rfl, ?_⟩) hHeld ?_
        rotate_left
        · intro wq hSw; go_simp; (try with_reducible rfl)
        simp only [Act.put, List.getElem_toArray, List.getElem_cons_succ, List.getElem_cons_zero, List.setIfInBounds_toArray, List.set_cons_zero, List.set_cons_succ]
        refine wpAnyH_take (i := 9) (v := ?_) rfl (by kernel_rfl) (by kernel_rfl) (by kernel_rfl) (fun _ _ _ h => h) (Or.inl ⟨by rfl, ?_⟩) hHeld ?_
        rotate_left
        · intro wq hSw; go_simp; (try with_reducible rfl)
        simp only [Act.put, List.getElem_toArray, List.getElem_cons_succ, List.getElem_cons_zero, List.setIfInBounds_toArray, List.set_cons_zero, List.set_cons_succ]
        refine wpAnyH_take (i := 10) (v := ?_) rfl (by kernel_rfl) (by kernel_rfl) (by kernel_rfl) (fun _ _ _ h => h) (Or.inl ⟨by rfl, ?_⟩) hHeld ?_
        rotate_left
        · intro wq hSw; go_simp; (try with_reducible rfl)
        simp only [Act.put, List.getElem_toArray, List.getElem_cons_succ, List.getElem_cons_zero, List.setIfInBounds_toArray, List.set_cons_zero, List.set_cons_succ]
        refine wpAnyH_take (i := 11) (v := ?_) rfl (by kernel_rfl) (by kernel_rfl) (by kernel_rfl) (fun _ _ _ h => h) (Or.inl ⟨by rfl, ?_⟩) hHeld ?_
        rotate_left
        · intro wq hSw; have hq := hrun wq hSw; go_simp; (try with_reducible rfl)
        simp only [Act.put, List.getElem_toArray, List.getElem_cons_succ, List.getElem_cons_zero, List.setIfInBounds_toArray, List.set_cons_zero, List.set_cons_succ]
        refine wpAnyH_take (i := 12) (v := ?_) rfl (by kernel_rfl) (by kernel_rfl) (by kernel_rfl) (fun _ _ _ h => h) (Or.inl ⟨by rfl, ?_⟩) hHeld ?_
        rotate_left
        · intro wq hSw; go_simp; (try with_reducible rfl)
        simp only [Act.put, List.getElem_toArray, List.getElem_cons_succ, List.getElem_cons_zero, List.setIfInBounds_toArray, List.set_cons_zero, List.set_cons_succ]
        refine wpAnyH_take (i := 13) (v := ?_) rfl (by kernel_rfl) (by kernel_rfl) (by kernel_rfl) (fun _ _ _ h => h) (Or.inl ⟨by rfl, ?_⟩) hHeld ?_
        rotate_left
        · intro wq hSw; go_simp; (try with_reducible rfl)
        simp only [Act.put, List.getElem_toArray, List.getElem_cons_succ, List.getElem_cons_zero, List.setIfInBounds_toArray, List.set_cons_zero, List.set_cons_succ]
        refine wpAnyH_take (i := 14) (v := ?_) rfl (by kernel_rfl) (by kernel_rfl) (by kernel_rfl) (fun _ _ _ h => h) (Or.inl ⟨by rfl, ?_⟩) hHeld ?_
        rotate_left
        · intro wq hSw; go_simp; (try with_reducible rfl)
        simp only [Act.put, List.getElem_toArray, List.getElem_cons_succ, List.getElem_cons_zero, List.setIfInBounds_toArray, List.set_cons_zero, List.set_cons_succ]
        refine wpAnyH_take (i := 15) (v := ?_) rfl (by kernel_rfl) (by kernel_rfl) (by kernel_rfl) (fun _ _ _ h => h) (Or.inl ⟨by rfl, ?_⟩) hHeld ?_
        rotate_left
        · intro wq hSw; go_simp; (try with_reducible rfl)
        simp only [Act.put, List.getElem_toArray, List.getElem_cons_succ, List.getElem_cons_zero, List.setIfInBounds_toArray, List.set_cons_zero, List.set_cons_succ]
        refine wpAnyH_take (i := 16) (v := ?_) rfl (by kernel_rfl) (by kernel_rfl) (by kernel_rfl) (fun _ _ _ h => h) (Or.inl ⟨by rfl, ?_⟩) hHeld ?_
        rotate_left
        · intro wq hSw; go_simp; (try with_reducible rfl)
        simp only [Act.put, List.getElem_toArray, List.getElem_cons_succ, List.getElem_cons_zero, List.setIfInBounds_toArray, List.set_cons_zero, List.set_cons_succ]
        refine wpAnyH_take (i := 17) (v := ?_) rfl (by kernel_rfl) (by kernel_rfl) (by kernel_rfl) (fun _ _ _ h => h) (Or.inl ⟨by rfl, ?_⟩) hHeld ?_
        rotate_left
        · intro wq hSw; go_simp; (try with_reducible rfl)
        simp only [Act.put, List.getElem_toArray, List.getElem_cons_succ, List.getElem_cons_zero, List.setIfInBounds_toArray, List.set_cons_zero, List.set_cons_succ]
        refine wpAnyH_done (by kernel_rfl) ?_ _
        have hbd := Chain.up hb4' hHeld
        clear hrun hd1 hown4
        go_wp2_with (refine wpList_conv_ownG X (by rfl) 5 rfl Tryd.underlying9 Tryd.underlying30 Tryd.underlying5 ?hl ?_; (case hl => omega); intro v5 w5 hown5 hb5)
        go_at_call 11
        (with_reducible refine (decode_any v5 X w5 ?h1 (OwnG.says hown5)).mono ?_)
        case h1 => omega
        rintro e w6 ⟨qs, v6, rfl, hqd, hown6, hacs6, hb6⟩
        rw [HX2.out] at hqd
        obtain rfl : qs = [] := by simpa using hqd
        obtain ⟨a6, c6, hv6, _, _⟩ := hown6.is acCells_len
        subst hv6
        go_wp2_with (go_at_call 14; (with_reducible refine (awake_any _).mono ?_); rintro e w7 ⟨rfl, hb7⟩)
        go_ret
        exact ⟨rfl, Chain.up (Chain.up (Chain.up hbd hb5) hb6) hb7⟩
end Go.Proofs.YtnflbgindcejjaaDoor
