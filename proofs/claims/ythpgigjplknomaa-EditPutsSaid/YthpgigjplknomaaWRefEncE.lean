/- The walk of the document's Encode of an edit. -/
import Derived.Test.YthpgigjplknomaaWAwakeE
import Derived.Test.YthpgigjplknomaaWRefMay
namespace Go.Proofs.Ythpgigjplknomaa
open Go.RowKit
set_option linter.unusedVariables false
set_option linter.unusedSimpArgs false
attribute [local go_sem] str_app

theorem strs_up {w w' : World} {a : Option Addr} {l : List (List UInt8)} (h : StrsAt w a l) (hb : Below w.heap.size w w') : StrsAt w' a l := by
  intro i hi
  obtain ⟨b, o, e, hlt, hc⟩ := h i hi
  exact ⟨b, o, e, Nat.lt_of_lt_of_le hlt hb.size, (hb.cell (p := ⟨b, o + i, none⟩) hlt).trans hc⟩
/-- What the slots of a table's line hold. -/
def encR (acc V6 T2 : List UInt8) (ns : List Nat) (ss : List (List UInt8)) (i : Nat) (v : Value) (w : World) : Prop :=
  match i with
  | 16 => ∃ a c, v = .slice a ns.length c ∧ NumsAt w a ns
  | 17 => v = S V6
  | 18 => v = S (acc ++ V6)
  | 23 => ∃ a c, v = .slice a ss.length c ∧ StrsAt w a ss
  | 24 => v = S T2
  | 25 => v = S (acc ++ (V6 ++ T2))
  | 26 => v = S (acc ++ (V6 ++ T2))
  | _ => True
theorem encR_up (acc V6 T2 : List UInt8) (ns : List Nat) (ss : List (List UInt8)) (i : Nat) (v : Value) (w w' : World) (h : encR acc V6 T2 ns ss i v w) (hb : Below w.heap.size w w') : encR acc V6 T2 ns ss i v w' := by
  unfold encR at *
  split at h
  · obtain ⟨a, c, h1, h2⟩ := h; exact ⟨a, c, h1, h2.below hb⟩
  · exact h
  · exact h
  · obtain ⟨a, c, h1, h2⟩ := h; exact ⟨a, c, h1, strs_up h2 hb⟩
  · exact h
  · exact h
  · exact h
  · trivial
def encR9 (acc R1 VD V3 : List UInt8) (ns : List Nat) (i : Nat) (v : Value) (w : World) : Prop :=
  match i with
  | 5 => v = S R1
  | 6 => v = S (acc ++ R1)
  | 9 => v = S VD
  | 10 => v = S (acc ++ (R1 ++ VD))
  | 17 => ∃ a c, v = .slice a ns.length c ∧ NumsAt w a ns
  | 18 => v = S V3
  | 19 => v = S (acc ++ (R1 ++ (VD ++ V3)))
  | 20 => v = S (acc ++ (R1 ++ (VD ++ V3)))
  | _ => True
theorem encR9_up (acc R1 VD V3 : List UInt8) (ns : List Nat) (i : Nat) (v : Value) (w w' : World) (h : encR9 acc R1 VD V3 ns i v w) (hb : Below w.heap.size w w') : encR9 acc R1 VD V3 ns i v w' := by
  unfold encR9 at *
  split at h
  · exact h
  · exact h
  · exact h
  · exact h
  · obtain ⟨a, c, h1, h2⟩ := h; exact ⟨a, c, h1, h2.below hb⟩
  · exact h
  · exact h
  · exact h
  · trivial

set_option maxRecDepth 100000 in
set_option maxHeartbeats 4000000 in
theorem refEncE_no (e : P.Ed) (a b : Option Addr) (c d : Nat) (w : World) (hl : e.add.length ≤ 100000) (hk : e.drop.length ≤ 100000) (hp : EdAt w a b e) (hno : P.mayB e = false) :
    Calls Try.prog 20 #[edV a e.add.length c b e.drop.length d e.log e.seq e.next] w fun e' w' => e' = .returned (.tuple #[S [], .int .i64 1]) ∧ Below w.heap.size w w' := by
  have h0 := (Below.refl w.heap.size w).alloc (Nat.le_refl _) (.cells #[.slice a e.add.length c, .slice b e.drop.length d, V64 e.log, V64 e.seq, V64 e.next] 38)
  have HM := Lib.hid (fun wx (hx : Below w.heap.size w wx) => may_any e a b e.add.length c e.drop.length d rfl rfl wx (by omega) (by omega) (hp.up hx) e.log e.seq e.next false hno)
  clear hp hno
  generalize e.add.length = n at *
  generalize e.drop.length = m at *
  go_enter Try.func20, Try.ntmps20
  go_wp2_with (go_at_call 21; (with_reducible refine (HM.out _ h0).mono ?_); rintro e1 w1 ⟨rfl, hb1⟩)
  go_ret2
  exact ⟨rfl, Chain.up h0 hb1⟩
theorem P.tabRows_next (l : List P.Tab) (k : Nat) (h : k < l.length) : P.tabRows (l.take (k + 1)) = P.tabRows (l.take k) ++ P.tabRow l[k] := by
  rw [List.take_succ_eq_append_getElem h, P.tabRows_snoc]

set_option maxRecDepth 100000 in
set_option maxHeartbeats 16000000 in
theorem refEncE_ok (e : P.Ed) (a b : Option Addr) (c d : Nat) (w : World) (hl : e.add.length ≤ 60) (hk : e.drop.length ≤ 60) (hp : EdAt w a b e) (hty : P.tyE e) (hm : P.mayB e = true) :
    Calls Try.prog 20 #[edV a e.add.length c b e.drop.length d e.log e.seq e.next] w fun e' w' => e' = .returned (.tuple #[S (P.encE e), .int .i64 0]) ∧ Below w.heap.size w w' := by
  obtain ⟨A, D, lo, se, ne⟩ := e
  simp only at *
  obtain ⟨k1, _⟩ := P.may_iff hm
  obtain ⟨ht1, _, _, ht4, ht5, ht6, ht7⟩ := hty
  simp only at k1 ht1 ht4 ht5 ht6 ht7
  have h0 := (Below.refl w.heap.size w).alloc (Nat.le_refl _) (.cells #[.slice a A.length c, .slice b D.length d, V64 lo, V64 se, V64 ne] 38)
  have hbx := Bx.fresh w 38 #[.slice a A.length c, .slice b D.length d, V64 lo, V64 se, V64 ne]
  have HM := Lib.hid (fun wx (hx : Below w.heap.size w wx) => may_any ⟨A, D, lo, se, ne⟩ a b A.length c D.length d rfl rfl wx (by show A.length ≤ _; omega) (by show D.length ≤ _; omega) (hp.up hx) lo se ne true hm)
  have HA := Lib.hid hp.1
  have HRow1 := Lib.hid (fun wx => row_any A.length (by omega) wx)
  have HRow := Lib.hid (fun wx => row_any D.length (by omega) wx)
  have HD := Lib.hid (fun wx (hx : Below w.heap.size w wx) => refVar_any b d D wx (by omega) ht4 (NumsAt.below hp.2 hx))
  have HV3 := Lib.hid (fun a1 c1 wx (h : NumsAt wx a1 [lo, se, ne]) => show Calls Try.prog 41 #[.slice a1 3 c1] wx _ from refVar_any a1 c1 [lo, se, ne] wx (by simp) (by
    intro n hn
    simp only [List.mem_cons, List.not_mem_nil, or_false] at hn
    omega) h)
  have Hres := Lib.hid (show P.encE ⟨A, D, lo, se, ne⟩ = P.row A.length ++ P.tabRows A ++ P.row D.length ++ P.vars D ++ P.vars [lo, se, ne] by simp [P.encE])
  have hr1 := P.row_len9 A.length
  have hr2 := P.row_len9 D.length
  have hvd := P.vars_len D
  have hv3 := P.vars_len [lo, se, ne]
  simp only [List.length_cons, List.length_nil] at hv3
  have hAr := P.tabRows_len A k1
  have HK1 := Lib.hid k1
  have HT1 := Lib.hid ht1
  clear hp hm k1 ht1 ht4 ht5 ht6 ht7
  generalize P.encE ⟨A, D, lo, se, ne⟩ = out at *
  generalize P.vars [lo, se, ne] = V3 at *
  generalize P.vars D = VD at *
  generalize P.row D.length = R1 at *
  generalize P.row A.length = R0 at *
  generalize hn : A.length = n at *
  have Hn := Lib.hid hn
  clear hn
  generalize hnd : D.length = nd at *
  have Hnd := Lib.hid hnd
  clear hnd
  have hwn : IntKind.u64.wrap (n : Int) = (n : Int) := by rw [IntKind.wrap_u64]; omega
  have hwd : IntKind.u64.wrap (nd : Int) = (nd : Int) := by rw [IntKind.wrap_u64]; omega
  go_enter Try.func20, Try.ntmps20
  go_wp2_with (first
    | (go_at_call 21; (with_reducible refine (HM.out _ h0).mono ?_); rintro e1 w1 ⟨rfl, hb1⟩; have hc1 := Chain.up h0 hb1; have hbx1 := hbx.up hb1; obtain ⟨p0, p1, p2, p3, p4⟩ := hbx1.five)
    | (go_at_call 40; (with_reducible refine (HRow1.out _).mono ?_); rintro e1 w2 ⟨rfl, hb2⟩; have hc2 := Chain.up hc1 hb2; have hbx2 := hbx1.up hb2))
  clear h0 hb1 hc1 hbx hbx1 hb2 p0 p1 p2 p3 p4
  go_loopw [5, 4] (fun i v wr => ∃ k : Nat, k ≤ n ∧ i = .int .i64 k ∧ v = S (R0 ++ P.tabRows (A.take k)) ∧ Below w2.heap.size w2 wr) (fun i _ _ => n - (intOf i).toNat)
  case atStart => exact ⟨0, by omega, rfl, by simp [P.tabRows], Below.refl _ _⟩
  case round =>
    obtain ⟨k, hk', rfl, rfl, hb⟩ := hrel
    have hcw := Chain.up hc2 hb
    have hbx := hbx2.up hb
    obtain ⟨s0, s1, s2, s3, s4⟩ := hbx.five
    by_cases hlt : k < n
    · have hltA : k < A.length := by have := Hn.out; omega
      obtain ⟨bb, o, rfl, hbb, c0, c1, c2, c3, c4, c5, c6, c7⟩ := tab_at (RowsAt.up HA.out hcw) k hltA
      have hw := HK1.out A[k] (List.getElem_mem hltA)
      obtain ⟨w1', w2', w3', w4', w5', w6', w7', _, _, _⟩ := P.wrong_no hw
      obtain ⟨y1, y2, y3, y4, y5, y6⟩ := HT1.out A[k] (List.getElem_mem hltA)
      have hacc : (P.tabRows (A.take k)).length ≤ 200 * 60 := by
        have := P.tabRows_len (A.take k) (fun t ht => HK1.out t (List.mem_of_mem_take ht))
        rw [List.length_take] at this
        omega
      have Hnx := Lib.hid (P.tabRows_next A k hltA)
      have Hrow := Lib.hid (show P.tabRow A[k] = P.vars [A[k].n, A[k].level.toNat, A[k].count.toNat, A[k].size.toNat, A[k].least, A[k].most] ++ P.texts [A[k].first, A[k].last] from rfl)
      generalize A[k] = t at *
      obtain ⟨tn, level, count, size, first, last, least, most⟩ := t
      simp only at c0 c1 c2 c3 c4 c5 c6 c7 w1' w2' w3' w4' w5' w6' w7' y1 y2 y3 y4 y5 y6 Hrow
      obtain ⟨lv, rfl⟩ : ∃ q : Nat, level = (q : Int) := ⟨level.toNat, by omega⟩
      obtain ⟨ct, rfl⟩ : ∃ q : Nat, count = (q : Int) := ⟨count.toNat, by omega⟩
      obtain ⟨sz, rfl⟩ : ∃ q : Nat, size = (q : Int) := ⟨size.toNat, by omega⟩
      simp only [Int.toNat_natCast] at Hrow
      have HV := Lib.hid (fun a1 c1 wx (h : NumsAt wx a1 [tn, lv, ct, sz, least, most]) => show Calls Try.prog 41 #[.slice a1 6 c1] wx _ from refVar_any a1 c1 [tn, lv, ct, sz, least, most] wx (by simp) (by
        intro n hn
        simp only [List.mem_cons, List.not_mem_nil, or_false] at hn
        omega) h)
      have HT := Lib.hid (fun a1 c1 wx (h : StrsAt wx a1 [first, last]) => show Calls Try.prog 42 #[.slice a1 2 c1] wx _ from refTexts_any a1 c1 [first, last] wx (by simp) (by simp [P.total]; omega) h)
      have hv6 := P.vars_len [tn, lv, ct, sz, least, most]
      have ht2 := P.texts_len [first, last]
      simp only [List.length_cons, List.length_nil] at hv6
      simp [P.total] at ht2
      have hwl : IntKind.u64.wrap (lv : Int) = (lv : Int) := by rw [IntKind.wrap_u64]; omega
      have hwc : IntKind.u64.wrap (ct : Int) = (ct : Int) := by rw [IntKind.wrap_u64]; omega
      have hws : IntKind.u64.wrap (sz : Int) = (sz : Int) := by rw [IntKind.wrap_u64]; omega
      generalize P.vars [tn, lv, ct, sz, least, most] = V6 at *
      generalize P.texts [first, last] = T2 at *
      generalize hac : R0 ++ P.tabRows (A.take k) = acc at *
      have hal : acc.length ≤ 13000 := by rw [← hac, List.length_append]; omega
      have Hac := Lib.hid hac
      have hadd1 : ¬ 9223372036854775807 < acc.length + V6.length := by omega
      have hadd2 : ¬ 9223372036854775807 < (acc ++ V6).length + T2.length := by rw [List.length_append]; omega
      have hadd3 : ¬ 9223372036854775807 < acc.length + V6.length + T2.length := by omega
      clear hac y1 y2 y3 y4 y5 y6 w1' w2' w3' w4' w5' w6' w7' hw
      go_wp2_with fail
      have ha5 := (Below.refl wr.heap.size wr).alloc (Nat.le_refl _) (.cells #[V64 tn, .int .i64 (lv : Int), .int .i64 (ct : Int), .int .i64 (sz : Int), S first, S last, V64 least, V64 most] 31)
      have hbt := Bx.fresh wr 31 #[V64 tn, .int .i64 (lv : Int), .int .i64 (ct : Int), .int .i64 (sz : Int), S first, S last, V64 least, V64 most]
      obtain ⟨⟨s0, s1, s2, s3⟩, s4, s5, s6, s7⟩ := hbt.eight
      generalize wr.alloc (.cells #[V64 tn, .int .i64 (lv : Int), .int .i64 (ct : Int), .int .i64 (sz : Int), S first, S last, V64 least, V64 most] 31) = w5 at *
      -- REGION 8
      refine wp_region_held_drew (S := fun wx => Below w5.heap.size w5 wx) (by kernel_rfl) (Below.refl _ _).drew (fun hHeld => ?_)
      refine wpAnyH_take (i := 0) (v := ?_) rfl (by kernel_rfl) (by kernel_rfl) (by kernel_rfl) (fun _ _ _ h => h) (Or.inl ⟨by rfl, ?_⟩) hHeld ?_
      rotate_left
      · intro wq hSw; go_simp; (try with_reducible rfl)
      simp only [Act.put, List.getElem_toArray, List.getElem_cons_succ, List.getElem_cons_zero, List.setIfInBounds_toArray, List.set_cons_zero, List.set_cons_succ]
      refine wpAnyH_take (i := 1) (v := ?_) rfl (by kernel_rfl) (by kernel_rfl) (by kernel_rfl) (fun _ _ _ h => h) (Or.inl ⟨by rfl, ?_⟩) hHeld ?_
      rotate_left
      · intro wq hSw; go_simp; (try with_reducible rfl)
      simp only [Act.put, List.getElem_toArray, List.getElem_cons_succ, List.getElem_cons_zero, List.setIfInBounds_toArray, List.set_cons_zero, List.set_cons_succ]
      refine wpAnyH_take (i := 2) (v := ?_) rfl (by kernel_rfl) (by kernel_rfl) (by kernel_rfl) (fun _ _ _ h => h) (Or.inl ⟨by rfl, ?_⟩) hHeld ?_
      rotate_left
      · intro wq hSw; have t0 := cell_up hSw s0; have t1 := cell_up hSw s1; have t2 := cell_up hSw s2; have t3 := cell_up hSw s3; have t4 := cell_up hSw s4; have t5 := cell_up hSw s5; have t6 := cell_up hSw s6; have t7 := cell_up hSw s7; go_simp; (try with_reducible rfl)
      simp only [Act.put, List.getElem_toArray, List.getElem_cons_succ, List.getElem_cons_zero, List.setIfInBounds_toArray, List.set_cons_zero, List.set_cons_succ]
      refine wpAnyH_take (i := 3) (v := ?_) rfl (by kernel_rfl) (by kernel_rfl) (by kernel_rfl) (fun _ _ _ h => h) (Or.inl ⟨by rfl, ?_⟩) hHeld ?_
      rotate_left
      · intro wq hSw; go_simp; (try with_reducible rfl)
      simp only [Act.put, List.getElem_toArray, List.getElem_cons_succ, List.getElem_cons_zero, List.setIfInBounds_toArray, List.set_cons_zero, List.set_cons_succ]
      refine wpAnyH_take (i := 4) (v := ?_) rfl (by kernel_rfl) (by kernel_rfl) (by kernel_rfl) (fun _ _ _ h => h) (Or.inl ⟨by rfl, ?_⟩) hHeld ?_
      rotate_left
      · intro wq hSw; have t0 := cell_up hSw s0; have t1 := cell_up hSw s1; have t2 := cell_up hSw s2; have t3 := cell_up hSw s3; have t4 := cell_up hSw s4; have t5 := cell_up hSw s5; have t6 := cell_up hSw s6; have t7 := cell_up hSw s7; go_simp; (try with_reducible rfl)
      simp only [Act.put, List.getElem_toArray, List.getElem_cons_succ, List.getElem_cons_zero, List.setIfInBounds_toArray, List.set_cons_zero, List.set_cons_succ]
      refine wpAnyH_take (i := 5) (v := ?_) rfl (by kernel_rfl) (by kernel_rfl) (by kernel_rfl) (fun _ _ _ h => h) (Or.inl ⟨by rfl, ?_⟩) hHeld ?_
      rotate_left
      · intro wq hSw; go_simp; (try with_reducible rfl)
      simp only [Act.put, List.getElem_toArray, List.getElem_cons_succ, List.getElem_cons_zero, List.setIfInBounds_toArray, List.set_cons_zero, List.set_cons_succ]
      refine wpAnyH_take (i := 6) (v := ?_) rfl (by kernel_rfl) (by kernel_rfl) (by kernel_rfl) (fun _ _ _ h => h) (Or.inl ⟨by rfl, ?_⟩) hHeld ?_
      rotate_left
      · intro wq hSw; go_simp; (try with_reducible rfl)
      simp only [Act.put, List.getElem_toArray, List.getElem_cons_succ, List.getElem_cons_zero, List.setIfInBounds_toArray, List.set_cons_zero, List.set_cons_succ]
      refine wpAnyH_take (i := 7) (v := ?_) rfl (by kernel_rfl) (by kernel_rfl) (by kernel_rfl) (fun _ _ _ h => h) (Or.inl ⟨by rfl, ?_⟩) hHeld ?_
      rotate_left
      · intro wq hSw; have t0 := cell_up hSw s0; have t1 := cell_up hSw s1; have t2 := cell_up hSw s2; have t3 := cell_up hSw s3; have t4 := cell_up hSw s4; have t5 := cell_up hSw s5; have t6 := cell_up hSw s6; have t7 := cell_up hSw s7; go_simp; (try with_reducible rfl)
      simp only [Act.put, List.getElem_toArray, List.getElem_cons_succ, List.getElem_cons_zero, List.setIfInBounds_toArray, List.set_cons_zero, List.set_cons_succ]
      refine wpAnyH_take (i := 8) (v := ?_) rfl (by kernel_rfl) (by kernel_rfl) (by kernel_rfl) (fun _ _ _ h => h) (Or.inl ⟨by rfl, ?_⟩) hHeld ?_
      rotate_left
      · intro wq hSw; go_simp; (try with_reducible rfl)
      simp only [Act.put, List.getElem_toArray, List.getElem_cons_succ, List.getElem_cons_zero, List.setIfInBounds_toArray, List.set_cons_zero, List.set_cons_succ]
      refine wpAnyH_take (i := 9) (v := ?_) rfl (by kernel_rfl) (by kernel_rfl) (by kernel_rfl) (fun _ _ _ h => h) (Or.inl ⟨by rfl, ?_⟩) hHeld ?_
      rotate_left
      · intro wq hSw; go_simp; (try with_reducible rfl)
      simp only [Act.put, List.getElem_toArray, List.getElem_cons_succ, List.getElem_cons_zero, List.setIfInBounds_toArray, List.set_cons_zero, List.set_cons_succ]
      refine wpAnyH_take (i := 10) (v := ?_) rfl (by kernel_rfl) (by kernel_rfl) (by kernel_rfl) (fun _ _ _ h => h) (Or.inl ⟨by rfl, ?_⟩) hHeld ?_
      rotate_left
      · intro wq hSw; have t0 := cell_up hSw s0; have t1 := cell_up hSw s1; have t2 := cell_up hSw s2; have t3 := cell_up hSw s3; have t4 := cell_up hSw s4; have t5 := cell_up hSw s5; have t6 := cell_up hSw s6; have t7 := cell_up hSw s7; go_simp; (try with_reducible rfl)
      simp only [Act.put, List.getElem_toArray, List.getElem_cons_succ, List.getElem_cons_zero, List.setIfInBounds_toArray, List.set_cons_zero, List.set_cons_succ]
      refine wpAnyH_take (i := 11) (v := ?_) rfl (by kernel_rfl) (by kernel_rfl) (by kernel_rfl) (fun _ _ _ h => h) (Or.inl ⟨by rfl, ?_⟩) hHeld ?_
      rotate_left
      · intro wq hSw; go_simp; (try with_reducible rfl)
      simp only [Act.put, List.getElem_toArray, List.getElem_cons_succ, List.getElem_cons_zero, List.setIfInBounds_toArray, List.set_cons_zero, List.set_cons_succ]
      refine wpAnyH_take (i := 12) (v := ?_) rfl (by kernel_rfl) (by kernel_rfl) (by kernel_rfl) (fun _ _ _ h => h) (Or.inl ⟨by rfl, ?_⟩) hHeld ?_
      rotate_left
      · intro wq hSw; go_simp; (try with_reducible rfl)
      simp only [Act.put, List.getElem_toArray, List.getElem_cons_succ, List.getElem_cons_zero, List.setIfInBounds_toArray, List.set_cons_zero, List.set_cons_succ]
      refine wpAnyH_take (i := 13) (v := ?_) rfl (by kernel_rfl) (by kernel_rfl) (by kernel_rfl) (fun _ _ _ h => h) (Or.inl ⟨by rfl, ?_⟩) hHeld ?_
      rotate_left
      · intro wq hSw; have t0 := cell_up hSw s0; have t1 := cell_up hSw s1; have t2 := cell_up hSw s2; have t3 := cell_up hSw s3; have t4 := cell_up hSw s4; have t5 := cell_up hSw s5; have t6 := cell_up hSw s6; have t7 := cell_up hSw s7; go_simp; (try with_reducible rfl)
      simp only [Act.put, List.getElem_toArray, List.getElem_cons_succ, List.getElem_cons_zero, List.setIfInBounds_toArray, List.set_cons_zero, List.set_cons_succ]
      refine wpAnyH_take (i := 14) (v := ?_) rfl (by kernel_rfl) (by kernel_rfl) (by kernel_rfl) (fun _ _ _ h => h) (Or.inl ⟨by rfl, ?_⟩) hHeld ?_
      rotate_left
      · intro wq hSw; go_simp; (try with_reducible rfl)
      simp only [Act.put, List.getElem_toArray, List.getElem_cons_succ, List.getElem_cons_zero, List.setIfInBounds_toArray, List.set_cons_zero, List.set_cons_succ]
      refine wpAnyH_take (i := 15) (v := ?_) rfl (by kernel_rfl) (by kernel_rfl) (by kernel_rfl) (fun _ _ _ h => h) (Or.inl ⟨by rfl, ?_⟩) hHeld ?_
      rotate_left
      · intro wq hSw; have t0 := cell_up hSw s0; have t1 := cell_up hSw s1; have t2 := cell_up hSw s2; have t3 := cell_up hSw s3; have t4 := cell_up hSw s4; have t5 := cell_up hSw s5; have t6 := cell_up hSw s6; have t7 := cell_up hSw s7; go_simp; (try with_reducible rfl)
      simp only [Act.put, List.getElem_toArray, List.getElem_cons_succ, List.getElem_cons_zero, List.setIfInBounds_toArray, List.set_cons_zero, List.set_cons_succ]
      refine wpAnyH_take (i := 19) (v := ?_) rfl (by kernel_rfl) (by kernel_rfl) (by kernel_rfl) (fun _ _ _ h => h) (Or.inl ⟨by rfl, ?_⟩) hHeld ?_
      rotate_left
      · intro wq hSw; go_simp; (try with_reducible rfl)
      simp only [Act.put, List.getElem_toArray, List.getElem_cons_succ, List.getElem_cons_zero, List.setIfInBounds_toArray, List.set_cons_zero, List.set_cons_succ]
      refine wpAnyH_take (i := 20) (v := ?_) rfl (by kernel_rfl) (by kernel_rfl) (by kernel_rfl) (fun _ _ _ h => h) (Or.inl ⟨by rfl, ?_⟩) hHeld ?_
      rotate_left
      · intro wq hSw; have t0 := cell_up hSw s0; have t1 := cell_up hSw s1; have t2 := cell_up hSw s2; have t3 := cell_up hSw s3; have t4 := cell_up hSw s4; have t5 := cell_up hSw s5; have t6 := cell_up hSw s6; have t7 := cell_up hSw s7; go_simp; (try with_reducible rfl)
      simp only [Act.put, List.getElem_toArray, List.getElem_cons_succ, List.getElem_cons_zero, List.setIfInBounds_toArray, List.set_cons_zero, List.set_cons_succ]
      refine wpAnyH_take (i := 21) (v := ?_) rfl (by kernel_rfl) (by kernel_rfl) (by kernel_rfl) (fun _ _ _ h => h) (Or.inl ⟨by rfl, ?_⟩) hHeld ?_
      rotate_left
      · intro wq hSw; go_simp; (try with_reducible rfl)
      simp only [Act.put, List.getElem_toArray, List.getElem_cons_succ, List.getElem_cons_zero, List.setIfInBounds_toArray, List.set_cons_zero, List.set_cons_succ]
      refine wpAnyH_take (i := 22) (v := ?_) rfl (by kernel_rfl) (by kernel_rfl) (by kernel_rfl) (fun _ _ _ h => h) (Or.inl ⟨by rfl, ?_⟩) hHeld ?_
      rotate_left
      · intro wq hSw; have t0 := cell_up hSw s0; have t1 := cell_up hSw s1; have t2 := cell_up hSw s2; have t3 := cell_up hSw s3; have t4 := cell_up hSw s4; have t5 := cell_up hSw s5; have t6 := cell_up hSw s6; have t7 := cell_up hSw s7; go_simp; (try with_reducible rfl)
      simp only [Act.put, List.getElem_toArray, List.getElem_cons_succ, List.getElem_cons_zero, List.setIfInBounds_toArray, List.set_cons_zero, List.set_cons_succ]
      refine wpAnyH_by (encR acc V6 T2 [tn, lv, ct, sz, least, most] [first, last]) (fun wx wy => Below wx.heap.size wx wy) [(16, some 43), (17, some 44), (18, some 45), (23, some 50), (24, some 51), (25, some 52), (26, some 4)] 0 rfl (by kernel_rfl) (by kernel_rfl) (by kernel_rfl) (by kernel_rfl) (by kernel_rfl) (by kernel_rfl) (by kernel_rfl) (encR_up acc V6 T2 _ _) hHeld ?_ ?_
      · skip
        refine StepsI.skip (by kernel_rfl) ?_
        refine StepsI.skip (by kernel_rfl) ?_
        refine StepsI.skip (by kernel_rfl) ?_
        refine StepsI.skip (by kernel_rfl) ?_
        refine StepsI.skip (by kernel_rfl) ?_
        refine StepsI.skip (by kernel_rfl) ?_
        refine StepsI.skip (by kernel_rfl) ?_
        refine StepsI.skip (by kernel_rfl) ?_
        refine StepsI.skip (by kernel_rfl) ?_
        refine StepsI.skip (by kernel_rfl) ?_
        refine StepsI.skip (by kernel_rfl) ?_
        refine StepsI.skip (by kernel_rfl) ?_
        refine StepsI.skip (by kernel_rfl) ?_
        refine StepsI.skip (by kernel_rfl) ?_
        refine StepsI.skip (by kernel_rfl) ?_
        refine StepsI.skip (by kernel_rfl) ?_
        refine StepsI.cons (fun vals wx hS hd K hK => ?_) ?_
        · simp only [fillA, Act.put, List.setIfInBounds_toArray, List.set_cons_zero, List.set_cons_succ] at hK ⊢
          go_simp
          exact hK.out _ _ ⟨_, _, rfl, NumsAt.of (rows_new 1 numCells numCells_len wx [tn, lv, ct, sz, least, most] _ _ rfl)⟩ (hS.alloc hS.size _) ((Below.refl _ _).alloc (Nat.le_refl _) _)
        refine StepsI.cons (fun vals wx hS hd K hK => ?_) ?_
        · simp only [fillA, Act.put, List.setIfInBounds_toArray, List.set_cons_zero, List.set_cons_succ] at hK ⊢
          obtain ⟨a1, c1, h1, p1⟩ := hd 16 (some 43) (by decide) (by kernel_rfl)
          simp only [h1] at hK ⊢
          go_simp
          (with_reducible refine (HV.out _ _ _ p1).mono ?_)
          rintro e1 w6 ⟨rfl, hb6⟩
          exact hK.out _ _ rfl (Chain.up hS hb6) hb6
        refine StepsI.cons (fun vals wx hS hd K hK => ?_) ?_
        · simp only [fillA, Act.put, List.setIfInBounds_toArray, List.set_cons_zero, List.set_cons_succ] at hK ⊢
          have h1 : vals 17 = S V6 := hd 17 (some 44) (by decide) (by kernel_rfl)
          simp only [h1] at hK ⊢
          go_simp
          exact hK.out _ _ rfl hS (Below.refl _ _)
        refine StepsI.skip (by kernel_rfl) ?_
        refine StepsI.skip (by kernel_rfl) ?_
        refine StepsI.skip (by kernel_rfl) ?_
        refine StepsI.skip (by kernel_rfl) ?_
        refine StepsI.cons (fun vals wx hS hd K hK => ?_) ?_
        · simp only [fillA, Act.put, List.setIfInBounds_toArray, List.set_cons_zero, List.set_cons_succ] at hK ⊢
          go_simp
          exact hK.out _ _ ⟨_, _, rfl, strs_new wx _ _ _ rfl⟩ (hS.alloc hS.size _) ((Below.refl _ _).alloc (Nat.le_refl _) _)
        refine StepsI.cons (fun vals wx hS hd K hK => ?_) ?_
        · simp only [fillA, Act.put, List.setIfInBounds_toArray, List.set_cons_zero, List.set_cons_succ] at hK ⊢
          obtain ⟨a1, c1, h1, p1⟩ := hd 23 (some 50) (by decide) (by kernel_rfl)
          simp only [h1] at hK ⊢
          go_simp
          (with_reducible refine (HT.out _ _ _ p1).mono ?_)
          rintro e1 w6 ⟨rfl, hb6⟩
          exact hK.out _ _ rfl (Chain.up hS hb6) hb6
        refine StepsI.cons (fun vals wx hS hd K hK => ?_) ?_
        · simp only [fillA, Act.put, List.setIfInBounds_toArray, List.set_cons_zero, List.set_cons_succ] at hK ⊢
          have h1 : vals 18 = S (acc ++ V6) := hd 18 (some 45) (by decide) (by kernel_rfl)
          have h2 : vals 24 = S T2 := hd 24 (some 51) (by decide) (by kernel_rfl)
          simp only [h1, h2] at hK ⊢
          go_simp
          exact hK.out _ _ rfl hS (Below.refl _ _)
        refine StepsI.cons (fun vals wx hS hd K hK => ?_) ?_
        · simp only [fillA, Act.put, List.setIfInBounds_toArray, List.set_cons_zero, List.set_cons_succ] at hK ⊢
          have h1 : vals 25 = S (acc ++ (V6 ++ T2)) := hd 25 (some 52) (by decide) (by kernel_rfl)
          simp only [h1] at hK ⊢
          go_simp
          exact hK.out _ _ rfl hS (Below.refl _ _)
        exact StepsI.nil
      · intro vals wx hS hR
        have hv4 : vals 26 = S (acc ++ (V6 ++ T2)) := hR (26, some 4) (by decide)
        refine wpAnyH_done (by kernel_rfl) ?_ _
        simp only [fillA, Act.put, List.setIfInBounds_toArray, List.set_cons_zero, List.set_cons_succ, hv4]
        clear hR
        generalize vals 16 = v16
        generalize vals 17 = v17
        generalize vals 18 = v18
        generalize vals 23 = v23
        generalize vals 24 = v24
        generalize vals 25 = v25
      -- END REGION 8
        go_wp2_with fail
        go_roundw
        case rel => exact ⟨k + 1, by omega, by go_num, by rw [Hnx.out, Hrow.out, ← Hac.out]; simp, Chain.up (Chain.up hb ha5) hS⟩
        case measure => simp [intOf]; omega
    · obtain rfl : k = n := by omega
      have hAk : A.take k = A := List.take_of_length_le (by have := Hn.out; omega)
      rw [hAk]
      clear hAk hlt hk'
      generalize hac : R0 ++ P.tabRows A = acc at *
      have hal : acc.length ≤ 13000 := by rw [← hac, List.length_append]; have := Hn.out; omega
      clear hac
      have hadd1 : ¬ 9223372036854775807 < acc.length + R1.length := by omega
      have hadd2 : ¬ 9223372036854775807 < (acc ++ R1).length + VD.length := by rw [List.length_append]; omega
      have hadd3 : ¬ 9223372036854775807 < acc.length + R1.length + VD.length := by omega
      have hadd4 : ¬ 9223372036854775807 < (acc ++ R1 ++ VD).length + V3.length := by rw [List.length_append, List.length_append]; omega
      have hadd5 : ¬ 9223372036854775807 < acc.length + R1.length + VD.length + V3.length := by omega
      have hadd6 : ¬ 9223372036854775807 < acc.length + (R1.length + VD.length) + V3.length := by omega
      have hadd7 : ¬ 9223372036854775807 < (acc ++ (R1 ++ VD)).length + V3.length := by rw [List.length_append, List.length_append]; omega
      go_wp2_with fail
      -- REGION 9
      refine wp_region_held_drew (S := fun wx => Below wr.heap.size wr wx) (by kernel_rfl) (Below.refl _ _).drew (fun hHeld => ?_)
      refine wpAnyH_take (i := 0) (v := ?_) rfl (by kernel_rfl) (by kernel_rfl) (by kernel_rfl) (fun _ _ _ h => h) (Or.inl ⟨by rfl, ?_⟩) hHeld ?_
      rotate_left
      · intro wq hSw; go_simp; (try with_reducible rfl)
      simp only [Act.put, List.getElem_toArray, List.getElem_cons_succ, List.getElem_cons_zero, List.setIfInBounds_toArray, List.set_cons_zero, List.set_cons_succ]
      refine wpAnyH_take (i := 1) (v := ?_) rfl (by kernel_rfl) (by kernel_rfl) (by kernel_rfl) (fun _ _ _ h => h) (Or.inl ⟨by rfl, ?_⟩) hHeld ?_
      rotate_left
      · intro wq hSw; go_simp; (try with_reducible rfl)
      simp only [Act.put, List.getElem_toArray, List.getElem_cons_succ, List.getElem_cons_zero, List.setIfInBounds_toArray, List.set_cons_zero, List.set_cons_succ]
      refine wpAnyH_take (i := 2) (v := ?_) rfl (by kernel_rfl) (by kernel_rfl) (by kernel_rfl) (fun _ _ _ h => h) (Or.inl ⟨by rfl, ?_⟩) hHeld ?_
      rotate_left
      · intro wq hSw; have t0 := cell_up hSw s0; have t1 := cell_up hSw s1; have t2 := cell_up hSw s2; have t3 := cell_up hSw s3; have t4 := cell_up hSw s4; go_simp; (try with_reducible rfl)
      simp only [Act.put, List.getElem_toArray, List.getElem_cons_succ, List.getElem_cons_zero, List.setIfInBounds_toArray, List.set_cons_zero, List.set_cons_succ]
      refine wpAnyH_take (i := 3) (v := ?_) rfl (by kernel_rfl) (by kernel_rfl) (by kernel_rfl) (fun _ _ _ h => h) (Or.inl ⟨by rfl, ?_⟩) hHeld ?_
      rotate_left
      · intro wq hSw; go_simp; (try with_reducible rfl)
      simp only [Act.put, List.getElem_toArray, List.getElem_cons_succ, List.getElem_cons_zero, List.setIfInBounds_toArray, List.set_cons_zero, List.set_cons_succ]
      refine wpAnyH_take (i := 4) (v := ?_) rfl (by kernel_rfl) (by kernel_rfl) (by kernel_rfl) (fun _ _ _ h => h) (Or.inl ⟨by rfl, ?_⟩) hHeld ?_
      rotate_left
      · intro wq hSw; go_simp; (try with_reducible rfl)
      simp only [Act.put, List.getElem_toArray, List.getElem_cons_succ, List.getElem_cons_zero, List.setIfInBounds_toArray, List.set_cons_zero, List.set_cons_succ]
      refine wpAnyH_take (i := 7) (v := ?_) rfl (by kernel_rfl) (by kernel_rfl) (by kernel_rfl) (fun _ _ _ h => h) (Or.inl ⟨by rfl, ?_⟩) hHeld ?_
      rotate_left
      · intro wq hSw; go_simp; (try with_reducible rfl)
      simp only [Act.put, List.getElem_toArray, List.getElem_cons_succ, List.getElem_cons_zero, List.setIfInBounds_toArray, List.set_cons_zero, List.set_cons_succ]
      refine wpAnyH_take (i := 8) (v := ?_) rfl (by kernel_rfl) (by kernel_rfl) (by kernel_rfl) (fun _ _ _ h => h) (Or.inl ⟨by rfl, ?_⟩) hHeld ?_
      rotate_left
      · intro wq hSw; have t0 := cell_up hSw s0; have t1 := cell_up hSw s1; have t2 := cell_up hSw s2; have t3 := cell_up hSw s3; have t4 := cell_up hSw s4; go_simp; (try with_reducible rfl)
      simp only [Act.put, List.getElem_toArray, List.getElem_cons_succ, List.getElem_cons_zero, List.setIfInBounds_toArray, List.set_cons_zero, List.set_cons_succ]
      refine wpAnyH_take (i := 11) (v := ?_) rfl (by kernel_rfl) (by kernel_rfl) (by kernel_rfl) (fun _ _ _ h => h) (Or.inl ⟨by rfl, ?_⟩) hHeld ?_
      rotate_left
      · intro wq hSw; go_simp; (try with_reducible rfl)
      simp only [Act.put, List.getElem_toArray, List.getElem_cons_succ, List.getElem_cons_zero, List.setIfInBounds_toArray, List.set_cons_zero, List.set_cons_succ]
      refine wpAnyH_take (i := 12) (v := ?_) rfl (by kernel_rfl) (by kernel_rfl) (by kernel_rfl) (fun _ _ _ h => h) (Or.inl ⟨by rfl, ?_⟩) hHeld ?_
      rotate_left
      · intro wq hSw; have t0 := cell_up hSw s0; have t1 := cell_up hSw s1; have t2 := cell_up hSw s2; have t3 := cell_up hSw s3; have t4 := cell_up hSw s4; go_simp; (try with_reducible rfl)
      simp only [Act.put, List.getElem_toArray, List.getElem_cons_succ, List.getElem_cons_zero, List.setIfInBounds_toArray, List.set_cons_zero, List.set_cons_succ]
      refine wpAnyH_take (i := 13) (v := ?_) rfl (by kernel_rfl) (by kernel_rfl) (by kernel_rfl) (fun _ _ _ h => h) (Or.inl ⟨by rfl, ?_⟩) hHeld ?_
      rotate_left
      · intro wq hSw; go_simp; (try with_reducible rfl)
      simp only [Act.put, List.getElem_toArray, List.getElem_cons_succ, List.getElem_cons_zero, List.setIfInBounds_toArray, List.set_cons_zero, List.set_cons_succ]
      refine wpAnyH_take (i := 14) (v := ?_) rfl (by kernel_rfl) (by kernel_rfl) (by kernel_rfl) (fun _ _ _ h => h) (Or.inl ⟨by rfl, ?_⟩) hHeld ?_
      rotate_left
      · intro wq hSw; have t0 := cell_up hSw s0; have t1 := cell_up hSw s1; have t2 := cell_up hSw s2; have t3 := cell_up hSw s3; have t4 := cell_up hSw s4; go_simp; (try with_reducible rfl)
      simp only [Act.put, List.getElem_toArray, List.getElem_cons_succ, List.getElem_cons_zero, List.setIfInBounds_toArray, List.set_cons_zero, List.set_cons_succ]
      refine wpAnyH_take (i := 15) (v := ?_) rfl (by kernel_rfl) (by kernel_rfl) (by kernel_rfl) (fun _ _ _ h => h) (Or.inl ⟨by rfl, ?_⟩) hHeld ?_
      rotate_left
      · intro wq hSw; go_simp; (try with_reducible rfl)
      simp only [Act.put, List.getElem_toArray, List.getElem_cons_succ, List.getElem_cons_zero, List.setIfInBounds_toArray, List.set_cons_zero, List.set_cons_succ]
      refine wpAnyH_take (i := 16) (v := ?_) rfl (by kernel_rfl) (by kernel_rfl) (by kernel_rfl) (fun _ _ _ h => h) (Or.inl ⟨by rfl, ?_⟩) hHeld ?_
      rotate_left
      · intro wq hSw; have t0 := cell_up hSw s0; have t1 := cell_up hSw s1; have t2 := cell_up hSw s2; have t3 := cell_up hSw s3; have t4 := cell_up hSw s4; go_simp; (try with_reducible rfl)
      simp only [Act.put, List.getElem_toArray, List.getElem_cons_succ, List.getElem_cons_zero, List.setIfInBounds_toArray, List.set_cons_zero, List.set_cons_succ]
      refine wpAnyH_by (encR9 acc R1 VD V3 [lo, se, ne]) (fun wx wy => Below wx.heap.size wx wy) [(5, some 58), (6, some 59), (9, some 62), (10, some 63), (17, some 70), (18, some 71), (19, some 72), (20, some 4)] 0 rfl (by kernel_rfl) (by kernel_rfl) (by kernel_rfl) (by kernel_rfl) (by kernel_rfl) (by kernel_rfl) (by kernel_rfl) (encR9_up acc R1 VD V3 _) hHeld ?_ ?_
      · skip
        refine StepsI.skip (by kernel_rfl) ?_
        refine StepsI.skip (by kernel_rfl) ?_
        refine StepsI.skip (by kernel_rfl) ?_
        refine StepsI.skip (by kernel_rfl) ?_
        refine StepsI.skip (by kernel_rfl) ?_
        refine StepsI.cons (fun vals wx hS hd K hK => ?_) ?_
        · simp only [fillA, Act.put, List.setIfInBounds_toArray, List.set_cons_zero, List.set_cons_succ] at hK ⊢
          go_simp
          (with_reducible refine (HRow.out _).mono ?_)
          rintro e1 w6 ⟨rfl, hb6⟩
          exact hK.out _ _ rfl (Chain.up hS hb6) hb6
        refine StepsI.cons (fun vals wx hS hd K hK => ?_) ?_
        · simp only [fillA, Act.put, List.setIfInBounds_toArray, List.set_cons_zero, List.set_cons_succ] at hK ⊢
          have h1 : vals 5 = S R1 := hd 5 (some 58) (by decide) (by kernel_rfl)
          simp only [h1] at hK ⊢
          go_simp
          exact hK.out _ _ rfl hS (Below.refl _ _)
        refine StepsI.skip (by kernel_rfl) ?_
        refine StepsI.skip (by kernel_rfl) ?_
        refine StepsI.cons (fun vals wx hS hd K hK => ?_) ?_
        · simp only [fillA, Act.put, List.setIfInBounds_toArray, List.set_cons_zero, List.set_cons_succ] at hK ⊢
          go_simp
          (with_reducible refine (HD.out _ (Chain.up hcw hS)).mono ?_)
          rintro e1 w6 ⟨rfl, hb6⟩
          exact hK.out _ _ rfl (Chain.up hS hb6) hb6
        refine StepsI.cons (fun vals wx hS hd K hK => ?_) ?_
        · simp only [fillA, Act.put, List.setIfInBounds_toArray, List.set_cons_zero, List.set_cons_succ] at hK ⊢
          have h1 : vals 6 = S (acc ++ R1) := hd 6 (some 59) (by decide) (by kernel_rfl)
          have h2 : vals 9 = S VD := hd 9 (some 62) (by decide) (by kernel_rfl)
          simp only [h1, h2] at hK ⊢
          go_simp
          exact hK.out _ _ rfl hS (Below.refl _ _)
        refine StepsI.skip (by kernel_rfl) ?_
        refine StepsI.skip (by kernel_rfl) ?_
        refine StepsI.skip (by kernel_rfl) ?_
        refine StepsI.skip (by kernel_rfl) ?_
        refine StepsI.skip (by kernel_rfl) ?_
        refine StepsI.skip (by kernel_rfl) ?_
        refine StepsI.cons (fun vals wx hS hd K hK => ?_) ?_
        · simp only [fillA, Act.put, List.setIfInBounds_toArray, List.set_cons_zero, List.set_cons_succ] at hK ⊢
          go_simp
          exact hK.out _ _ ⟨_, _, rfl, NumsAt.of (rows_new 1 numCells numCells_len wx [lo, se, ne] _ _ rfl)⟩ (hS.alloc hS.size _) ((Below.refl _ _).alloc (Nat.le_refl _) _)
        refine StepsI.cons (fun vals wx hS hd K hK => ?_) ?_
        · simp only [fillA, Act.put, List.setIfInBounds_toArray, List.set_cons_zero, List.set_cons_succ] at hK ⊢
          obtain ⟨a1, c1, h1, p1⟩ := hd 17 (some 70) (by decide) (by kernel_rfl)
          simp only [h1] at hK ⊢
          go_simp
          (with_reducible refine (HV3.out _ _ _ p1).mono ?_)
          rintro e1 w6 ⟨rfl, hb6⟩
          exact hK.out _ _ rfl (Chain.up hS hb6) hb6
        refine StepsI.cons (fun vals wx hS hd K hK => ?_) ?_
        · simp only [fillA, Act.put, List.setIfInBounds_toArray, List.set_cons_zero, List.set_cons_succ] at hK ⊢
          have h1 : vals 10 = S (acc ++ (R1 ++ VD)) := hd 10 (some 63) (by decide) (by kernel_rfl)
          have h2 : vals 18 = S V3 := hd 18 (some 71) (by decide) (by kernel_rfl)
          simp only [h1, h2] at hK ⊢
          go_simp
          exact hK.out _ _ rfl hS (Below.refl _ _)
        refine StepsI.cons (fun vals wx hS hd K hK => ?_) ?_
        · simp only [fillA, Act.put, List.setIfInBounds_toArray, List.set_cons_zero, List.set_cons_succ] at hK ⊢
          have h1 : vals 19 = S (acc ++ (R1 ++ (VD ++ V3))) := hd 19 (some 72) (by decide) (by kernel_rfl)
          simp only [h1] at hK ⊢
          go_simp
          exact hK.out _ _ rfl hS (Below.refl _ _)
        exact StepsI.nil
      · intro vals wx hS hR
        have hv4 : vals 20 = S (acc ++ (R1 ++ (VD ++ V3))) := hR (20, some 4) (by decide)
        refine wpAnyH_done (by kernel_rfl) ?_ _
        simp only [fillA, Act.put, List.setIfInBounds_toArray, List.set_cons_zero, List.set_cons_succ, hv4]
        clear hR
        generalize vals 5 = v5
        generalize vals 6 = v6
        generalize vals 9 = v9
        generalize vals 10 = v10
        generalize vals 17 = v17
        generalize vals 18 = v18
        generalize vals 19 = v19
      -- END REGION 9
        have hbig : ((acc ++ R1 ++ VD ++ V3).length : Int) ≤ 524288 := by rw [List.length_append, List.length_append, List.length_append]; omega
        have hbig2 : (acc.length : Int) + R1.length + VD.length + V3.length ≤ 524288 := by omega
        go_wp2_with fail
        go_ret2
        exact ⟨by rw [Hres.out]; simp, Chain.up hcw hS⟩
theorem refEncE_any (e : P.Ed) (a b : Option Addr) (c d : Nat) (w : World) (hl : e.add.length ≤ 60) (hk : e.drop.length ≤ 60) (hp : EdAt w a b e) (hty : P.tyE e) (hsm : P.mayB e = true → (P.encE e).length ≤ 524288) :
    Calls Try.prog 20 #[edV a e.add.length c b e.drop.length d e.log e.seq e.next] w fun e' w' => e' = .returned (.tuple #[S (P.resE e).1, .int .i64 ((P.resE e).2 : Nat)]) ∧ Below w.heap.size w w' := by
  cases hm : P.mayB e with
  | true =>
    rw [show P.resE e = (P.encE e, 0) by unfold P.resE; rw [if_pos hm, if_pos (hsm hm)]]
    exact refEncE_ok e a b c d w hl hk hp hty hm
  | false =>
    rw [show P.resE e = ([], 1) by unfold P.resE; rw [hm]; simp]
    exact refEncE_no e a b c d w (by omega) (by omega) hp hm
end Go.Proofs.Ythpgigjplknomaa
