/- The walk of the document's crash (its bytes; script). -/
import Derived.Test.YtnflbgindcejjaaDoorWSRefP
import Derived.Test.YtnflbgindcejjaaDoorWRow
import Derived.Test.YtnflbgindcejjaaDoorWBigP
import Derived.Test.YtnflbgindcejjaaDoorWSPut
import Derived.Test.YtnflbgindcejjaaDoorWInv
namespace Go.Proofs.YtnflbgindcejjaaDoor
open Go.RowKit
set_option linter.unusedVariables false
set_option linter.unusedSimpArgs false

theorem refBig_4 (n : Nat) (hn : n < 4294967296) (w : World) :
    Calls Tryd.prog 42 #[V64 n, .int .i64 4] w fun e w' => e = .returned (.tuple #[S (P.be 4 n), .int .i64 0]) ∧ Below w.heap.size w w' := by
  have h := refBig_any n 4 w (by omega) (by omega) (by omega)
  have he : P.bigE n 4 = 0 := by unfold P.bigE; rw [if_pos (by omega)]; exact if_pos (P.dig_le4 n hn)
  rw [show P.bigS n 4 = P.be 4 n by unfold P.bigS; rw [if_pos he]; rfl, he] at h
  exact h
/-- What region 1's slots hold. -/
def crR (R0 : List UInt8) (c0 : UInt8) (i : Nat) (v : Value) (w : World) : Prop := match i with
  | 3 => v = S R0
  | 8 => ∃ g, v = .slice (some ⟨g, 0, none⟩) 1 1 ∧ Blk w g 5 [c0]
  | 9 => v = S [c0]
  | 10 => v = S (R0 ++ [c0])
  | 11 => v = S (R0 ++ [c0])
  | _ => True
theorem crR_up (R0 : List UInt8) (c0 : UInt8) (i : Nat) (v : Value) (w w' : World) (h : crR R0 c0 i v w) (hb : Below w.heap.size w w') : crR R0 c0 i v w' := by
  unfold crR at h ⊢
  split at h
  · exact h
  · obtain ⟨g, rfl, h⟩ := h; exact ⟨g, rfl, h.up hb⟩
  · exact h
  · exact h
  · exact h
  · trivial
theorem Blk.str1 {w : World} {g : Nat} {c : UInt8} (h : Blk w g 5 [c]) : (convert 30 9 (.slice (some ⟨g, 0, none⟩) 1 1)).run Tryd.prog w = .ok (S [c]) w := by
  have := h.string (P := Tryd.prog) 30 9 5 Tryd.underlying30 Tryd.underlying5 Tryd.underlying9 0 1 1 (by simp)
  simpa using this
attribute [local go_sem] str_app

set_option maxRecDepth 100000 in
set_option maxHeartbeats 16000000 in
theorem refCrash_any (c : P.Cr) (a b : Option Addr) (k kc m mc : Nat) (hk : k = c.keep.length) (hm : m = c.spoil.length) (hc : P.crB c = true) (hms : ∀ x ∈ c.spoil, x.2 < 4294967296) (w : World) (hp : CrAt w a b c) :
    Calls Tryd.prog 24 #[crV c.names a k kc b m mc] w fun e w' => e = .returned (S (P.crashB c)) ∧ Below w.heap.size w w' := by
  have HI := Lib.hid (fun wx (hx : Below w.heap.size w wx) => RowsAt.up hp.1 hx)
  have HS := Lib.hid (fun wx (hx : Below w.heap.size w wx) => RowsAt.up hp.2 hx)
  obtain ⟨names, keep, spoil⟩ := c
  simp only at hk hm hms HI HS ⊢
  unfold P.crB at hc
  simp only [Bool.and_eq_true, decide_eq_true_eq] at hc
  obtain ⟨⟨⟨⟨c1, c2⟩, c3⟩, c4⟩, c5⟩ := hc
  have c1' := P.smallB_yes c1
  obtain ⟨nm, rfl⟩ : ∃ nm : Nat, names = (nm : Int) := ⟨names.toNat, by omega⟩
  have C4 := Lib.hid c4
  have C5 := Lib.hid c5
  have T3 := Lib.hid hms
  have Hk := Lib.hid hk
  have Hm := Lib.hid hm
  have hk255 : k ≤ 255 := by omega
  have hm255 : m ≤ 255 := by omega
  have Hact := Lib.hid (show P.crashB ⟨(nm : Int), keep, spoil⟩ = P.row nm ++ [P.byt k] ++ P.keepB keep ++ [P.byt m] ++ P.spoilB spoil by rw [hk, hm]; unfold P.crashB; simp)
  have hx := Bx.fresh w 29 #[.int .i64 nm, .slice a k kc, .slice b m mc]
  have hb : Below w.heap.size w (w.alloc (.cells #[.int .i64 nm, .slice a k kc, .slice b m mc] 29)) := (Below.refl _ _).alloc (Nat.le_refl _) _
  clear hp c1 c2 c3 c4 c5 hms hk hm
  have hn64 : IntKind.u64.wrap (nm : Int) = (nm : Int) := u64_in (by omega)
  have hk8 : IntKind.u8.wrap (k : Int) = (k : Int) := u8_in' (by omega)
  have hm8 : IntKind.u8.wrap (m : Int) = (m : Int) := u8_in' (by omega)
  have HR := Lib.hid (fun wx => row_any nm (by omega) wx)
  have hrl := P.row_len9 nm
  clear c1'
  generalize P.row nm = R0 at *
  obtain ⟨q0, q1, q2, _, _, _⟩ := hx.three
  have hadd1 : ¬ 9223372036854775807 < R0.length + 1 := by omega
  have hadd2 : ¬ 9223372036854775807 < R0.length + [P.byt k].length := by simp; omega
  go_enter Tryd.func24, Tryd.ntmps24
  go_wp2_with fail
  refine wp_region_held_drew (S := fun wx => Below (w.alloc (.cells #[.int .i64 nm, .slice a k kc, .slice b m mc] 29)).heap.size (w.alloc (.cells #[.int .i64 nm, .slice a k kc, .slice b m mc] 29)) wx) (by kernel_rfl) (Below.refl _ _).drew (fun hHeld => ?_)
  refine wpAnyH_take (i := 0) (v := ?_) rfl (by kernel_rfl) (by kernel_rfl) (by kernel_rfl) (fun _ _ _ h => h) (Or.inl ⟨by rfl, ?_⟩) hHeld ?_
  rotate_left
  · intro wq hSw; go_simp; (try with_reducible rfl)
  simp only [Act.put, List.getElem_toArray, List.getElem_cons_succ, List.getElem_cons_zero, List.setIfInBounds_toArray, List.set_cons_zero, List.set_cons_succ]
  refine wpAnyH_take (i := 1) (v := ?_) rfl (by kernel_rfl) (by kernel_rfl) (by kernel_rfl) (fun _ _ _ h => h) (Or.inl ⟨by rfl, ?_⟩) hHeld ?_
  rotate_left
  · intro wq hSw; have t0 := cell_up hSw q0; have t1 := cell_up hSw q1; have t2 := cell_up hSw q2; go_simp; (try with_reducible rfl)
  simp only [Act.put, List.getElem_toArray, List.getElem_cons_succ, List.getElem_cons_zero, List.setIfInBounds_toArray, List.set_cons_zero, List.set_cons_succ]
  refine wpAnyH_take (i := 2) (v := ?_) rfl (by kernel_rfl) (by kernel_rfl) (by kernel_rfl) (fun _ _ _ h => h) (Or.inl ⟨by rfl, ?_⟩) hHeld ?_
  rotate_left
  · intro wq hSw; go_simp; (try with_reducible rfl)
  simp only [Act.put, List.getElem_toArray, List.getElem_cons_succ, List.getElem_cons_zero, List.setIfInBounds_toArray, List.set_cons_zero, List.set_cons_succ]
  refine wpAnyH_take (i := 4) (v := ?_) rfl (by kernel_rfl) (by kernel_rfl) (by kernel_rfl) (fun _ _ _ h => h) (Or.inl ⟨by rfl, ?_⟩) hHeld ?_
  rotate_left
  · intro wq hSw; go_simp; (try with_reducible rfl)
  simp only [Act.put, List.getElem_toArray, List.getElem_cons_succ, List.getElem_cons_zero, List.setIfInBounds_toArray, List.set_cons_zero, List.set_cons_succ]
  refine wpAnyH_take (i := 5) (v := ?_) rfl (by kernel_rfl) (by kernel_rfl) (by kernel_rfl) (fun _ _ _ h => h) (Or.inl ⟨by rfl, ?_⟩) hHeld ?_
  rotate_left
  · intro wq hSw; have t0 := cell_up hSw q0; have t1 := cell_up hSw q1; have t2 := cell_up hSw q2; go_simp; (try with_reducible rfl)
  simp only [Act.put, List.getElem_toArray, List.getElem_cons_succ, List.getElem_cons_zero, List.setIfInBounds_toArray, List.set_cons_zero, List.set_cons_succ]
  refine wpAnyH_take (i := 6) (v := ?_) rfl (by kernel_rfl) (by kernel_rfl) (by kernel_rfl) (fun _ _ _ h => h) (Or.inl ⟨by rfl, ?_⟩) hHeld ?_
  rotate_left
  · intro wq hSw; go_simp; (try with_reducible rfl)
  simp only [Act.put, List.getElem_toArray, List.getElem_cons_succ, List.getElem_cons_zero, List.setIfInBounds_toArray, List.set_cons_zero, List.set_cons_succ]
  refine wpAnyH_take (i := 7) (v := ?_) rfl (by kernel_rfl) (by kernel_rfl) (by kernel_rfl) (fun _ _ _ h => h) (Or.inl ⟨by rfl, ?_⟩) hHeld ?_
  rotate_left
  · intro wq hSw; go_simp; (try with_reducible rfl)
  simp only [Act.put, List.getElem_toArray, List.getElem_cons_succ, List.getElem_cons_zero, List.setIfInBounds_toArray, List.set_cons_zero, List.set_cons_succ]
  refine wpAnyH_by (crR R0 (P.byt k)) (fun wx wy => Below wx.heap.size wx wy) [(3, some 11), (8, some 16), (9, some 17), (10, some 18), (11, some 3)] 0 rfl (by kernel_rfl) (by kernel_rfl) (by kernel_rfl) (by kernel_rfl) (by kernel_rfl) (by kernel_rfl) (by kernel_rfl) (crR_up R0 (P.byt k)) hHeld ?_ ?_
  · skip
    refine StepsI.skip (by kernel_rfl) ?_
    refine StepsI.skip (by kernel_rfl) ?_
    refine StepsI.skip (by kernel_rfl) ?_
    refine StepsI.cons (fun vals wx hS hd K hK => ?_) ?_
    · simp only [fillA, Act.put, List.setIfInBounds_toArray, List.set_cons_zero, List.set_cons_succ] at hK ⊢
      go_simp
      (with_reducible refine (HR.out _).mono ?_)
      rintro e1 w6 ⟨rfl, hb6⟩
      exact hK.out _ _ rfl (Chain.up hS hb6) hb6
    refine StepsI.skip (by kernel_rfl) ?_
    refine StepsI.skip (by kernel_rfl) ?_
    refine StepsI.skip (by kernel_rfl) ?_
    refine StepsI.skip (by kernel_rfl) ?_
    refine StepsI.cons (fun vals wx hS hd K hK => ?_) ?_
    · simp only [fillA, Act.put, List.setIfInBounds_toArray, List.set_cons_zero, List.set_cons_succ] at hK ⊢
      go_simp
      exact hK.out _ _ ⟨_, rfl, blk_lit rfl (one_byte _ _ (byt_small k (by omega)))⟩ (hS.alloc hS.size _) ((Below.refl _ _).alloc (Nat.le_refl _) _)
    refine StepsI.cons (fun vals wx hS hd K hK => ?_) ?_
    · simp only [fillA, Act.put, List.setIfInBounds_toArray, List.set_cons_zero, List.set_cons_succ] at hK ⊢
      obtain ⟨g1, h1, p1⟩ := hd 8 (some 16) (by decide) (by kernel_rfl)
      have hr1 := p1.str1
      simp only [h1] at hK ⊢
      go_simp
      exact hK.out _ _ rfl hS (Below.refl _ _)
    refine StepsI.cons (fun vals wx hS hd K hK => ?_) ?_
    · simp only [fillA, Act.put, List.setIfInBounds_toArray, List.set_cons_zero, List.set_cons_succ] at hK ⊢
      have h1 : vals 3 = S R0 := hd 3 (some 11) (by decide) (by kernel_rfl)
      have h2 : vals 9 = S [P.byt k] := hd 9 (some 17) (by decide) (by kernel_rfl)
      simp only [h1, h2] at hK ⊢
      go_simp
      exact hK.out _ _ rfl hS (Below.refl _ _)
    refine StepsI.cons (fun vals wx hS hd K hK => ?_) ?_
    · simp only [fillA, Act.put, List.setIfInBounds_toArray, List.set_cons_zero, List.set_cons_succ] at hK ⊢
      have h1 : vals 10 = S (R0 ++ [P.byt k]) := hd 10 (some 18) (by decide) (by kernel_rfl)
      simp only [h1] at hK ⊢
      go_simp
      exact hK.out _ _ rfl hS (Below.refl _ _)
    exact StepsI.nil
  intro vals wx hS hR
  have hv : vals 11 = S (R0 ++ [P.byt k]) := hR (11, some 3) (by decide)
  refine wpAnyH_done (by kernel_rfl) ?_ _
  simp only [fillA, Act.put, List.setIfInBounds_toArray, List.set_cons_zero, List.set_cons_succ, hv]
  clear hR
  generalize vals 3 = v3
  generalize vals 8 = v8
  generalize vals 9 = v9
  generalize vals 10 = v10
  have hx1 := hx.up hS
  have hb1 := Chain.up hb hS
  have Hpl := Lib.hid (show (R0 ++ [P.byt k]).length ≤ 10 by simp; omega)
  have Hpre := Lib.hid (show P.crashB ⟨(nm : Int), keep, spoil⟩ = (R0 ++ [P.byt k]) ++ P.keepB keep ++ [P.byt m] ++ P.spoilB spoil from Hact.out)
  clear Hact hx hb hHeld hS q0 q1 q2 hadd1 hadd2 HR
  generalize hpre : R0 ++ [P.byt k] = pre at *
  clear hpre hrl hv
  go_wp2_with fail
  go_loopw [4, 3] (fun z u wr => ∃ j : Nat, j ≤ k ∧ z = .int .i64 j ∧ u = S (pre ++ P.keepB (keep.take j)) ∧ Bx wr w.heap.size 29 #[.int .i64 nm, .slice a k kc, .slice b m mc] ∧ Below w.heap.size w wr) (fun z _ _ => k - (intOf z).toNat)
  case atStart => exact ⟨0, by omega, rfl, by simp [P.keepB], hx1, hb1⟩
  case round =>
    clear hx1 hb1
    obtain ⟨j, hj, rfl, rfl, hx9, hw9⟩ := hrel
    have hlk : (P.keepB (keep.take j)).length ≤ 2300 := by have := P.keepB_le (keep.take j); rw [List.length_take] at this; omega
    have hlp := Hpl.out
    obtain ⟨q0, q1, q2, _, _, _⟩ := hx9.three
    by_cases hlt : j < k
    · have hltl : j < keep.length := by have := Hk.out; omega
      obtain ⟨bb, o, rfl, hbb, c0⟩ := int_at (HI.out _ hw9) j hltl
      have Hnx := Lib.hid (show P.keepB (keep.take (j + 1)) = P.keepB (keep.take j) ++ P.row keep[j].toNat by rw [List.take_succ_eq_append_getElem hltl, P.keepB_snoc])
      have hsm := P.smallB_yes (List.all_eq_true.1 C4.out _ (List.getElem_mem hltl))
      generalize keep[j] = v at *
      obtain ⟨x, rfl⟩ : ∃ x : Nat, v = (x : Int) := ⟨v.toNat, by omega⟩
      have hx64 : IntKind.u64.wrap (x : Int) = (x : Int) := u64_in (by omega)
      have hrx := P.row_len9 x
      have HR := Lib.hid (fun wx => row_any x (by omega) wx)
      rw [Int.toNat_natCast] at Hnx
      generalize P.keepB (keep.take j) = kb at *
      generalize P.row x = rx at *
      have hacc : (pre ++ kb).length ≤ 2310 := by rw [List.length_append]; omega
      have Hnx2 := Lib.hid (show pre ++ P.keepB (keep.take (j + 1)) = (pre ++ kb) ++ rx by rw [Hnx.out, List.append_assoc])
      clear Hnx
      generalize pre ++ kb = acc at *
      go_wp2_with (go_at_call 41; (with_reducible refine (HR.out _).mono ?_); rintro e w10 ⟨rfl, hb10⟩; have hx10 := hx9.up hb10; have hw10 := Chain.up hw9 hb10)
      go_roundw
      case rel => exact ⟨j + 1, by omega, by go_num, by rw [Hnx2.out], hx10, hw10⟩
      case measure => simp [intOf]; omega
    · obtain rfl : j = k := by omega
      rw [List.take_of_length_le (by have := Hk.out; omega)] at hlk
      have Htk := Lib.hid (show keep.take j = keep from List.take_of_length_le (by have := Hk.out; omega))
      rw [Htk.out]
      have hacc : (pre ++ P.keepB keep).length ≤ 2310 := by rw [List.length_append]; omega
      generalize P.keepB keep = kb at *
      generalize hac : pre ++ kb = acc at *
      have Hac := Lib.hid hac
      clear hac
      go_wp2_with (refine wpList_conv_str 5 5 wr.heap.size 0 1 1 [P.byt m] [P.byt m] (by rfl) Tryd.underlying30 Tryd.underlying5 Tryd.underlying9 (blk_lit rfl (one_byte _ _ (byt_small m (by omega)))) (by simp) (by rfl) ?_)
      have hxj := hx9.up ((Below.refl wr.heap.size wr).alloc (Nat.le_refl _) (.cells #[.int .u8 m] 5))
      have hwj : Below w.heap.size w (wr.alloc (.cells #[.int .u8 m] 5)) := hw9.alloc hw9.size _
      have Hpre2 := Lib.hid (show P.crashB ⟨(nm : Int), keep, spoil⟩ = (acc ++ [P.byt m]) ++ P.spoilB spoil from Hpre.out)
      have Hpl2 := Lib.hid (show (acc ++ [P.byt m]).length ≤ 2311 by rw [List.length_append]; simp; omega)
      clear Hac
      generalize acc ++ [P.byt m] = pre2 at *
      clear hx9 hw9 hlk hlp hacc
      go_loopw [5, 3] (fun z u wx => ∃ i : Nat, i ≤ m ∧ z = .int .i64 i ∧ u = S (pre2 ++ P.spoilB (spoil.take i)) ∧ Bx wx w.heap.size 29 #[.int .i64 nm, .slice a j kc, .slice b m mc] ∧ Below w.heap.size w wx) (fun z _ _ => m - (intOf z).toNat)
      case atStart => exact ⟨0, by omega, rfl, by simp [P.spoilB], hxj, hwj⟩
      case round =>
        clear hxj hwj q0 q1 q2
        obtain ⟨i, hi, rfl, rfl, hx9, hw9⟩ := hrel
        have hlk : (P.spoilB (spoil.take i)).length ≤ 3400 := by have := P.spoilB_le (spoil.take i); rw [List.length_take] at this; omega
        have hlp := Hpl2.out
        obtain ⟨q0, q1, q2, _, _, _⟩ := hx9.three
        by_cases hlt : i < m
        · have hltl : i < spoil.length := by have := Hm.out; omega
          obtain ⟨bb, o, rfl, hbb, c0, c1⟩ := spot_at (HS.out _ hw9) i hltl
          have Hnx := Lib.hid (show P.spoilB (spoil.take (i + 1)) = P.spoilB (spoil.take i) ++ (P.row spoil[i].1.toNat ++ P.be 4 spoil[i].2) by rw [List.take_succ_eq_append_getElem hltl, P.spoilB_snoc])
          have hsm := P.smallB_yes (List.all_eq_true.1 C5.out _ (List.getElem_mem hltl))
          have hmk : spoil[i].2 < 4294967296 := T3.out _ (List.getElem_mem hltl)
          generalize spoil[i] = v at *
          obtain ⟨v, mk⟩ := v
          simp only at c0 c1 Hnx hsm hmk
          obtain ⟨x, rfl⟩ : ∃ x : Nat, v = (x : Int) := ⟨v.toNat, by omega⟩
          have hx64 : IntKind.u64.wrap (x : Int) = (x : Int) := u64_in (by omega)
          have hm64 : IntKind.u64.wrap (mk : Int) = (mk : Int) := u64_in (by omega)
          have hrx := P.row_len9 x
          have hb4 := P.be_length 4 mk
          have HR := Lib.hid (fun wx => row_any x (by omega) wx)
          have HB := Lib.hid (fun wx => refBig_4 mk hmk wx)
          rw [Int.toNat_natCast] at Hnx
          generalize P.spoilB (spoil.take i) = kb at *
          generalize P.row x = rx at *
          generalize P.be 4 mk = mb at *
          have hacc : (pre2 ++ kb).length ≤ 6000 := by rw [List.length_append]; omega
          have Hnx2 := Lib.hid (show pre2 ++ P.spoilB (spoil.take (i + 1)) = (pre2 ++ kb) ++ rx ++ mb by rw [Hnx.out]; simp [List.append_assoc])
          clear Hnx
          generalize pre2 ++ kb = acc2 at *
          have hacc3 : (acc2 ++ rx).length ≤ 6009 := by rw [List.length_append]; omega
          go_wp2_with (first
            | (go_at_call 42; (with_reducible refine (HB.out _).mono ?_); rintro e w10 ⟨rfl, hb10⟩; have hx10 := hx9.up hb10; have hw10 := Chain.up hw9 hb10; obtain ⟨_, _, _, _, _, _⟩ := hx10.three; have c0' := cell_up hb10 c0)
            | (go_at_call 41; (with_reducible refine (HR.out _).mono ?_); rintro e w11 ⟨rfl, hb11⟩; have hx11 := hx10.up hb11; have hw11 := Chain.up hw10 hb11))
          go_roundw
          case rel => exact ⟨i + 1, by omega, by go_num, by rw [Hnx2.out, List.append_assoc], hx11, hw11⟩
          case measure => simp [intOf]; omega
        · obtain rfl : i = m := by omega
          have Htk := Lib.hid (show spoil.take i = spoil from List.take_of_length_le (by have := Hm.out; omega))
          rw [Htk.out]
          go_wp2_with fail
          go_ret
          exact ⟨by rw [Hpre2.out]; rfl, hw9⟩
end Go.Proofs.YtnflbgindcejjaaDoor
