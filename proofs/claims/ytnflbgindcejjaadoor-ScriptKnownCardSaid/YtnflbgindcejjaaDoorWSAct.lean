/- The walk of the script's reader: act. -/
import Derived.Test.YtnflbgindcejjaaDoorWSActs
import Derived.Test.YtnflbgindcejjaaDoorWText
namespace Go.Proofs.YtnflbgindcejjaaDoor
open Go.RowKit
set_option linter.unusedVariables false
set_option linter.unusedSimpArgs false

theorem number_ex (g : Nat) (q : P.Qs) (w : World) (hs : q.1.length ≤ 1000000000) (hx : RdX w g q) :
    Calls Tryd.prog 38 #[.pointer (some ⟨g, 0, none⟩)] w fun e w' => ∃ (n : Nat) (q' : P.Qs), Hid (P.qN q = (n, q')) ∧ e = .returned (V64 n) ∧ RdX w' g q' ∧ But g w w' ∧ q'.1.length ≤ q.1.length :=
  (number_any g q w hs hx).mono fun _ _ ⟨h1, h2, h3⟩ => ⟨_, _, Lib.hid rfl, h1, h2, h3, P.qN_le q⟩
theorem P.tSize_le (s : List UInt8) (k : Int) : P.tSize s k ≤ s.length := by
  unfold P.tSize P.tOk
  split
  · rename_i h
    simp at h
    omega
  · omega
theorem P.qT_part (s : List UInt8) (ok : Bool) (h : P.tOk s 65536 = ok) : P.qT (s, false) = (P.tText s 65536, (P.qP (P.tSize s 65536) (s, !ok)).2) := by
  have hl := P.tSize_le s 65536
  cases ok with
  | true => simp [P.qT, P.qP, h, hl]
  | false => simp [P.qT, P.qP, h]
theorem P.usesN_no {k : Nat} (h : ¬ (1 ≤ k ∧ k ≤ 7)) : P.usesN k = -1 := by
  unfold P.usesN
  rw [if_neg (by omega), if_neg (by omega), if_neg (by omega), if_neg (by omega), if_neg (by omega), if_neg (by omega)]
theorem u8_in {n : Nat} (h : n < 256) : IntKind.u8.wrap (n : Int) = (n : Int) := by
  rw [IntKind.wrap_u8]
  omega


set_option maxRecDepth 100000 in
set_option maxHeartbeats 8000000 in
theorem act_1 (g : Nat) (q : P.Qs) (w : World) (hs : q.1.length ≤ 1000000000) (hx : RdX w g q) (s1 : List UInt8) (hq : P.qC q = (1, (s1, false))) :
    Calls Tryd.prog 21 #[.pointer (some ⟨g, 0, none⟩)] w (ActDid g q w) := by
  have hg := hx.lt
  have hl1 : s1.length ≤ q.1.length := by have := P.qC_le q; rw [hq] at this; exact this
  have HB := Lib.hid (fun wx (h : RdX wx g q) => show Calls Tryd.prog 35 #[.pointer (some ⟨g, 0, none⟩)] wx fun e w' => e = .returned (.int .i64 1) ∧ RdX w' g (s1, false) ∧ But g wx w' from by have := byte_any g q wx hs h; rw [hq] at this; exact this)
  have HU := Lib.hid (show ∀ wx, Calls Tryd.prog 22 #[.int .u8 1] wx fun e w' => e = .returned (.int .i64 1) ∧ Below wx.heap.size wx w' from fun wx => uses_any 1 wx)
  have hx0 := hx.up ((Below.refl w.heap.size w).alloc (Nat.le_refl _) (.cells #[.int .u8 0, .int .u64 0, S [], .slice none 0 0, .int .i64 0, .slice none 0 0, .slice none 0 0] 32))
  have ha0 := Bx.fresh w 32 #[.int .u8 0, .int .u64 0, S [], .slice none 0 0, .int .i64 0, .slice none 0 0, .slice none 0 0]
  have hb0 : But g w (w.alloc (.cells #[.int .u8 0, .int .u64 0, S [], .slice none 0 0, .int .i64 0, .slice none 0 0, .slice none 0 0] 32)) := (But.refl g w).alloc _
  have Hne := Lib.hid (show w.heap.size ≠ g by omega)
  have Hgt := Lib.hid (show g ≠ w.heap.size by omega)
  clear hx
  go_enter Tryd.func21, Tryd.ntmps21
  have Htx := Lib.hid (fun wx => readText_any s1 65536 wx (by omega) (by omega) (by omega))
  have Hsz := Lib.hid (P.tSize_le s1 65536)
  cases hok : P.tOk s1 65536 with
  | true =>
  have HT := Lib.hid (P.qT_part s1 true hok)
  rw [hok] at Htx
  clear hok
  generalize P.tText s1 65536 = tx at *
  generalize P.tSize s1 65536 = ts at *
  go_wp2_with (first
    | (go_at_call 35; (with_reducible refine (HB.out _ hx0).mono ?_); rintro e w1 ⟨rfl, hx1, hd1⟩; have ha1 := ha0.but hd1 Hne.out; have hB1 := hb0.trans hd1; have f10 := ha1.frozen 0; have a10 := ha1.cell 0; have hx1b := hx1.other Hne.out 0 (.int .u8 1); have ha1b := ha1.set 0 (.int .u8 1); have hB1b := hB1.setNew (p := ⟨w.heap.size, 0, none⟩) (Nat.le_refl _) (.int .u8 1))
    | (go_at_call 22; (with_reducible refine (HU.out _).mono ?_); rintro e w2 ⟨rfl, hb2⟩; have ha2 : Bx w2 w.heap.size 32 #[.int .u8 1, .int .u64 0, S [], .slice none 0 0, .int .i64 0, .slice none 0 0, .slice none 0 0] := ha1b.up hb2; have hx2 := hx1b.up hb2; obtain ⟨x20, x21, fx20, fx21⟩ := hx2.two; have hx3 : RdX (w2.setCell ⟨g, 1, none⟩ (.bool false)) g (s1, false) := hx2.set 1 (.bool false); have ha3 : Bx (w2.setCell ⟨g, 1, none⟩ (.bool false)) w.heap.size 32 #[.int .u8 1, .int .u64 0, S [], .slice none 0 0, .int .i64 0, .slice none 0 0, .slice none 0 0] := ha2.other Hgt.out 1 (.bool false); have hB3 := (hB1b.trans (But.of hb2)).set 1 (.bool false); obtain ⟨⟨_, _, _, _, _, _, _⟩, _, _, _, _, _, _, _⟩ := ha3.sevenF; have x30 := hx3.cell 0; have x31 := hx3.cell 1; have fx30 := hx3.frozen 0; have fx31 := hx3.frozen 1)
    | (go_at_call 36; (with_reducible refine (Htx.out _).mono ?_); rintro e w4 ⟨rfl, hb4⟩; have ha4 := ha3.up hb4; have hx4 := hx3.up hb4; obtain ⟨x40, x41, fx40, fx41⟩ := hx4.two; have hB4 := hB3.trans (But.of hb4); have hx4b : RdX (w4.setCell ⟨g, 1, none⟩ (.bool false)) g (s1, false) := hx4.set 1 (.bool false); have ha4b := ha4.other Hgt.out 1 (.bool false); have hB4b := hB4.set 1 (.bool false))
    | (go_at_call 37; (with_reducible refine (part_ex g (s1, false) ts (ts : Int) rfl _ (by simp only; omega) (by have := Hsz.out; omega) hx4b).mono ?_); rintro e w5 ⟨t5, q5, Hq5, rfl, hx5, hd5, hl5, _⟩; have ha5 := ha4b.but hd5 Hne.out; have hB5 := hB4b.trans hd5; obtain ⟨⟨_, _, _, _, _, _, _⟩, _, _, _, _, _, _, _⟩ := ha5.sevenF))
  have ha9 := ha5.set 2 (S tx)
  have hQ := Lib.hid (show P.qAct q = ((⟨⟨1, 0, tx, [], P.noCr⟩, none, 0, none, 0, none, 0⟩ : AcR).x, q5) by have h1 := HT.out; (rw [show (!true) = false from rfl, Hq5.out] at h1); unfold P.qAct; rw [hq]; simp [h1])
  have hown : AcOwn (w5.setCell ⟨w.heap.size, 2, none⟩ (S tx)) (w.heap.size + 1) ⟨⟨1, 0, tx, [], P.noCr⟩, none, 0, none, 0, none, 0⟩ := ⟨Dr.nil _ _, ownR_nil _ _, ownR_nil _ _⟩
  have fA := ha9.set7 (.int .u8 1) (.int .u64 0) (S tx) (.slice none 0 0) (.int .i64 0) (.slice none 0 0) (.slice none 0 0)
  have fO := (hown).other7 (Nat.lt_succ_self w.heap.size) (.int .u8 1) (.int .u64 0) (S tx) (.slice none 0 0) (.int .i64 0) (.slice none 0 0) (.slice none 0 0)
  have fX := (hx5.other Hne.out 2 (S tx)).other7 Hne.out (.int .u8 1) (.int .u64 0) (S tx) (.slice none 0 0) (.int .i64 0) (.slice none 0 0) (.slice none 0 0)
  have fB := (hB5.setNew (p := ⟨w.heap.size, 2, none⟩) (Nat.le_refl _) (S tx)).new7 (q := w.heap.size) (Nat.le_refl _) (.int .u8 1) (.int .u64 0) (S tx) (.slice none 0 0) (.int .i64 0) (.slice none 0 0) (.slice none 0 0)
  generalize ((((((((w5.setCell ⟨w.heap.size, 2, none⟩ (S tx)).setCell ⟨w.heap.size, 0, none⟩ (.int .u8 1)).setCell ⟨w.heap.size, 1, none⟩ (.int .u64 0)).setCell ⟨w.heap.size, 2, none⟩ (S tx)).setCell ⟨w.heap.size, 3, none⟩ (.slice none 0 0)).setCell ⟨w.heap.size, 4, none⟩ (.int .i64 0)).setCell ⟨w.heap.size, 5, none⟩ (.slice none 0 0)).setCell ⟨w.heap.size, 6, none⟩ (.slice none 0 0)) = w9 at fA fO fX fB ⊢
  have q0 := fA.cell 0
  have q1 := fA.cell 1
  have q2 := fA.cell 2
  have q3 := fA.cell 3
  have q4 := fA.cell 4
  have q5 := fA.cell 5
  have q6 := fA.cell 6
  exact bodyPost_ret (v := .agg #[(.int .u8 1), (.int .u64 0), (S tx), (.slice none 0 0), (.int .i64 0), (.slice none 0 0), (.slice none 0 0)]) (by simp [results, Tryd.results21, go_sem, q0, q1, q2, q3, q4, q5, q6]) rfl ⟨_, _, hQ, rfl, fO.low (Nat.le_succ _), fX, fB, Nat.le_trans hl5 hl1⟩
  | false =>
  have HT := Lib.hid (P.qT_part s1 false hok)
  rw [hok] at Htx
  clear hok
  generalize P.tText s1 65536 = tx at *
  generalize P.tSize s1 65536 = ts at *
  go_wp2_with (first
    | (go_at_call 35; (with_reducible refine (HB.out _ hx0).mono ?_); rintro e w1 ⟨rfl, hx1, hd1⟩; have ha1 := ha0.but hd1 Hne.out; have hB1 := hb0.trans hd1; have f10 := ha1.frozen 0; have a10 := ha1.cell 0; have hx1b := hx1.other Hne.out 0 (.int .u8 1); have ha1b := ha1.set 0 (.int .u8 1); have hB1b := hB1.setNew (p := ⟨w.heap.size, 0, none⟩) (Nat.le_refl _) (.int .u8 1))
    | (go_at_call 22; (with_reducible refine (HU.out _).mono ?_); rintro e w2 ⟨rfl, hb2⟩; have ha2 : Bx w2 w.heap.size 32 #[.int .u8 1, .int .u64 0, S [], .slice none 0 0, .int .i64 0, .slice none 0 0, .slice none 0 0] := ha1b.up hb2; have hx2 := hx1b.up hb2; obtain ⟨x20, x21, fx20, fx21⟩ := hx2.two; have hx3 : RdX (w2.setCell ⟨g, 1, none⟩ (.bool false)) g (s1, false) := hx2.set 1 (.bool false); have ha3 : Bx (w2.setCell ⟨g, 1, none⟩ (.bool false)) w.heap.size 32 #[.int .u8 1, .int .u64 0, S [], .slice none 0 0, .int .i64 0, .slice none 0 0, .slice none 0 0] := ha2.other Hgt.out 1 (.bool false); have hB3 := (hB1b.trans (But.of hb2)).set 1 (.bool false); obtain ⟨⟨_, _, _, _, _, _, _⟩, _, _, _, _, _, _, _⟩ := ha3.sevenF; have x30 := hx3.cell 0; have x31 := hx3.cell 1; have fx30 := hx3.frozen 0; have fx31 := hx3.frozen 1)
    | (go_at_call 36; (with_reducible refine (Htx.out _).mono ?_); rintro e w4 ⟨rfl, hb4⟩; have ha4 := ha3.up hb4; have hx4 := hx3.up hb4; obtain ⟨x40, x41, fx40, fx41⟩ := hx4.two; have hB4 := hB3.trans (But.of hb4); have hx4b : RdX (w4.setCell ⟨g, 1, none⟩ (.bool true)) g (s1, true) := hx4.set 1 (.bool true); have ha4b := ha4.other Hgt.out 1 (.bool true); have hB4b := hB4.set 1 (.bool true))
    | (go_at_call 37; (with_reducible refine (part_ex g (s1, true) ts (ts : Int) rfl _ (by simp only; omega) (by have := Hsz.out; omega) hx4b).mono ?_); rintro e w5 ⟨t5, q5, Hq5, rfl, hx5, hd5, hl5, _⟩; have ha5 := ha4b.but hd5 Hne.out; have hB5 := hB4b.trans hd5; obtain ⟨⟨_, _, _, _, _, _, _⟩, _, _, _, _, _, _, _⟩ := ha5.sevenF))
  have ha9 := ha5.set 2 (S tx)
  have hQ := Lib.hid (show P.qAct q = ((⟨⟨1, 0, tx, [], P.noCr⟩, none, 0, none, 0, none, 0⟩ : AcR).x, q5) by have h1 := HT.out; (rw [show (!false) = true from rfl, Hq5.out] at h1); unfold P.qAct; rw [hq]; simp [h1])
  have hown : AcOwn (w5.setCell ⟨w.heap.size, 2, none⟩ (S tx)) (w.heap.size + 1) ⟨⟨1, 0, tx, [], P.noCr⟩, none, 0, none, 0, none, 0⟩ := ⟨Dr.nil _ _, ownR_nil _ _, ownR_nil _ _⟩
  have fA := ha9.set7 (.int .u8 1) (.int .u64 0) (S tx) (.slice none 0 0) (.int .i64 0) (.slice none 0 0) (.slice none 0 0)
  have fO := (hown).other7 (Nat.lt_succ_self w.heap.size) (.int .u8 1) (.int .u64 0) (S tx) (.slice none 0 0) (.int .i64 0) (.slice none 0 0) (.slice none 0 0)
  have fX := (hx5.other Hne.out 2 (S tx)).other7 Hne.out (.int .u8 1) (.int .u64 0) (S tx) (.slice none 0 0) (.int .i64 0) (.slice none 0 0) (.slice none 0 0)
  have fB := (hB5.setNew (p := ⟨w.heap.size, 2, none⟩) (Nat.le_refl _) (S tx)).new7 (q := w.heap.size) (Nat.le_refl _) (.int .u8 1) (.int .u64 0) (S tx) (.slice none 0 0) (.int .i64 0) (.slice none 0 0) (.slice none 0 0)
  generalize ((((((((w5.setCell ⟨w.heap.size, 2, none⟩ (S tx)).setCell ⟨w.heap.size, 0, none⟩ (.int .u8 1)).setCell ⟨w.heap.size, 1, none⟩ (.int .u64 0)).setCell ⟨w.heap.size, 2, none⟩ (S tx)).setCell ⟨w.heap.size, 3, none⟩ (.slice none 0 0)).setCell ⟨w.heap.size, 4, none⟩ (.int .i64 0)).setCell ⟨w.heap.size, 5, none⟩ (.slice none 0 0)).setCell ⟨w.heap.size, 6, none⟩ (.slice none 0 0)) = w9 at fA fO fX fB ⊢
  have q0 := fA.cell 0
  have q1 := fA.cell 1
  have q2 := fA.cell 2
  have q3 := fA.cell 3
  have q4 := fA.cell 4
  have q5 := fA.cell 5
  have q6 := fA.cell 6
  exact bodyPost_ret (v := .agg #[(.int .u8 1), (.int .u64 0), (S tx), (.slice none 0 0), (.int .i64 0), (.slice none 0 0), (.slice none 0 0)]) (by simp [results, Tryd.results21, go_sem, q0, q1, q2, q3, q4, q5, q6]) rfl ⟨_, _, hQ, rfl, fO.low (Nat.le_succ _), fX, fB, Nat.le_trans hl5 hl1⟩

set_option maxRecDepth 100000 in
set_option maxHeartbeats 8000000 in
theorem act_2 (g : Nat) (q : P.Qs) (w : World) (hs : q.1.length ≤ 1000000000) (hx : RdX w g q) (s1 : List UInt8) (hq : P.qC q = (2, (s1, false))) :
    Calls Tryd.prog 21 #[.pointer (some ⟨g, 0, none⟩)] w (ActDid g q w) := by
  have hg := hx.lt
  have hl1 : s1.length ≤ q.1.length := by have := P.qC_le q; rw [hq] at this; exact this
  have HB := Lib.hid (fun wx (h : RdX wx g q) => show Calls Tryd.prog 35 #[.pointer (some ⟨g, 0, none⟩)] wx fun e w' => e = .returned (.int .i64 2) ∧ RdX w' g (s1, false) ∧ But g wx w' from by have := byte_any g q wx hs h; rw [hq] at this; exact this)
  have HU := Lib.hid (show ∀ wx, Calls Tryd.prog 22 #[.int .u8 2] wx fun e w' => e = .returned (.int .i64 2) ∧ Below wx.heap.size wx w' from fun wx => uses_any 2 wx)
  have hx0 := hx.up ((Below.refl w.heap.size w).alloc (Nat.le_refl _) (.cells #[.int .u8 0, .int .u64 0, S [], .slice none 0 0, .int .i64 0, .slice none 0 0, .slice none 0 0] 32))
  have ha0 := Bx.fresh w 32 #[.int .u8 0, .int .u64 0, S [], .slice none 0 0, .int .i64 0, .slice none 0 0, .slice none 0 0]
  have hb0 : But g w (w.alloc (.cells #[.int .u8 0, .int .u64 0, S [], .slice none 0 0, .int .i64 0, .slice none 0 0, .slice none 0 0] 32)) := (But.refl g w).alloc _
  have Hne := Lib.hid (show w.heap.size ≠ g by omega)
  have Hgt := Lib.hid (show g ≠ w.heap.size by omega)
  clear hx
  go_enter Tryd.func21, Tryd.ntmps21
  go_wp2_with (first
    | (go_at_call 35; (with_reducible refine (HB.out _ hx0).mono ?_); rintro e w1 ⟨rfl, hx1, hd1⟩; have ha1 := ha0.but hd1 Hne.out; have hB1 := hb0.trans hd1; have f10 := ha1.frozen 0; have a10 := ha1.cell 0; have hx1b := hx1.other Hne.out 0 (.int .u8 2); have ha1b := ha1.set 0 (.int .u8 2); have hB1b := hB1.setNew (p := ⟨w.heap.size, 0, none⟩) (Nat.le_refl _) (.int .u8 2))
    | (go_at_call 22; (with_reducible refine (HU.out _).mono ?_); rintro e w2 ⟨rfl, hb2⟩; have ha2 : Bx w2 w.heap.size 32 #[.int .u8 2, .int .u64 0, S [], .slice none 0 0, .int .i64 0, .slice none 0 0, .slice none 0 0] := ha1b.up hb2; have hx2 := hx1b.up hb2; obtain ⟨x20, x21, fx20, fx21⟩ := hx2.two; have hx3 : RdX (w2.setCell ⟨g, 1, none⟩ (.bool false)) g (s1, false) := hx2.set 1 (.bool false); have ha3 : Bx (w2.setCell ⟨g, 1, none⟩ (.bool false)) w.heap.size 32 #[.int .u8 2, .int .u64 0, S [], .slice none 0 0, .int .i64 0, .slice none 0 0, .slice none 0 0] := ha2.other Hgt.out 1 (.bool false); have hB3 := (hB1b.trans (But.of hb2)).set 1 (.bool false); obtain ⟨⟨_, _, _, _, _, _, _⟩, _, _, _, _, _, _, _⟩ := ha3.sevenF; have x30 := hx3.cell 0; have x31 := hx3.cell 1; have fx30 := hx3.frozen 0; have fx31 := hx3.frozen 1)
    | (go_at_call 38; (with_reducible refine (number_ex g (s1, false) _ (by simp only; omega) hx3).mono ?_); rintro e w4 ⟨n, q4, Hq4, rfl, hx4, hd4, hl4⟩; have ha4 := ha3.but hd4 Hne.out; have hB4 := hB3.trans hd4; obtain ⟨⟨_, _, _, _, _, _, _⟩, _, _, _, _, _, _, _⟩ := ha4.sevenF))
  have ha9 := ha4.set 1 (V64 n)
  have hQ := Lib.hid (show P.qAct q = ((⟨⟨2, n, [], [], P.noCr⟩, none, 0, none, 0, none, 0⟩ : AcR).x, q4) by unfold P.qAct; rw [hq]; simp [Hq4.out])
  have hown : AcOwn (w4.setCell ⟨w.heap.size, 1, none⟩ (V64 n)) (w.heap.size + 1) ⟨⟨2, n, [], [], P.noCr⟩, none, 0, none, 0, none, 0⟩ := ⟨Dr.nil _ _, ownR_nil _ _, ownR_nil _ _⟩
  have fA := ha9.set7 (.int .u8 2) (V64 n) (S []) (.slice none 0 0) (.int .i64 0) (.slice none 0 0) (.slice none 0 0)
  have fO := (hown).other7 (Nat.lt_succ_self w.heap.size) (.int .u8 2) (V64 n) (S []) (.slice none 0 0) (.int .i64 0) (.slice none 0 0) (.slice none 0 0)
  have fX := (hx4.other Hne.out 1 (V64 n)).other7 Hne.out (.int .u8 2) (V64 n) (S []) (.slice none 0 0) (.int .i64 0) (.slice none 0 0) (.slice none 0 0)
  have fB := (hB4.setNew (p := ⟨w.heap.size, 1, none⟩) (Nat.le_refl _) (V64 n)).new7 (q := w.heap.size) (Nat.le_refl _) (.int .u8 2) (V64 n) (S []) (.slice none 0 0) (.int .i64 0) (.slice none 0 0) (.slice none 0 0)
  generalize ((((((((w4.setCell ⟨w.heap.size, 1, none⟩ (V64 n)).setCell ⟨w.heap.size, 0, none⟩ (.int .u8 2)).setCell ⟨w.heap.size, 1, none⟩ (V64 n)).setCell ⟨w.heap.size, 2, none⟩ (S [])).setCell ⟨w.heap.size, 3, none⟩ (.slice none 0 0)).setCell ⟨w.heap.size, 4, none⟩ (.int .i64 0)).setCell ⟨w.heap.size, 5, none⟩ (.slice none 0 0)).setCell ⟨w.heap.size, 6, none⟩ (.slice none 0 0)) = w9 at fA fO fX fB ⊢
  have q0 := fA.cell 0
  have q1 := fA.cell 1
  have q2 := fA.cell 2
  have q3 := fA.cell 3
  have q4 := fA.cell 4
  have q5 := fA.cell 5
  have q6 := fA.cell 6
  exact bodyPost_ret (v := .agg #[(.int .u8 2), (V64 n), (S []), (.slice none 0 0), (.int .i64 0), (.slice none 0 0), (.slice none 0 0)]) (by simp [results, Tryd.results21, go_sem, q0, q1, q2, q3, q4, q5, q6]) rfl ⟨_, _, hQ, rfl, fO.low (Nat.le_succ _), fX, fB, Nat.le_trans hl4 hl1⟩

set_option maxRecDepth 100000 in
set_option maxHeartbeats 8000000 in
theorem act_3 (g : Nat) (q : P.Qs) (w : World) (hs : q.1.length ≤ 1000000000) (hx : RdX w g q) (s1 : List UInt8) (hq : P.qC q = (3, (s1, false))) :
    Calls Tryd.prog 21 #[.pointer (some ⟨g, 0, none⟩)] w (ActDid g q w) := by
  have hg := hx.lt
  have hl1 : s1.length ≤ q.1.length := by have := P.qC_le q; rw [hq] at this; exact this
  have HB := Lib.hid (fun wx (h : RdX wx g q) => show Calls Tryd.prog 35 #[.pointer (some ⟨g, 0, none⟩)] wx fun e w' => e = .returned (.int .i64 3) ∧ RdX w' g (s1, false) ∧ But g wx w' from by have := byte_any g q wx hs h; rw [hq] at this; exact this)
  have HU := Lib.hid (show ∀ wx, Calls Tryd.prog 22 #[.int .u8 3] wx fun e w' => e = .returned (.int .i64 0) ∧ Below wx.heap.size wx w' from fun wx => uses_any 3 wx)
  have hx0 := hx.up ((Below.refl w.heap.size w).alloc (Nat.le_refl _) (.cells #[.int .u8 0, .int .u64 0, S [], .slice none 0 0, .int .i64 0, .slice none 0 0, .slice none 0 0] 32))
  have ha0 := Bx.fresh w 32 #[.int .u8 0, .int .u64 0, S [], .slice none 0 0, .int .i64 0, .slice none 0 0, .slice none 0 0]
  have hb0 : But g w (w.alloc (.cells #[.int .u8 0, .int .u64 0, S [], .slice none 0 0, .int .i64 0, .slice none 0 0, .slice none 0 0] 32)) := (But.refl g w).alloc _
  have Hne := Lib.hid (show w.heap.size ≠ g by omega)
  have Hgt := Lib.hid (show g ≠ w.heap.size by omega)
  clear hx
  go_enter Tryd.func21, Tryd.ntmps21
  go_wp2_with (first
    | (go_at_call 35; (with_reducible refine (HB.out _ hx0).mono ?_); rintro e w1 ⟨rfl, hx1, hd1⟩; have ha1 := ha0.but hd1 Hne.out; have hB1 := hb0.trans hd1; have f10 := ha1.frozen 0; have a10 := ha1.cell 0; have hx1b := hx1.other Hne.out 0 (.int .u8 3); have ha1b := ha1.set 0 (.int .u8 3); have hB1b := hB1.setNew (p := ⟨w.heap.size, 0, none⟩) (Nat.le_refl _) (.int .u8 3))
    | (go_at_call 22; (with_reducible refine (HU.out _).mono ?_); rintro e w2 ⟨rfl, hb2⟩; have ha2 : Bx w2 w.heap.size 32 #[.int .u8 3, .int .u64 0, S [], .slice none 0 0, .int .i64 0, .slice none 0 0, .slice none 0 0] := ha1b.up hb2; have hx2 := hx1b.up hb2; obtain ⟨x20, x21, fx20, fx21⟩ := hx2.two; have hx3 : RdX (w2.setCell ⟨g, 1, none⟩ (.bool false)) g (s1, false) := hx2.set 1 (.bool false); have ha3 : Bx (w2.setCell ⟨g, 1, none⟩ (.bool false)) w.heap.size 32 #[.int .u8 3, .int .u64 0, S [], .slice none 0 0, .int .i64 0, .slice none 0 0, .slice none 0 0] := ha2.other Hgt.out 1 (.bool false); have hB3 := (hB1b.trans (But.of hb2)).set 1 (.bool false); obtain ⟨⟨_, _, _, _, _, _, _⟩, _, _, _, _, _, _, _⟩ := ha3.sevenF; have x30 := hx3.cell 0; have x31 := hx3.cell 1; have fx30 := hx3.frozen 0; have fx31 := hx3.frozen 1))
  have ha9 := ha3
  have hQ := Lib.hid (show P.qAct q = ((⟨⟨3, 0, [], [], P.noCr⟩, none, 0, none, 0, none, 0⟩ : AcR).x, (s1, false)) by unfold P.qAct; rw [hq]; simp)
  have hown : AcOwn (w2.setCell ⟨g, 1, none⟩ (.bool false)) (w.heap.size + 1) ⟨⟨3, 0, [], [], P.noCr⟩, none, 0, none, 0, none, 0⟩ := ⟨Dr.nil _ _, ownR_nil _ _, ownR_nil _ _⟩
  have fA := ha9.set7 (.int .u8 3) (.int .u64 0) (S []) (.slice none 0 0) (.int .i64 0) (.slice none 0 0) (.slice none 0 0)
  have fO := (hown).other7 (Nat.lt_succ_self w.heap.size) (.int .u8 3) (.int .u64 0) (S []) (.slice none 0 0) (.int .i64 0) (.slice none 0 0) (.slice none 0 0)
  have fX := (hx3).other7 Hne.out (.int .u8 3) (.int .u64 0) (S []) (.slice none 0 0) (.int .i64 0) (.slice none 0 0) (.slice none 0 0)
  have fB := (hB3).new7 (q := w.heap.size) (Nat.le_refl _) (.int .u8 3) (.int .u64 0) (S []) (.slice none 0 0) (.int .i64 0) (.slice none 0 0) (.slice none 0 0)
  generalize ((((((((w2.setCell ⟨g, 1, none⟩ (.bool false)).setCell ⟨w.heap.size, 0, none⟩ (.int .u8 3)).setCell ⟨w.heap.size, 1, none⟩ (.int .u64 0)).setCell ⟨w.heap.size, 2, none⟩ (S [])).setCell ⟨w.heap.size, 3, none⟩ (.slice none 0 0)).setCell ⟨w.heap.size, 4, none⟩ (.int .i64 0)).setCell ⟨w.heap.size, 5, none⟩ (.slice none 0 0)).setCell ⟨w.heap.size, 6, none⟩ (.slice none 0 0)) = w9 at fA fO fX fB ⊢
  have q0 := fA.cell 0
  have q1 := fA.cell 1
  have q2 := fA.cell 2
  have q3 := fA.cell 3
  have q4 := fA.cell 4
  have q5 := fA.cell 5
  have q6 := fA.cell 6
  exact bodyPost_ret (v := .agg #[(.int .u8 3), (.int .u64 0), (S []), (.slice none 0 0), (.int .i64 0), (.slice none 0 0), (.slice none 0 0)]) (by simp [results, Tryd.results21, go_sem, q0, q1, q2, q3, q4, q5, q6]) rfl ⟨_, _, hQ, rfl, fO.low (Nat.le_succ _), fX, fB, hl1⟩

set_option maxRecDepth 100000 in
set_option maxHeartbeats 8000000 in
theorem act_4 (g : Nat) (q : P.Qs) (w : World) (hs : q.1.length ≤ 1000000000) (hx : RdX w g q) (s1 : List UInt8) (hq : P.qC q = (4, (s1, false))) :
    Calls Tryd.prog 21 #[.pointer (some ⟨g, 0, none⟩)] w (ActDid g q w) := by
  have hg := hx.lt
  have hl1 : s1.length ≤ q.1.length := by have := P.qC_le q; rw [hq] at this; exact this
  have HB := Lib.hid (fun wx (h : RdX wx g q) => show Calls Tryd.prog 35 #[.pointer (some ⟨g, 0, none⟩)] wx fun e w' => e = .returned (.int .i64 4) ∧ RdX w' g (s1, false) ∧ But g wx w' from by have := byte_any g q wx hs h; rw [hq] at this; exact this)
  have HU := Lib.hid (show ∀ wx, Calls Tryd.prog 22 #[.int .u8 4] wx fun e w' => e = .returned (.int .i64 0) ∧ Below wx.heap.size wx w' from fun wx => uses_any 4 wx)
  have hx0 := hx.up ((Below.refl w.heap.size w).alloc (Nat.le_refl _) (.cells #[.int .u8 0, .int .u64 0, S [], .slice none 0 0, .int .i64 0, .slice none 0 0, .slice none 0 0] 32))
  have ha0 := Bx.fresh w 32 #[.int .u8 0, .int .u64 0, S [], .slice none 0 0, .int .i64 0, .slice none 0 0, .slice none 0 0]
  have hb0 : But g w (w.alloc (.cells #[.int .u8 0, .int .u64 0, S [], .slice none 0 0, .int .i64 0, .slice none 0 0, .slice none 0 0] 32)) := (But.refl g w).alloc _
  have Hne := Lib.hid (show w.heap.size ≠ g by omega)
  have Hgt := Lib.hid (show g ≠ w.heap.size by omega)
  clear hx
  go_enter Tryd.func21, Tryd.ntmps21
  go_wp2_with (first
    | (go_at_call 35; (with_reducible refine (HB.out _ hx0).mono ?_); rintro e w1 ⟨rfl, hx1, hd1⟩; have ha1 := ha0.but hd1 Hne.out; have hB1 := hb0.trans hd1; have f10 := ha1.frozen 0; have a10 := ha1.cell 0; have hx1b := hx1.other Hne.out 0 (.int .u8 4); have ha1b := ha1.set 0 (.int .u8 4); have hB1b := hB1.setNew (p := ⟨w.heap.size, 0, none⟩) (Nat.le_refl _) (.int .u8 4))
    | (go_at_call 22; (with_reducible refine (HU.out _).mono ?_); rintro e w2 ⟨rfl, hb2⟩; have ha2 : Bx w2 w.heap.size 32 #[.int .u8 4, .int .u64 0, S [], .slice none 0 0, .int .i64 0, .slice none 0 0, .slice none 0 0] := ha1b.up hb2; have hx2 := hx1b.up hb2; obtain ⟨x20, x21, fx20, fx21⟩ := hx2.two; have hx3 : RdX (w2.setCell ⟨g, 1, none⟩ (.bool false)) g (s1, false) := hx2.set 1 (.bool false); have ha3 : Bx (w2.setCell ⟨g, 1, none⟩ (.bool false)) w.heap.size 32 #[.int .u8 4, .int .u64 0, S [], .slice none 0 0, .int .i64 0, .slice none 0 0, .slice none 0 0] := ha2.other Hgt.out 1 (.bool false); have hB3 := (hB1b.trans (But.of hb2)).set 1 (.bool false); obtain ⟨⟨_, _, _, _, _, _, _⟩, _, _, _, _, _, _, _⟩ := ha3.sevenF; have x30 := hx3.cell 0; have x31 := hx3.cell 1; have fx30 := hx3.frozen 0; have fx31 := hx3.frozen 1))
  have ha9 := ha3
  have hQ := Lib.hid (show P.qAct q = ((⟨⟨4, 0, [], [], P.noCr⟩, none, 0, none, 0, none, 0⟩ : AcR).x, (s1, false)) by unfold P.qAct; rw [hq]; simp)
  have hown : AcOwn (w2.setCell ⟨g, 1, none⟩ (.bool false)) (w.heap.size + 1) ⟨⟨4, 0, [], [], P.noCr⟩, none, 0, none, 0, none, 0⟩ := ⟨Dr.nil _ _, ownR_nil _ _, ownR_nil _ _⟩
  have fA := ha9.set7 (.int .u8 4) (.int .u64 0) (S []) (.slice none 0 0) (.int .i64 0) (.slice none 0 0) (.slice none 0 0)
  have fO := (hown).other7 (Nat.lt_succ_self w.heap.size) (.int .u8 4) (.int .u64 0) (S []) (.slice none 0 0) (.int .i64 0) (.slice none 0 0) (.slice none 0 0)
  have fX := (hx3).other7 Hne.out (.int .u8 4) (.int .u64 0) (S []) (.slice none 0 0) (.int .i64 0) (.slice none 0 0) (.slice none 0 0)
  have fB := (hB3).new7 (q := w.heap.size) (Nat.le_refl _) (.int .u8 4) (.int .u64 0) (S []) (.slice none 0 0) (.int .i64 0) (.slice none 0 0) (.slice none 0 0)
  generalize ((((((((w2.setCell ⟨g, 1, none⟩ (.bool false)).setCell ⟨w.heap.size, 0, none⟩ (.int .u8 4)).setCell ⟨w.heap.size, 1, none⟩ (.int .u64 0)).setCell ⟨w.heap.size, 2, none⟩ (S [])).setCell ⟨w.heap.size, 3, none⟩ (.slice none 0 0)).setCell ⟨w.heap.size, 4, none⟩ (.int .i64 0)).setCell ⟨w.heap.size, 5, none⟩ (.slice none 0 0)).setCell ⟨w.heap.size, 6, none⟩ (.slice none 0 0)) = w9 at fA fO fX fB ⊢
  have q0 := fA.cell 0
  have q1 := fA.cell 1
  have q2 := fA.cell 2
  have q3 := fA.cell 3
  have q4 := fA.cell 4
  have q5 := fA.cell 5
  have q6 := fA.cell 6
  exact bodyPost_ret (v := .agg #[(.int .u8 4), (.int .u64 0), (S []), (.slice none 0 0), (.int .i64 0), (.slice none 0 0), (.slice none 0 0)]) (by simp [results, Tryd.results21, go_sem, q0, q1, q2, q3, q4, q5, q6]) rfl ⟨_, _, hQ, rfl, fO.low (Nat.le_succ _), fX, fB, hl1⟩

set_option maxRecDepth 100000 in
set_option maxHeartbeats 8000000 in
theorem act_5 (g : Nat) (q : P.Qs) (w : World) (hs : q.1.length ≤ 1000000000) (hx : RdX w g q) (s1 : List UInt8) (hq : P.qC q = (5, (s1, false))) :
    Calls Tryd.prog 21 #[.pointer (some ⟨g, 0, none⟩)] w (ActDid g q w) := by
  have hg := hx.lt
  have hl1 : s1.length ≤ q.1.length := by have := P.qC_le q; rw [hq] at this; exact this
  have HB := Lib.hid (fun wx (h : RdX wx g q) => show Calls Tryd.prog 35 #[.pointer (some ⟨g, 0, none⟩)] wx fun e w' => e = .returned (.int .i64 5) ∧ RdX w' g (s1, false) ∧ But g wx w' from by have := byte_any g q wx hs h; rw [hq] at this; exact this)
  have HU := Lib.hid (show ∀ wx, Calls Tryd.prog 22 #[.int .u8 5] wx fun e w' => e = .returned (.int .i64 4) ∧ Below wx.heap.size wx w' from fun wx => uses_any 5 wx)
  have hx0 := hx.up ((Below.refl w.heap.size w).alloc (Nat.le_refl _) (.cells #[.int .u8 0, .int .u64 0, S [], .slice none 0 0, .int .i64 0, .slice none 0 0, .slice none 0 0] 32))
  have ha0 := Bx.fresh w 32 #[.int .u8 0, .int .u64 0, S [], .slice none 0 0, .int .i64 0, .slice none 0 0, .slice none 0 0]
  have hb0 : But g w (w.alloc (.cells #[.int .u8 0, .int .u64 0, S [], .slice none 0 0, .int .i64 0, .slice none 0 0, .slice none 0 0] 32)) := (But.refl g w).alloc _
  have Hne := Lib.hid (show w.heap.size ≠ g by omega)
  have Hgt := Lib.hid (show g ≠ w.heap.size by omega)
  clear hx
  go_enter Tryd.func21, Tryd.ntmps21
  go_wp2_with (first
    | (go_at_call 35; (with_reducible refine (HB.out _ hx0).mono ?_); rintro e w1 ⟨rfl, hx1, hd1⟩; have ha1 := ha0.but hd1 Hne.out; have hB1 := hb0.trans hd1; have f10 := ha1.frozen 0; have a10 := ha1.cell 0; have hx1b := hx1.other Hne.out 0 (.int .u8 5); have ha1b := ha1.set 0 (.int .u8 5); have hB1b := hB1.setNew (p := ⟨w.heap.size, 0, none⟩) (Nat.le_refl _) (.int .u8 5))
    | (go_at_call 22; (with_reducible refine (HU.out _).mono ?_); rintro e w2 ⟨rfl, hb2⟩; have ha2 : Bx w2 w.heap.size 32 #[.int .u8 5, .int .u64 0, S [], .slice none 0 0, .int .i64 0, .slice none 0 0, .slice none 0 0] := ha1b.up hb2; have hx2 := hx1b.up hb2; obtain ⟨x20, x21, fx20, fx21⟩ := hx2.two; have hx3 : RdX (w2.setCell ⟨g, 1, none⟩ (.bool false)) g (s1, false) := hx2.set 1 (.bool false); have ha3 : Bx (w2.setCell ⟨g, 1, none⟩ (.bool false)) w.heap.size 32 #[.int .u8 5, .int .u64 0, S [], .slice none 0 0, .int .i64 0, .slice none 0 0, .slice none 0 0] := ha2.other Hgt.out 1 (.bool false); have hB3 := (hB1b.trans (But.of hb2)).set 1 (.bool false); obtain ⟨⟨_, _, _, _, _, _, _⟩, _, _, _, _, _, _, _⟩ := ha3.sevenF; have x30 := hx3.cell 0; have x31 := hx3.cell 1; have fx30 := hx3.frozen 0; have fx31 := hx3.frozen 1)
    | (go_at_call 35; (with_reducible refine (byte_ex g (s1, false) _ (by simp only; omega) hx3).mono ?_); rintro e w4 ⟨n, q4, Hq4, rfl, hx4, hd4, hl4, hn4⟩; have ha4 := ha3.but hd4 Hne.out; have hB4 := hB3.trans hd4)
    | (go_at_call 37; (with_reducible refine (part_ex g q4 n (n : Int) rfl _ (Nat.le_trans hl4 (Nat.le_trans hl1 hs)) (by omega) hx4).mono ?_); rintro e w5 ⟨t, q5, Hq5, rfl, hx5, hd5, hl5, ht5⟩; have ha5 := ha4.but hd5 Hne.out; have hB5 := hB4.trans hd5)
    | (refine wpList_conv_ownG t (by rfl) 5 rfl Tryd.underlying9 Tryd.underlying30 Tryd.underlying5 ?hl ?_; (case hl => omega); intro v6 w6 hown6 hb6; have ha6 := ha5.up hb6; have hx6 := hx5.up hb6; have hB6 := hB5.trans (But.of hb6); obtain ⟨⟨_, _, _, _, _, _, _⟩, _, _, _, _, _, _, _⟩ := ha6.sevenF; obtain ⟨da, dc, hv6, hda, hdl⟩ := hown6.at; subst hv6))
  have ha9 := ha6.set 3 (.slice (some ⟨da, 0, none⟩) t.length dc)
  have hQ := Lib.hid (show P.qAct q = ((⟨⟨5, 0, [], t, P.noCr⟩, some ⟨da, 0, none⟩, dc, none, 0, none, 0⟩ : AcR).x, q5) by unfold P.qAct; rw [hq]; simp [Hq4.out, Hq5.out])
  have oD : Dr w6 (w.heap.size + 1) (.slice (some ⟨da, 0, none⟩) t.length dc) t := Dr.low (.inr hown6) (by have h0 := hd5.size; have h1 := hd4.size; have h2 := hb2.size; have h3 := hd1.size; simp [World.setCell] at *; omega)
  have hown : AcOwn (w6.setCell ⟨w.heap.size, 3, none⟩ (.slice (some ⟨da, 0, none⟩) t.length dc)) (w.heap.size + 1) ⟨⟨5, 0, [], t, P.noCr⟩, some ⟨da, 0, none⟩, dc, none, 0, none, 0⟩ := ⟨oD.other (Nat.lt_succ_self _) 3 _, ownR_nil _ _, ownR_nil _ _⟩
  have fA := ha9.set7 (.int .u8 5) (.int .u64 0) (S []) (.slice (some ⟨da, 0, none⟩) t.length dc) (.int .i64 0) (.slice none 0 0) (.slice none 0 0)
  have fO := (hown).other7 (Nat.lt_succ_self w.heap.size) (.int .u8 5) (.int .u64 0) (S []) (.slice (some ⟨da, 0, none⟩) t.length dc) (.int .i64 0) (.slice none 0 0) (.slice none 0 0)
  have fX := (hx6.other Hne.out 3 (.slice (some ⟨da, 0, none⟩) t.length dc)).other7 Hne.out (.int .u8 5) (.int .u64 0) (S []) (.slice (some ⟨da, 0, none⟩) t.length dc) (.int .i64 0) (.slice none 0 0) (.slice none 0 0)
  have fB := (hB6.setNew (p := ⟨w.heap.size, 3, none⟩) (Nat.le_refl _) (.slice (some ⟨da, 0, none⟩) t.length dc)).new7 (q := w.heap.size) (Nat.le_refl _) (.int .u8 5) (.int .u64 0) (S []) (.slice (some ⟨da, 0, none⟩) t.length dc) (.int .i64 0) (.slice none 0 0) (.slice none 0 0)
  generalize ((((((((w6.setCell ⟨w.heap.size, 3, none⟩ (.slice (some ⟨da, 0, none⟩) t.length dc)).setCell ⟨w.heap.size, 0, none⟩ (.int .u8 5)).setCell ⟨w.heap.size, 1, none⟩ (.int .u64 0)).setCell ⟨w.heap.size, 2, none⟩ (S [])).setCell ⟨w.heap.size, 3, none⟩ (.slice (some ⟨da, 0, none⟩) t.length dc)).setCell ⟨w.heap.size, 4, none⟩ (.int .i64 0)).setCell ⟨w.heap.size, 5, none⟩ (.slice none 0 0)).setCell ⟨w.heap.size, 6, none⟩ (.slice none 0 0)) = w9 at fA fO fX fB ⊢
  have q0 := fA.cell 0
  have q1 := fA.cell 1
  have q2 := fA.cell 2
  have q3 := fA.cell 3
  have q4 := fA.cell 4
  have q5 := fA.cell 5
  have q6 := fA.cell 6
  exact bodyPost_ret (v := .agg #[(.int .u8 5), (.int .u64 0), (S []), (.slice (some ⟨da, 0, none⟩) t.length dc), (.int .i64 0), (.slice none 0 0), (.slice none 0 0)]) (by simp [results, Tryd.results21, go_sem, q0, q1, q2, q3, q4, q5, q6]) rfl ⟨_, _, hQ, rfl, fO.low (Nat.le_succ _), fX, fB, Nat.le_trans hl5 (Nat.le_trans hl4 hl1)⟩

set_option maxRecDepth 100000 in
set_option maxHeartbeats 8000000 in
theorem act_6 (g : Nat) (q : P.Qs) (w : World) (hs : q.1.length ≤ 1000000000) (hx : RdX w g q) (s1 : List UInt8) (hq : P.qC q = (6, (s1, false))) :
    Calls Tryd.prog 21 #[.pointer (some ⟨g, 0, none⟩)] w (ActDid g q w) := by
  have hg := hx.lt
  have hl1 : s1.length ≤ q.1.length := by have := P.qC_le q; rw [hq] at this; exact this
  have HB := Lib.hid (fun wx (h : RdX wx g q) => show Calls Tryd.prog 35 #[.pointer (some ⟨g, 0, none⟩)] wx fun e w' => e = .returned (.int .i64 6) ∧ RdX w' g (s1, false) ∧ But g wx w' from by have := byte_any g q wx hs h; rw [hq] at this; exact this)
  have HU := Lib.hid (show ∀ wx, Calls Tryd.prog 22 #[.int .u8 6] wx fun e w' => e = .returned (.int .i64 10) ∧ Below wx.heap.size wx w' from fun wx => uses_any 6 wx)
  have hx0 := hx.up ((Below.refl w.heap.size w).alloc (Nat.le_refl _) (.cells #[.int .u8 0, .int .u64 0, S [], .slice none 0 0, .int .i64 0, .slice none 0 0, .slice none 0 0] 32))
  have ha0 := Bx.fresh w 32 #[.int .u8 0, .int .u64 0, S [], .slice none 0 0, .int .i64 0, .slice none 0 0, .slice none 0 0]
  have hb0 : But g w (w.alloc (.cells #[.int .u8 0, .int .u64 0, S [], .slice none 0 0, .int .i64 0, .slice none 0 0, .slice none 0 0] 32)) := (But.refl g w).alloc _
  have Hne := Lib.hid (show w.heap.size ≠ g by omega)
  have Hgt := Lib.hid (show g ≠ w.heap.size by omega)
  clear hx
  go_enter Tryd.func21, Tryd.ntmps21
  go_wp2_with (first
    | (go_at_call 35; (with_reducible refine (HB.out _ hx0).mono ?_); rintro e w1 ⟨rfl, hx1, hd1⟩; have ha1 := ha0.but hd1 Hne.out; have hB1 := hb0.trans hd1; have f10 := ha1.frozen 0; have a10 := ha1.cell 0; have hx1b := hx1.other Hne.out 0 (.int .u8 6); have ha1b := ha1.set 0 (.int .u8 6); have hB1b := hB1.setNew (p := ⟨w.heap.size, 0, none⟩) (Nat.le_refl _) (.int .u8 6))
    | (go_at_call 22; (with_reducible refine (HU.out _).mono ?_); rintro e w2 ⟨rfl, hb2⟩; have ha2 : Bx w2 w.heap.size 32 #[.int .u8 6, .int .u64 0, S [], .slice none 0 0, .int .i64 0, .slice none 0 0, .slice none 0 0] := ha1b.up hb2; have hx2 := hx1b.up hb2; obtain ⟨x20, x21, fx20, fx21⟩ := hx2.two; have hx3 : RdX (w2.setCell ⟨g, 1, none⟩ (.bool false)) g (s1, false) := hx2.set 1 (.bool false); have ha3 : Bx (w2.setCell ⟨g, 1, none⟩ (.bool false)) w.heap.size 32 #[.int .u8 6, .int .u64 0, S [], .slice none 0 0, .int .i64 0, .slice none 0 0, .slice none 0 0] := ha2.other Hgt.out 1 (.bool false); have hB3 := (hB1b.trans (But.of hb2)).set 1 (.bool false); obtain ⟨⟨_, _, _, _, _, _, _⟩, _, _, _, _, _, _, _⟩ := ha3.sevenF; have x30 := hx3.cell 0; have x31 := hx3.cell 1; have fx30 := hx3.frozen 0; have fx31 := hx3.frozen 1)
    | (go_at_call 38; (with_reducible refine (number_ex g (s1, false) _ (by simp only; omega) hx3).mono ?_); rintro e w4 ⟨n, q4, Hq4, rfl, hx4, hd4, hl4⟩; have ha4 := ha3.but hd4 Hne.out; have hB4 := hB3.trans hd4; obtain ⟨⟨_, _, _, _, _, _, _⟩, _, _, _, _, _, _, _⟩ := ha4.sevenF; have hl4c := Nat.le_trans hl4 hl1)
    | (go_at_call 39; (with_reducible refine (crash_any g _ _ (Nat.le_trans hl4c hs) (hx4.other Hne.out 1 (V64 n))).mono ?_); rintro e w6 ⟨c, q6, a, b, ck, cm, Hq6, rfl, oI, oS, hx6, hd6, hl6⟩; have ha6 := (ha4.set 1 (V64 n)).but hd6 Hne.out; have hB6 := (hB4.setNew (p := ⟨w.heap.size, 1, none⟩) (Nat.le_refl _) (V64 n)).trans hd6; obtain ⟨⟨_, _, _, _, _, _, _⟩, _, _, _, _, _, _, _⟩ := ha6.sevenF))
  have ha9 : Bx (((w6.setCell ⟨w.heap.size, 4, none⟩ (.int .i64 c.names)).setCell ⟨w.heap.size, 5, none⟩ (.slice a c.keep.length ck)).setCell ⟨w.heap.size, 6, none⟩ (.slice b c.spoil.length cm)) w.heap.size 32 #[.int .u8 6, (V64 n), S [], .slice none 0 0, (.int .i64 c.names), (.slice a c.keep.length ck), (.slice b c.spoil.length cm)] := ((ha6.set 4 (.int .i64 c.names)).set 5 (.slice a c.keep.length ck)).set 6 (.slice b c.spoil.length cm)
  have hQ := Lib.hid (show P.qAct q = ((⟨⟨6, n, [], [], c⟩, none, 0, a, ck, b, cm⟩ : AcR).x, q6) by unfold P.qAct; rw [hq]; simp [Hq4.out, Hq6.out])
  have oI2 := oI.low (B' := w.heap.size + 1) (by have h1 := hd4.size; have h2 := hb2.size; have h3 := hd1.size; simp [World.setCell] at *; omega)
  have oS2 := oS.low (B' := w.heap.size + 1) (by have h1 := hd4.size; have h2 := hb2.size; have h3 := hd1.size; simp [World.setCell] at *; omega)
  have hown : AcOwn (((w6.setCell ⟨w.heap.size, 4, none⟩ (.int .i64 c.names)).setCell ⟨w.heap.size, 5, none⟩ (.slice a c.keep.length ck)).setCell ⟨w.heap.size, 6, none⟩ (.slice b c.spoil.length cm)) (w.heap.size + 1) ⟨⟨6, n, [], [], c⟩, none, 0, a, ck, b, cm⟩ := ((show AcOwn w6 (w.heap.size + 1) ⟨⟨6, n, [], [], c⟩, none, 0, a, ck, b, cm⟩ from ⟨Dr.nil _ _, oI2, oS2⟩).other (Nat.lt_succ_self _) 4 (.int .i64 c.names)).other (Nat.lt_succ_self _) 5 (.slice a c.keep.length ck) |>.other (Nat.lt_succ_self _) 6 (.slice b c.spoil.length cm)
  have fA := ha9.set7 (.int .u8 6) (V64 n) (S []) (.slice none 0 0) (.int .i64 c.names) (.slice a c.keep.length ck) (.slice b c.spoil.length cm)
  have fO := (hown).other7 (Nat.lt_succ_self w.heap.size) (.int .u8 6) (V64 n) (S []) (.slice none 0 0) (.int .i64 c.names) (.slice a c.keep.length ck) (.slice b c.spoil.length cm)
  have fX := (((hx6.other Hne.out 4 (.int .i64 c.names)).other Hne.out 5 (.slice a c.keep.length ck)).other Hne.out 6 (.slice b c.spoil.length cm)).other7 Hne.out (.int .u8 6) (V64 n) (S []) (.slice none 0 0) (.int .i64 c.names) (.slice a c.keep.length ck) (.slice b c.spoil.length cm)
  have fB := (((hB6.setNew (p := ⟨w.heap.size, 4, none⟩) (Nat.le_refl _) (.int .i64 c.names)).setNew (p := ⟨w.heap.size, 5, none⟩) (Nat.le_refl _) (.slice a c.keep.length ck)).setNew (p := ⟨w.heap.size, 6, none⟩) (Nat.le_refl _) (.slice b c.spoil.length cm)).new7 (q := w.heap.size) (Nat.le_refl _) (.int .u8 6) (V64 n) (S []) (.slice none 0 0) (.int .i64 c.names) (.slice a c.keep.length ck) (.slice b c.spoil.length cm)
  generalize ((((((((((w6.setCell ⟨w.heap.size, 4, none⟩ (.int .i64 c.names)).setCell ⟨w.heap.size, 5, none⟩ (.slice a c.keep.length ck)).setCell ⟨w.heap.size, 6, none⟩ (.slice b c.spoil.length cm)).setCell ⟨w.heap.size, 0, none⟩ (.int .u8 6)).setCell ⟨w.heap.size, 1, none⟩ (V64 n)).setCell ⟨w.heap.size, 2, none⟩ (S [])).setCell ⟨w.heap.size, 3, none⟩ (.slice none 0 0)).setCell ⟨w.heap.size, 4, none⟩ (.int .i64 c.names)).setCell ⟨w.heap.size, 5, none⟩ (.slice a c.keep.length ck)).setCell ⟨w.heap.size, 6, none⟩ (.slice b c.spoil.length cm)) = w9 at fA fO fX fB ⊢
  have q0 := fA.cell 0
  have q1 := fA.cell 1
  have q2 := fA.cell 2
  have q3 := fA.cell 3
  have q4 := fA.cell 4
  have q5 := fA.cell 5
  have q6 := fA.cell 6
  exact bodyPost_ret (v := .agg #[(.int .u8 6), (V64 n), (S []), (.slice none 0 0), (.int .i64 c.names), (.slice a c.keep.length ck), (.slice b c.spoil.length cm)]) (by simp [results, Tryd.results21, go_sem, q0, q1, q2, q3, q4, q5, q6]) rfl ⟨_, _, hQ, rfl, fO.low (Nat.le_succ _), fX, fB, Nat.le_trans hl6 hl4c⟩

set_option maxRecDepth 100000 in
set_option maxHeartbeats 8000000 in
theorem act_7 (g : Nat) (q : P.Qs) (w : World) (hs : q.1.length ≤ 1000000000) (hx : RdX w g q) (s1 : List UInt8) (hq : P.qC q = (7, (s1, false))) :
    Calls Tryd.prog 21 #[.pointer (some ⟨g, 0, none⟩)] w (ActDid g q w) := by
  have hg := hx.lt
  have hl1 : s1.length ≤ q.1.length := by have := P.qC_le q; rw [hq] at this; exact this
  have HB := Lib.hid (fun wx (h : RdX wx g q) => show Calls Tryd.prog 35 #[.pointer (some ⟨g, 0, none⟩)] wx fun e w' => e = .returned (.int .i64 7) ∧ RdX w' g (s1, false) ∧ But g wx w' from by have := byte_any g q wx hs h; rw [hq] at this; exact this)
  have HU := Lib.hid (show ∀ wx, Calls Tryd.prog 22 #[.int .u8 7] wx fun e w' => e = .returned (.int .i64 8) ∧ Below wx.heap.size wx w' from fun wx => uses_any 7 wx)
  have hx0 := hx.up ((Below.refl w.heap.size w).alloc (Nat.le_refl _) (.cells #[.int .u8 0, .int .u64 0, S [], .slice none 0 0, .int .i64 0, .slice none 0 0, .slice none 0 0] 32))
  have ha0 := Bx.fresh w 32 #[.int .u8 0, .int .u64 0, S [], .slice none 0 0, .int .i64 0, .slice none 0 0, .slice none 0 0]
  have hb0 : But g w (w.alloc (.cells #[.int .u8 0, .int .u64 0, S [], .slice none 0 0, .int .i64 0, .slice none 0 0, .slice none 0 0] 32)) := (But.refl g w).alloc _
  have Hne := Lib.hid (show w.heap.size ≠ g by omega)
  have Hgt := Lib.hid (show g ≠ w.heap.size by omega)
  clear hx
  go_enter Tryd.func21, Tryd.ntmps21
  go_wp2_with (first
    | (go_at_call 35; (with_reducible refine (HB.out _ hx0).mono ?_); rintro e w1 ⟨rfl, hx1, hd1⟩; have ha1 := ha0.but hd1 Hne.out; have hB1 := hb0.trans hd1; have f10 := ha1.frozen 0; have a10 := ha1.cell 0; have hx1b := hx1.other Hne.out 0 (.int .u8 7); have ha1b := ha1.set 0 (.int .u8 7); have hB1b := hB1.setNew (p := ⟨w.heap.size, 0, none⟩) (Nat.le_refl _) (.int .u8 7))
    | (go_at_call 22; (with_reducible refine (HU.out _).mono ?_); rintro e w2 ⟨rfl, hb2⟩; have ha2 : Bx w2 w.heap.size 32 #[.int .u8 7, .int .u64 0, S [], .slice none 0 0, .int .i64 0, .slice none 0 0, .slice none 0 0] := ha1b.up hb2; have hx2 := hx1b.up hb2; obtain ⟨x20, x21, fx20, fx21⟩ := hx2.two; have hx3 : RdX (w2.setCell ⟨g, 1, none⟩ (.bool false)) g (s1, false) := hx2.set 1 (.bool false); have ha3 : Bx (w2.setCell ⟨g, 1, none⟩ (.bool false)) w.heap.size 32 #[.int .u8 7, .int .u64 0, S [], .slice none 0 0, .int .i64 0, .slice none 0 0, .slice none 0 0] := ha2.other Hgt.out 1 (.bool false); have hB3 := (hB1b.trans (But.of hb2)).set 1 (.bool false); obtain ⟨⟨_, _, _, _, _, _, _⟩, _, _, _, _, _, _, _⟩ := ha3.sevenF; have x30 := hx3.cell 0; have x31 := hx3.cell 1; have fx30 := hx3.frozen 0; have fx31 := hx3.frozen 1)
    | (go_at_call 39; (with_reducible refine (crash_any g _ _ (Nat.le_trans hl1 hs) hx3).mono ?_); rintro e w6 ⟨c, q6, a, b, ck, cm, Hq6, rfl, oI, oS, hx6, hd6, hl6⟩; have ha6 := (ha3).but hd6 Hne.out; have hB6 := (hB3).trans hd6; obtain ⟨⟨_, _, _, _, _, _, _⟩, _, _, _, _, _, _, _⟩ := ha6.sevenF))
  have ha9 : Bx (((w6.setCell ⟨w.heap.size, 4, none⟩ (.int .i64 c.names)).setCell ⟨w.heap.size, 5, none⟩ (.slice a c.keep.length ck)).setCell ⟨w.heap.size, 6, none⟩ (.slice b c.spoil.length cm)) w.heap.size 32 #[.int .u8 7, (.int .u64 0), S [], .slice none 0 0, (.int .i64 c.names), (.slice a c.keep.length ck), (.slice b c.spoil.length cm)] := ((ha6.set 4 (.int .i64 c.names)).set 5 (.slice a c.keep.length ck)).set 6 (.slice b c.spoil.length cm)
  have hQ := Lib.hid (show P.qAct q = ((⟨⟨7, 0, [], [], c⟩, none, 0, a, ck, b, cm⟩ : AcR).x, q6) by unfold P.qAct; rw [hq]; simp [Hq6.out])
  have oI2 := oI.low (B' := w.heap.size + 1) (by have h2 := hb2.size; have h3 := hd1.size; simp [World.setCell] at *; omega)
  have oS2 := oS.low (B' := w.heap.size + 1) (by have h2 := hb2.size; have h3 := hd1.size; simp [World.setCell] at *; omega)
  have hown : AcOwn (((w6.setCell ⟨w.heap.size, 4, none⟩ (.int .i64 c.names)).setCell ⟨w.heap.size, 5, none⟩ (.slice a c.keep.length ck)).setCell ⟨w.heap.size, 6, none⟩ (.slice b c.spoil.length cm)) (w.heap.size + 1) ⟨⟨7, 0, [], [], c⟩, none, 0, a, ck, b, cm⟩ := ((show AcOwn w6 (w.heap.size + 1) ⟨⟨7, 0, [], [], c⟩, none, 0, a, ck, b, cm⟩ from ⟨Dr.nil _ _, oI2, oS2⟩).other (Nat.lt_succ_self _) 4 (.int .i64 c.names)).other (Nat.lt_succ_self _) 5 (.slice a c.keep.length ck) |>.other (Nat.lt_succ_self _) 6 (.slice b c.spoil.length cm)
  have fA := ha9.set7 (.int .u8 7) (.int .u64 0) (S []) (.slice none 0 0) (.int .i64 c.names) (.slice a c.keep.length ck) (.slice b c.spoil.length cm)
  have fO := (hown).other7 (Nat.lt_succ_self w.heap.size) (.int .u8 7) (.int .u64 0) (S []) (.slice none 0 0) (.int .i64 c.names) (.slice a c.keep.length ck) (.slice b c.spoil.length cm)
  have fX := (((hx6.other Hne.out 4 (.int .i64 c.names)).other Hne.out 5 (.slice a c.keep.length ck)).other Hne.out 6 (.slice b c.spoil.length cm)).other7 Hne.out (.int .u8 7) (.int .u64 0) (S []) (.slice none 0 0) (.int .i64 c.names) (.slice a c.keep.length ck) (.slice b c.spoil.length cm)
  have fB := (((hB6.setNew (p := ⟨w.heap.size, 4, none⟩) (Nat.le_refl _) (.int .i64 c.names)).setNew (p := ⟨w.heap.size, 5, none⟩) (Nat.le_refl _) (.slice a c.keep.length ck)).setNew (p := ⟨w.heap.size, 6, none⟩) (Nat.le_refl _) (.slice b c.spoil.length cm)).new7 (q := w.heap.size) (Nat.le_refl _) (.int .u8 7) (.int .u64 0) (S []) (.slice none 0 0) (.int .i64 c.names) (.slice a c.keep.length ck) (.slice b c.spoil.length cm)
  generalize ((((((((((w6.setCell ⟨w.heap.size, 4, none⟩ (.int .i64 c.names)).setCell ⟨w.heap.size, 5, none⟩ (.slice a c.keep.length ck)).setCell ⟨w.heap.size, 6, none⟩ (.slice b c.spoil.length cm)).setCell ⟨w.heap.size, 0, none⟩ (.int .u8 7)).setCell ⟨w.heap.size, 1, none⟩ (.int .u64 0)).setCell ⟨w.heap.size, 2, none⟩ (S [])).setCell ⟨w.heap.size, 3, none⟩ (.slice none 0 0)).setCell ⟨w.heap.size, 4, none⟩ (.int .i64 c.names)).setCell ⟨w.heap.size, 5, none⟩ (.slice a c.keep.length ck)).setCell ⟨w.heap.size, 6, none⟩ (.slice b c.spoil.length cm)) = w9 at fA fO fX fB ⊢
  have q0 := fA.cell 0
  have q1 := fA.cell 1
  have q2 := fA.cell 2
  have q3 := fA.cell 3
  have q4 := fA.cell 4
  have q5 := fA.cell 5
  have q6 := fA.cell 6
  exact bodyPost_ret (v := .agg #[(.int .u8 7), (.int .u64 0), (S []), (.slice none 0 0), (.int .i64 c.names), (.slice a c.keep.length ck), (.slice b c.spoil.length cm)]) (by simp [results, Tryd.results21, go_sem, q0, q1, q2, q3, q4, q5, q6]) rfl ⟨_, _, hQ, rfl, fO.low (Nat.le_succ _), fX, fB, Nat.le_trans hl6 hl1⟩

set_option maxRecDepth 100000 in
set_option maxHeartbeats 8000000 in
theorem act_bad_false (g : Nat) (q : P.Qs) (w : World) (hs : q.1.length ≤ 1000000000) (hx : RdX w g q) (k : Nat) (hk : k < 256) (hno : ¬ (1 ≤ k ∧ k ≤ 7)) (s1 : List UInt8) (hq : P.qC q = (k, (s1, false))) :
    Calls Tryd.prog 21 #[.pointer (some ⟨g, 0, none⟩)] w (ActDid g q w) := by
  have hg := hx.lt
  have hl1 : s1.length ≤ q.1.length := by have := P.qC_le q; rw [hq] at this; exact this
  have HB := Lib.hid (fun wx (h : RdX wx g q) => show Calls Tryd.prog 35 #[.pointer (some ⟨g, 0, none⟩)] wx fun e w' => e = .returned (.int .i64 k) ∧ RdX w' g (s1, false) ∧ But g wx w' from by have := byte_any g q wx hs h; rw [hq] at this; exact this)
  have hw8 : IntKind.u8.wrap (k : Int) = (k : Int) := u8_in hk
  have HU := Lib.hid (show ∀ wx, Calls Tryd.prog 22 #[.int .u8 k] wx fun e w' => e = .returned (.int .i64 (-1)) ∧ Below wx.heap.size wx w' from fun wx => by have := uses_any k wx; rw [P.usesN_no hno] at this; exact this)
  have hQ := Lib.hid (show P.qAct q = ((⟨P.noAc, none, 0, none, 0, none, 0⟩ : AcR).x, (s1, true)) by unfold P.qAct; rw [hq]; simp only; rw [if_pos (.inr hno)])
  clear hno
  have hx0 := hx.up ((Below.refl w.heap.size w).alloc (Nat.le_refl _) (.cells #[.int .u8 0, .int .u64 0, S [], .slice none 0 0, .int .i64 0, .slice none 0 0, .slice none 0 0] 32))
  have ha0 := Bx.fresh w 32 #[.int .u8 0, .int .u64 0, S [], .slice none 0 0, .int .i64 0, .slice none 0 0, .slice none 0 0]
  have hb0 : But g w (w.alloc (.cells #[.int .u8 0, .int .u64 0, S [], .slice none 0 0, .int .i64 0, .slice none 0 0, .slice none 0 0] 32)) := (But.refl g w).alloc _
  have Hne := Lib.hid (show w.heap.size ≠ g by omega)
  have Hgt := Lib.hid (show g ≠ w.heap.size by omega)
  clear hx
  go_enter Tryd.func21, Tryd.ntmps21
  go_wp2_with (first
    | (go_at_call 35; (with_reducible refine (HB.out _ hx0).mono ?_); rintro e w1 ⟨rfl, hx1, hd1⟩; have ha1 := ha0.but hd1 Hne.out; have hB1 := hb0.trans hd1; have f10 := ha1.frozen 0; have a10 := ha1.cell 0; have hx1b := hx1.other Hne.out 0 (.int .u8 k); have ha1b := ha1.set 0 (.int .u8 k); have hB1b := hB1.setNew (p := ⟨w.heap.size, 0, none⟩) (Nat.le_refl _) (.int .u8 k))
    | (go_at_call 22; (with_reducible refine (HU.out _).mono ?_); rintro e w2 ⟨rfl, hb2⟩; have ha2 : Bx w2 w.heap.size 32 #[.int .u8 k, .int .u64 0, S [], .slice none 0 0, .int .i64 0, .slice none 0 0, .slice none 0 0] := ha1b.up hb2; have hx2 := hx1b.up hb2; obtain ⟨x20, x21, fx20, fx21⟩ := hx2.two; have hx3 : RdX (w2.setCell ⟨g, 1, none⟩ (.bool true)) g (s1, true) := hx2.set 1 (.bool true); have ha3 : Bx (w2.setCell ⟨g, 1, none⟩ (.bool true)) w.heap.size 32 #[.int .u8 k, .int .u64 0, S [], .slice none 0 0, .int .i64 0, .slice none 0 0, .slice none 0 0] := ha2.other Hgt.out 1 (.bool true); have hB3 := (hB1b.trans (But.of hb2)).set 1 (.bool true); obtain ⟨⟨_, _, _, _, _, _, _⟩, _, _, _, _, _, _, _⟩ := ha3.sevenF; have x30 := hx3.cell 0; have x31 := hx3.cell 1; have fx30 := hx3.frozen 0; have fx31 := hx3.frozen 1))
  have ha9 := ha3
  have hown : AcOwn (w2.setCell ⟨g, 1, none⟩ (.bool true)) (w.heap.size + 1) ⟨P.noAc, none, 0, none, 0, none, 0⟩ := ⟨Dr.nil _ _, ownR_nil _ _, ownR_nil _ _⟩
  have fA := ha9.set7 (.int .u8 0) (.int .u64 0) (S []) (.slice none 0 0) (.int .i64 0) (.slice none 0 0) (.slice none 0 0)
  have fO := (hown).other7 (Nat.lt_succ_self w.heap.size) (.int .u8 0) (.int .u64 0) (S []) (.slice none 0 0) (.int .i64 0) (.slice none 0 0) (.slice none 0 0)
  have fX := (hx3).other7 Hne.out (.int .u8 0) (.int .u64 0) (S []) (.slice none 0 0) (.int .i64 0) (.slice none 0 0) (.slice none 0 0)
  have fB := (hB3).new7 (q := w.heap.size) (Nat.le_refl _) (.int .u8 0) (.int .u64 0) (S []) (.slice none 0 0) (.int .i64 0) (.slice none 0 0) (.slice none 0 0)
  generalize ((((((((w2.setCell ⟨g, 1, none⟩ (.bool true)).setCell ⟨w.heap.size, 0, none⟩ (.int .u8 0)).setCell ⟨w.heap.size, 1, none⟩ (.int .u64 0)).setCell ⟨w.heap.size, 2, none⟩ (S [])).setCell ⟨w.heap.size, 3, none⟩ (.slice none 0 0)).setCell ⟨w.heap.size, 4, none⟩ (.int .i64 0)).setCell ⟨w.heap.size, 5, none⟩ (.slice none 0 0)).setCell ⟨w.heap.size, 6, none⟩ (.slice none 0 0)) = w9 at fA fO fX fB ⊢
  have q0 := fA.cell 0
  have q1 := fA.cell 1
  have q2 := fA.cell 2
  have q3 := fA.cell 3
  have q4 := fA.cell 4
  have q5 := fA.cell 5
  have q6 := fA.cell 6
  exact bodyPost_ret (v := .agg #[(.int .u8 0), (.int .u64 0), (S []), (.slice none 0 0), (.int .i64 0), (.slice none 0 0), (.slice none 0 0)]) (by simp [results, Tryd.results21, go_sem, q0, q1, q2, q3, q4, q5, q6]) rfl ⟨_, _, hQ, rfl, fO.low (Nat.le_succ _), fX, fB, hl1⟩

set_option maxRecDepth 100000 in
set_option maxHeartbeats 8000000 in
theorem act_bad_true (g : Nat) (q : P.Qs) (w : World) (hs : q.1.length ≤ 1000000000) (hx : RdX w g q) (k : Nat) (hk : k < 256) (hno : ¬ (1 ≤ k ∧ k ≤ 7)) (s1 : List UInt8) (hq : P.qC q = (k, (s1, true))) :
    Calls Tryd.prog 21 #[.pointer (some ⟨g, 0, none⟩)] w (ActDid g q w) := by
  have hg := hx.lt
  have hl1 : s1.length ≤ q.1.length := by have := P.qC_le q; rw [hq] at this; exact this
  have HB := Lib.hid (fun wx (h : RdX wx g q) => show Calls Tryd.prog 35 #[.pointer (some ⟨g, 0, none⟩)] wx fun e w' => e = .returned (.int .i64 k) ∧ RdX w' g (s1, true) ∧ But g wx w' from by have := byte_any g q wx hs h; rw [hq] at this; exact this)
  have hw8 : IntKind.u8.wrap (k : Int) = (k : Int) := u8_in hk
  have HU := Lib.hid (show ∀ wx, Calls Tryd.prog 22 #[.int .u8 k] wx fun e w' => e = .returned (.int .i64 (-1)) ∧ Below wx.heap.size wx w' from fun wx => by have := uses_any k wx; rw [P.usesN_no hno] at this; exact this)
  have hQ := Lib.hid (show P.qAct q = ((⟨P.noAc, none, 0, none, 0, none, 0⟩ : AcR).x, (s1, true)) by unfold P.qAct; rw [hq]; simp only; rw [if_pos (.inr hno)])
  clear hno
  have hx0 := hx.up ((Below.refl w.heap.size w).alloc (Nat.le_refl _) (.cells #[.int .u8 0, .int .u64 0, S [], .slice none 0 0, .int .i64 0, .slice none 0 0, .slice none 0 0] 32))
  have ha0 := Bx.fresh w 32 #[.int .u8 0, .int .u64 0, S [], .slice none 0 0, .int .i64 0, .slice none 0 0, .slice none 0 0]
  have hb0 : But g w (w.alloc (.cells #[.int .u8 0, .int .u64 0, S [], .slice none 0 0, .int .i64 0, .slice none 0 0, .slice none 0 0] 32)) := (But.refl g w).alloc _
  have Hne := Lib.hid (show w.heap.size ≠ g by omega)
  have Hgt := Lib.hid (show g ≠ w.heap.size by omega)
  clear hx
  go_enter Tryd.func21, Tryd.ntmps21
  go_wp2_with (first
    | (go_at_call 35; (with_reducible refine (HB.out _ hx0).mono ?_); rintro e w1 ⟨rfl, hx1, hd1⟩; have ha1 := ha0.but hd1 Hne.out; have hB1 := hb0.trans hd1; have f10 := ha1.frozen 0; have a10 := ha1.cell 0; have hx1b := hx1.other Hne.out 0 (.int .u8 k); have ha1b := ha1.set 0 (.int .u8 k); have hB1b := hB1.setNew (p := ⟨w.heap.size, 0, none⟩) (Nat.le_refl _) (.int .u8 k))
    | (go_at_call 22; (with_reducible refine (HU.out _).mono ?_); rintro e w2 ⟨rfl, hb2⟩; have ha2 : Bx w2 w.heap.size 32 #[.int .u8 k, .int .u64 0, S [], .slice none 0 0, .int .i64 0, .slice none 0 0, .slice none 0 0] := ha1b.up hb2; have hx2 := hx1b.up hb2; obtain ⟨x20, x21, fx20, fx21⟩ := hx2.two; have hx3 : RdX (w2.setCell ⟨g, 1, none⟩ (.bool true)) g (s1, true) := hx2.set 1 (.bool true); have ha3 : Bx (w2.setCell ⟨g, 1, none⟩ (.bool true)) w.heap.size 32 #[.int .u8 k, .int .u64 0, S [], .slice none 0 0, .int .i64 0, .slice none 0 0, .slice none 0 0] := ha2.other Hgt.out 1 (.bool true); have hB3 := (hB1b.trans (But.of hb2)).set 1 (.bool true); obtain ⟨⟨_, _, _, _, _, _, _⟩, _, _, _, _, _, _, _⟩ := ha3.sevenF; have x30 := hx3.cell 0; have x31 := hx3.cell 1; have fx30 := hx3.frozen 0; have fx31 := hx3.frozen 1))
  have ha9 := ha3
  have hown : AcOwn (w2.setCell ⟨g, 1, none⟩ (.bool true)) (w.heap.size + 1) ⟨P.noAc, none, 0, none, 0, none, 0⟩ := ⟨Dr.nil _ _, ownR_nil _ _, ownR_nil _ _⟩
  have fA := ha9.set7 (.int .u8 0) (.int .u64 0) (S []) (.slice none 0 0) (.int .i64 0) (.slice none 0 0) (.slice none 0 0)
  have fO := (hown).other7 (Nat.lt_succ_self w.heap.size) (.int .u8 0) (.int .u64 0) (S []) (.slice none 0 0) (.int .i64 0) (.slice none 0 0) (.slice none 0 0)
  have fX := (hx3).other7 Hne.out (.int .u8 0) (.int .u64 0) (S []) (.slice none 0 0) (.int .i64 0) (.slice none 0 0) (.slice none 0 0)
  have fB := (hB3).new7 (q := w.heap.size) (Nat.le_refl _) (.int .u8 0) (.int .u64 0) (S []) (.slice none 0 0) (.int .i64 0) (.slice none 0 0) (.slice none 0 0)
  generalize ((((((((w2.setCell ⟨g, 1, none⟩ (.bool true)).setCell ⟨w.heap.size, 0, none⟩ (.int .u8 0)).setCell ⟨w.heap.size, 1, none⟩ (.int .u64 0)).setCell ⟨w.heap.size, 2, none⟩ (S [])).setCell ⟨w.heap.size, 3, none⟩ (.slice none 0 0)).setCell ⟨w.heap.size, 4, none⟩ (.int .i64 0)).setCell ⟨w.heap.size, 5, none⟩ (.slice none 0 0)).setCell ⟨w.heap.size, 6, none⟩ (.slice none 0 0)) = w9 at fA fO fX fB ⊢
  have q0 := fA.cell 0
  have q1 := fA.cell 1
  have q2 := fA.cell 2
  have q3 := fA.cell 3
  have q4 := fA.cell 4
  have q5 := fA.cell 5
  have q6 := fA.cell 6
  exact bodyPost_ret (v := .agg #[(.int .u8 0), (.int .u64 0), (S []), (.slice none 0 0), (.int .i64 0), (.slice none 0 0), (.slice none 0 0)]) (by simp [results, Tryd.results21, go_sem, q0, q1, q2, q3, q4, q5, q6]) rfl ⟨_, _, hQ, rfl, fO.low (Nat.le_succ _), fX, fB, hl1⟩

theorem act_any (g : Nat) (q : P.Qs) (w : World) (hs : q.1.length ≤ 1000000000) (hx : RdX w g q) :
    Calls Tryd.prog 21 #[.pointer (some ⟨g, 0, none⟩)] w (ActDid g q w) := by
  have hk := P.qC_lt q
  rcases hq : P.qC q with ⟨k, s1, b⟩
  rw [hq] at hk
  simp only at hk
  by_cases hno : 1 ≤ k ∧ k ≤ 7
  · have hb : b = false := by
      cases b with
      | false => rfl
      | true =>
        unfold P.qC at hq
        split at hq
        · injection hq with _ hq; injection hq with _ hq; cases hq
        · injection hq with hq; omega
    subst hb
    obtain rfl | rfl | rfl | rfl | rfl | rfl | rfl : k = 1 ∨ k = 2 ∨ k = 3 ∨ k = 4 ∨ k = 5 ∨ k = 6 ∨ k = 7 := by omega
    · exact act_1 g q w hs hx s1 hq
    · exact act_2 g q w hs hx s1 hq
    · exact act_3 g q w hs hx s1 hq
    · exact act_4 g q w hs hx s1 hq
    · exact act_5 g q w hs hx s1 hq
    · exact act_6 g q w hs hx s1 hq
    · exact act_7 g q w hs hx s1 hq
  · cases b with
    | false => exact act_bad_false g q w hs hx k hk hno s1 hq
    | true => exact act_bad_true g q w hs hx k hk hno s1 hq
end Go.Proofs.YtnflbgindcejjaaDoor
