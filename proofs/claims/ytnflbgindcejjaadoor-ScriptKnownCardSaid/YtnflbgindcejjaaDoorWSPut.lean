/- The walk of the script's put. -/
import Derived.Test.YtnflbgindcejjaaDoorWSBuf
import Derived.Test.YtnflbgindcejjaaDoorWSActs
namespace Go.Proofs.YtnflbgindcejjaaDoor
open Go.RowKit
set_option linter.unusedVariables false
set_option linter.unusedSimpArgs false
attribute [local go_sem] str_app

theorem var_one (n : Nat) (hn : n < 18446744073709551616) (w : World) (g : Nat) (hg : g = w.heap.size) :
    Calls Tryd.prog 32 #[.slice (some ⟨g, 0, none⟩) 1 1] (w.alloc (.cells #[V64 n] 22)) fun e w' => e = .returned (S (P.row n)) ∧ Below w.heap.size w w' := by
  subst hg
  have h := var_any (some ⟨w.heap.size, 0, none⟩) 1 [n] (w.alloc (.cells #[V64 n] 22)) (by simp) (by simpa using hn) (nums_new w _ _ _ rfl)
  rw [show P.vars [n] = P.row n by simp [P.vars]] at h
  exact h.mono fun e w' ⟨he, hb⟩ => ⟨he, ((Below.refl _ _).alloc (Nat.le_refl _) _).trans (hb.mono (by simp))⟩
theorem text_one (t : List UInt8) (ht : t.length ≤ 20000) (w : World) (g : Nat) (hg : g = w.heap.size) :
    Calls Tryd.prog 31 #[.slice (some ⟨g, 0, none⟩) 1 1] (w.alloc (.cells #[S t] 9)) fun e w' => e = .returned (S (P.row t.length ++ t)) ∧ Below w.heap.size w w' := by
  subst hg
  have h := texts_any (some ⟨w.heap.size, 0, none⟩) 1 [t] (w.alloc (.cells #[S t] 9)) (by simp) (by simp [P.total]; omega) (strs_new w _ _ _ rfl)
  rw [show P.texts [t] = P.row t.length ++ t by simp [P.texts]] at h
  exact h.mono fun e w' ⟨he, hb⟩ => ⟨he, ((Below.refl _ _).alloc (Nat.le_refl _) _).trans (hb.mono (by simp))⟩
theorem P.dig_le4 (n : Nat) (h : n < 4294967296) : P.dig n ≤ 4 := (P.dig_iff n 4 (by omega)).2 h
theorem big_4 (n : Nat) (hn : n < 4294967296) (w : World) :
    Calls Tryd.prog 34 #[V64 n, .int .i64 4] w fun e w' => e = .returned (.tuple #[S (P.be 4 n), .int .i64 0]) ∧ Below w.heap.size w w' := by
  have h := bigPut_any n 4 w (by omega) (by omega) (by omega)
  have he : P.bigE n 4 = 0 := by unfold P.bigE; rw [if_pos (by omega)]; exact if_pos (P.dig_le4 n hn)
  rw [show P.bigS n 4 = P.be 4 n by unfold P.bigS; rw [if_pos he]; rfl, he] at h
  exact h
theorem bufByteZ (B g : Nat) (l : List UInt8) (n : Nat) (z : Int) (hz : z = (n : Int)) (w : World) (hn : n < 256) (h : Buf w B g l) (hB : B ≤ w.heap.size) (hl : l.length ≤ 1000000000) :
    Calls Tryd.prog 29 #[.pointer (some ⟨g, 0, none⟩), .int .u8 z] w fun e w' => e = .returned .nilIface ∧ Buf w' B g (l ++ [P.byt n]) ∧ BufK B g w w' := by
  subst hz
  exact bufByte B g l n w hn h hB hl
/-- An act in memory. -/
def AcAt (w : World) (r : AcR) : Prop := DrawsAt w r.da r.x.draws ∧ (r.da = none → r.dc = 0) ∧ CrAt w r.a r.b r.x.cr
theorem AcAt.up {w w' : World} {r : AcR} (h : AcAt w r) (hb : Below w.heap.size w w') : AcAt w' r := ⟨h.1.up hb, h.2.1, h.2.2.up hb⟩
/-- What put gives. -/
def PutDid (w0 : World) (g : Nat) (l : List UInt8) (e : Ending) (w' : World) : Prop := ∃ v, e = .returned v ∧ Buf w' w0.heap.size g l ∧ Below w0.heap.size w0 w'
theorem P.keepB_le (l : List Int) : (P.keepB l).length ≤ 9 * l.length := by
  induction l with
  | nil => simp [P.keepB]
  | cons n l ih => rw [P.keepB_cons, List.length_append, List.length_cons]; have := P.row_len9 n.toNat; omega
theorem P.spoilB_le (l : List (Int × Nat)) : (P.spoilB l).length ≤ 13 * l.length := by
  induction l with
  | nil => simp [P.spoilB]
  | cons n l ih => rw [P.spoilB_cons, List.length_append, List.length_append, P.be_length, List.length_cons]; have := P.row_len9 n.1.toNat; omega
theorem P.crashB_le (c : P.Cr) (h : P.crB c = true) : (P.crashB c).length ≤ 6000 := by
  unfold P.crB at h
  simp only [Bool.and_eq_true, decide_eq_true_eq] at h
  obtain ⟨⟨⟨⟨h1, h2⟩, h3⟩, h4⟩, h5⟩ := h
  unfold P.crashB
  have := P.row_len9 c.names.toNat
  have := P.keepB_le c.keep
  have := P.spoilB_le c.spoil
  simp only [List.length_append, List.length_cons]
  omega
theorem P.actB_le (a : P.Ac) (h : P.rightB a = true) : (P.actB a).length ≤ 7000 + a.text.length := by
  obtain ⟨h1, h2, h3, h4, _, _, _, _⟩ := P.right_kind h
  have := P.crashB_le a.cr h4
  have := P.row_len9 a.n
  have := P.row_len9 a.text.length
  unfold P.actB
  simp only [List.length_append, List.length_cons]
  repeat' split
  all_goals (simp only [List.length_append, List.length_cons, List.length_nil]; omega)
theorem u64_in {n : Nat} (h : n < 18446744073709551616) : IntKind.u64.wrap (n : Int) = (n : Int) := by
  rw [IntKind.wrap_u64]
  omega
theorem u8_in' {n : Nat} (h : n < 256) : IntKind.u8.wrap (n : Int) = (n : Int) := by
  rw [IntKind.wrap_u8]
  omega

set_option maxRecDepth 100000 in
set_option maxHeartbeats 16000000 in
theorem put_1 (w0 : World) (g : Nat) (l : List UInt8) (r : AcR) (hkind : r.x.kind = 1) (w : World) (hr : P.rightB r.x = true) (hty : P.tyAc r.x) (ht : r.x.text.length ≤ 20000) (hat : AcAt w0 r) (hw : Below w0.heap.size w0 w) (hB : Buf w w0.heap.size g l) (hl : l.length ≤ 900000000) :
    Calls Tryd.prog 19 #[.pointer (some ⟨g, 0, none⟩), acV r.x.kind r.x.n r.x.text r.da r.x.draws.length r.dc r.x.cr.names r.a r.x.cr.keep.length r.k r.b r.x.cr.spoil.length r.m] w (PutDid w0 g (l ++ P.actB r.x)) := by
  obtain ⟨⟨kind, n, text, draws, ⟨names, keep, spoil⟩⟩, da, dc, a, kc, b, mc⟩ := r
  simp only at hkind hr hty ht hat ⊢
  subst hkind
  obtain ⟨g1, g2, g3, g4, g5, g6, g7, g8⟩ := P.right_kind hr
  obtain ⟨t1, t2, t3⟩ := hty
  obtain ⟨a1, a2, a3⟩ := hat
  simp only at g1 g2 g3 g4 g5 g6 g7 g8 t1 t2 t3 a1 a2 a3
  have HU := Lib.hid (show ∀ wx, Calls Tryd.prog 22 #[.int .u8 1] wx fun e w' => e = .returned (.int .i64 1) ∧ Below wx.heap.size wx w' from fun wx => uses_any 1 wx)
  have hx0 := Bx.fresh w 32 #[.int .u8 1, V64 n, S text, .slice da draws.length dc, .int .i64 names, .slice a keep.length kc, .slice b spoil.length mc]
  have hB0 := hB.up ((Below.refl w.heap.size w).alloc (Nat.le_refl _) (.cells #[.int .u8 1, V64 n, S text, .slice da draws.length dc, .int .i64 names, .slice a keep.length kc, .slice b spoil.length mc] 32))
  have hw0 : Below w0.heap.size w0 (w.alloc (.cells #[.int .u8 1, V64 n, S text, .slice da draws.length dc, .int .i64 names, .slice a keep.length kc, .slice b spoil.length mc] 32)) := hw.alloc hw.size _
  have Hne := Lib.hid (show w.heap.size ≠ g by have := hB.lt; omega)
  have A1 := Lib.hid a1
  have A2 := Lib.hid a2
  have A3 := Lib.hid a3
  clear hr g1 g2 g5 g6 g7 g8 a1 a2 a3 hB
  have Hact := Lib.hid (show P.actB ⟨1, n, text, draws, ⟨names, keep, spoil⟩⟩ = [P.byt 1] ++ (P.row text.length ++ text) by unfold P.actB; simp)
  have hrl := P.row_len9 text.length
  have HT := Lib.hid (fun wx gx hg => text_one text ht wx gx hg)
  generalize hrt : P.row text.length ++ text = rt at *
  have hrtl : rt.length ≤ 20009 := by rw [← hrt, List.length_append]; omega
  clear hrt
  go_enter Tryd.func19, Tryd.ntmps19
  go_wp2_with (first
    | (go_at_call 22; (with_reducible refine (HU.out _).mono ?_); rintro e w1 ⟨rfl, hd1⟩; have hx1 := hx0.up hd1; have hB1 := hB0.up hd1; have hw1 := Chain.up hw0 hd1; obtain ⟨⟨_, _, _, _, _, _, _⟩, _, _, _, _, _, _, _⟩ := hx1.sevenF)
    | (go_at_call 29; (with_reducible refine (bufByteZ w0.heap.size g _ 1 1 ?hz2 _ ?hn2 hB1 hw1.size ?hl2).mono ?_); (case hz2 => rfl); (case hn2 => omega); (case hl2 => omega); rintro e w2 ⟨rfl, hB2, hk2⟩; have hx2 := hx1.bufK hk2 Hne.out (by decide); have hw2 := hw1.trans hk2.1; obtain ⟨⟨_, _, _, _, _, _, _⟩, _, _, _, _, _, _, _⟩ := hx2.sevenF)
    | (go_at_call 31; (with_reducible refine (HT.out w2 _ ?hg3).mono ?_); (case hg3 => rfl); rintro e w3 ⟨rfl, hd3⟩; have hx3 := hx2.up hd3; have hB3 := hB2.up hd3; have hw3 := Chain.up hw2 hd3; obtain ⟨⟨_, _, _, _, _, _, _⟩, _, _, _, _, _, _, _⟩ := hx3.sevenF)
    | (go_at_call 30; (with_reducible refine (bufStr w0.heap.size g _ rt w3 hB3 hw3.size ?hl4 ?hs4).mono ?_); (case hl4 => (simp only [List.length_append, List.length_cons, List.length_nil]; omega)); (case hs4 => omega); rintro e w4 ⟨v4, rfl, hB4, hk4⟩; have hx4 := hx3.bufK hk4 Hne.out (by decide); have hw4 := hw3.trans hk4.1; obtain ⟨⟨_, _, _, _, _, _, _⟩, _, _, _, _, _, _, _⟩ := hx4.sevenF))
  exact bodyPost_ret (v := .tuple #[]) (by simp [results, Tryd.results19, go_sem]) rfl ⟨_, rfl, by rw [Hact.out]; simpa using hB4, hw4⟩

set_option maxRecDepth 100000 in
set_option maxHeartbeats 16000000 in
theorem put_2 (w0 : World) (g : Nat) (l : List UInt8) (r : AcR) (hkind : r.x.kind = 2) (w : World) (hr : P.rightB r.x = true) (hty : P.tyAc r.x) (ht : r.x.text.length ≤ 20000) (hat : AcAt w0 r) (hw : Below w0.heap.size w0 w) (hB : Buf w w0.heap.size g l) (hl : l.length ≤ 900000000) :
    Calls Tryd.prog 19 #[.pointer (some ⟨g, 0, none⟩), acV r.x.kind r.x.n r.x.text r.da r.x.draws.length r.dc r.x.cr.names r.a r.x.cr.keep.length r.k r.b r.x.cr.spoil.length r.m] w (PutDid w0 g (l ++ P.actB r.x)) := by
  obtain ⟨⟨kind, n, text, draws, ⟨names, keep, spoil⟩⟩, da, dc, a, kc, b, mc⟩ := r
  simp only at hkind hr hty ht hat ⊢
  subst hkind
  obtain ⟨g1, g2, g3, g4, g5, g6, g7, g8⟩ := P.right_kind hr
  obtain ⟨t1, t2, t3⟩ := hty
  obtain ⟨a1, a2, a3⟩ := hat
  simp only at g1 g2 g3 g4 g5 g6 g7 g8 t1 t2 t3 a1 a2 a3
  have HU := Lib.hid (show ∀ wx, Calls Tryd.prog 22 #[.int .u8 2] wx fun e w' => e = .returned (.int .i64 2) ∧ Below wx.heap.size wx w' from fun wx => uses_any 2 wx)
  have hx0 := Bx.fresh w 32 #[.int .u8 2, V64 n, S text, .slice da draws.length dc, .int .i64 names, .slice a keep.length kc, .slice b spoil.length mc]
  have hB0 := hB.up ((Below.refl w.heap.size w).alloc (Nat.le_refl _) (.cells #[.int .u8 2, V64 n, S text, .slice da draws.length dc, .int .i64 names, .slice a keep.length kc, .slice b spoil.length mc] 32))
  have hw0 : Below w0.heap.size w0 (w.alloc (.cells #[.int .u8 2, V64 n, S text, .slice da draws.length dc, .int .i64 names, .slice a keep.length kc, .slice b spoil.length mc] 32)) := hw.alloc hw.size _
  have Hne := Lib.hid (show w.heap.size ≠ g by have := hB.lt; omega)
  have A1 := Lib.hid a1
  have A2 := Lib.hid a2
  have A3 := Lib.hid a3
  clear hr g1 g2 g5 g6 g7 g8 a1 a2 a3 hB
  have Hact := Lib.hid (show P.actB ⟨2, n, text, draws, ⟨names, keep, spoil⟩⟩ = [P.byt 2] ++ P.row n by unfold P.actB; simp)
  have hrl := P.row_len9 n
  go_enter Tryd.func19, Tryd.ntmps19
  go_wp2_with (first
    | (go_at_call 22; (with_reducible refine (HU.out _).mono ?_); rintro e w1 ⟨rfl, hd1⟩; have hx1 := hx0.up hd1; have hB1 := hB0.up hd1; have hw1 := Chain.up hw0 hd1; obtain ⟨⟨_, _, _, _, _, _, _⟩, _, _, _, _, _, _, _⟩ := hx1.sevenF)
    | (go_at_call 29; (with_reducible refine (bufByteZ w0.heap.size g _ 2 2 ?hz2 _ ?hn2 hB1 hw1.size ?hl2).mono ?_); (case hz2 => rfl); (case hn2 => omega); (case hl2 => omega); rintro e w2 ⟨rfl, hB2, hk2⟩; have hx2 := hx1.bufK hk2 Hne.out (by decide); have hw2 := hw1.trans hk2.1; obtain ⟨⟨_, _, _, _, _, _, _⟩, _, _, _, _, _, _, _⟩ := hx2.sevenF)
    | (go_at_call 32; (with_reducible refine (var_one n ?hn3 w2 _ ?hg3).mono ?_); (case hg3 => rfl); (case hn3 => exact t2); rintro e w3 ⟨rfl, hd3⟩; have hx3 := hx2.up hd3; have hB3 := hB2.up hd3; have hw3 := Chain.up hw2 hd3; obtain ⟨⟨_, _, _, _, _, _, _⟩, _, _, _, _, _, _, _⟩ := hx3.sevenF)
    | (go_at_call 30; (with_reducible refine (bufStr w0.heap.size g _ (P.row n) w3 hB3 hw3.size ?hl4 ?hs4).mono ?_); (case hl4 => (simp only [List.length_append, List.length_cons, List.length_nil]; omega)); (case hs4 => omega); rintro e w4 ⟨v4, rfl, hB4, hk4⟩; have hx4 := hx3.bufK hk4 Hne.out (by decide); have hw4 := hw3.trans hk4.1; obtain ⟨⟨_, _, _, _, _, _, _⟩, _, _, _, _, _, _, _⟩ := hx4.sevenF))
  exact bodyPost_ret (v := .tuple #[]) (by simp [results, Tryd.results19, go_sem]) rfl ⟨_, rfl, by rw [Hact.out]; simpa using hB4, hw4⟩

set_option maxRecDepth 100000 in
set_option maxHeartbeats 16000000 in
theorem put_3 (w0 : World) (g : Nat) (l : List UInt8) (r : AcR) (hkind : r.x.kind = 3) (w : World) (hr : P.rightB r.x = true) (hty : P.tyAc r.x) (ht : r.x.text.length ≤ 20000) (hat : AcAt w0 r) (hw : Below w0.heap.size w0 w) (hB : Buf w w0.heap.size g l) (hl : l.length ≤ 900000000) :
    Calls Tryd.prog 19 #[.pointer (some ⟨g, 0, none⟩), acV r.x.kind r.x.n r.x.text r.da r.x.draws.length r.dc r.x.cr.names r.a r.x.cr.keep.length r.k r.b r.x.cr.spoil.length r.m] w (PutDid w0 g (l ++ P.actB r.x)) := by
  obtain ⟨⟨kind, n, text, draws, ⟨names, keep, spoil⟩⟩, da, dc, a, kc, b, mc⟩ := r
  simp only at hkind hr hty ht hat ⊢
  subst hkind
  obtain ⟨g1, g2, g3, g4, g5, g6, g7, g8⟩ := P.right_kind hr
  obtain ⟨t1, t2, t3⟩ := hty
  obtain ⟨a1, a2, a3⟩ := hat
  simp only at g1 g2 g3 g4 g5 g6 g7 g8 t1 t2 t3 a1 a2 a3
  have HU := Lib.hid (show ∀ wx, Calls Tryd.prog 22 #[.int .u8 3] wx fun e w' => e = .returned (.int .i64 0) ∧ Below wx.heap.size wx w' from fun wx => uses_any 3 wx)
  have hx0 := Bx.fresh w 32 #[.int .u8 3, V64 n, S text, .slice da draws.length dc, .int .i64 names, .slice a keep.length kc, .slice b spoil.length mc]
  have hB0 := hB.up ((Below.refl w.heap.size w).alloc (Nat.le_refl _) (.cells #[.int .u8 3, V64 n, S text, .slice da draws.length dc, .int .i64 names, .slice a keep.length kc, .slice b spoil.length mc] 32))
  have hw0 : Below w0.heap.size w0 (w.alloc (.cells #[.int .u8 3, V64 n, S text, .slice da draws.length dc, .int .i64 names, .slice a keep.length kc, .slice b spoil.length mc] 32)) := hw.alloc hw.size _
  have Hne := Lib.hid (show w.heap.size ≠ g by have := hB.lt; omega)
  have A1 := Lib.hid a1
  have A2 := Lib.hid a2
  have A3 := Lib.hid a3
  clear hr g1 g2 g5 g6 g7 g8 a1 a2 a3 hB
  have Hact := Lib.hid (show P.actB ⟨3, n, text, draws, ⟨names, keep, spoil⟩⟩ = [P.byt 3] by unfold P.actB; simp)
  go_enter Tryd.func19, Tryd.ntmps19
  go_wp2_with (first
    | (go_at_call 22; (with_reducible refine (HU.out _).mono ?_); rintro e w1 ⟨rfl, hd1⟩; have hx1 := hx0.up hd1; have hB1 := hB0.up hd1; have hw1 := Chain.up hw0 hd1; obtain ⟨⟨_, _, _, _, _, _, _⟩, _, _, _, _, _, _, _⟩ := hx1.sevenF)
    | (go_at_call 29; (with_reducible refine (bufByteZ w0.heap.size g _ 3 3 ?hz2 _ ?hn2 hB1 hw1.size ?hl2).mono ?_); (case hz2 => rfl); (case hn2 => omega); (case hl2 => omega); rintro e w2 ⟨rfl, hB2, hk2⟩; have hx2 := hx1.bufK hk2 Hne.out (by decide); have hw2 := hw1.trans hk2.1; obtain ⟨⟨_, _, _, _, _, _, _⟩, _, _, _, _, _, _, _⟩ := hx2.sevenF))
  exact bodyPost_ret (v := .tuple #[]) (by simp [results, Tryd.results19, go_sem]) rfl ⟨_, rfl, by rw [Hact.out]; simpa using hB2, hw2⟩

set_option maxRecDepth 100000 in
set_option maxHeartbeats 16000000 in
theorem put_4 (w0 : World) (g : Nat) (l : List UInt8) (r : AcR) (hkind : r.x.kind = 4) (w : World) (hr : P.rightB r.x = true) (hty : P.tyAc r.x) (ht : r.x.text.length ≤ 20000) (hat : AcAt w0 r) (hw : Below w0.heap.size w0 w) (hB : Buf w w0.heap.size g l) (hl : l.length ≤ 900000000) :
    Calls Tryd.prog 19 #[.pointer (some ⟨g, 0, none⟩), acV r.x.kind r.x.n r.x.text r.da r.x.draws.length r.dc r.x.cr.names r.a r.x.cr.keep.length r.k r.b r.x.cr.spoil.length r.m] w (PutDid w0 g (l ++ P.actB r.x)) := by
  obtain ⟨⟨kind, n, text, draws, ⟨names, keep, spoil⟩⟩, da, dc, a, kc, b, mc⟩ := r
  simp only at hkind hr hty ht hat ⊢
  subst hkind
  obtain ⟨g1, g2, g3, g4, g5, g6, g7, g8⟩ := P.right_kind hr
  obtain ⟨t1, t2, t3⟩ := hty
  obtain ⟨a1, a2, a3⟩ := hat
  simp only at g1 g2 g3 g4 g5 g6 g7 g8 t1 t2 t3 a1 a2 a3
  have HU := Lib.hid (show ∀ wx, Calls Tryd.prog 22 #[.int .u8 4] wx fun e w' => e = .returned (.int .i64 0) ∧ Below wx.heap.size wx w' from fun wx => uses_any 4 wx)
  have hx0 := Bx.fresh w 32 #[.int .u8 4, V64 n, S text, .slice da draws.length dc, .int .i64 names, .slice a keep.length kc, .slice b spoil.length mc]
  have hB0 := hB.up ((Below.refl w.heap.size w).alloc (Nat.le_refl _) (.cells #[.int .u8 4, V64 n, S text, .slice da draws.length dc, .int .i64 names, .slice a keep.length kc, .slice b spoil.length mc] 32))
  have hw0 : Below w0.heap.size w0 (w.alloc (.cells #[.int .u8 4, V64 n, S text, .slice da draws.length dc, .int .i64 names, .slice a keep.length kc, .slice b spoil.length mc] 32)) := hw.alloc hw.size _
  have Hne := Lib.hid (show w.heap.size ≠ g by have := hB.lt; omega)
  have A1 := Lib.hid a1
  have A2 := Lib.hid a2
  have A3 := Lib.hid a3
  clear hr g1 g2 g5 g6 g7 g8 a1 a2 a3 hB
  have Hact := Lib.hid (show P.actB ⟨4, n, text, draws, ⟨names, keep, spoil⟩⟩ = [P.byt 4] by unfold P.actB; simp)
  go_enter Tryd.func19, Tryd.ntmps19
  go_wp2_with (first
    | (go_at_call 22; (with_reducible refine (HU.out _).mono ?_); rintro e w1 ⟨rfl, hd1⟩; have hx1 := hx0.up hd1; have hB1 := hB0.up hd1; have hw1 := Chain.up hw0 hd1; obtain ⟨⟨_, _, _, _, _, _, _⟩, _, _, _, _, _, _, _⟩ := hx1.sevenF)
    | (go_at_call 29; (with_reducible refine (bufByteZ w0.heap.size g _ 4 4 ?hz2 _ ?hn2 hB1 hw1.size ?hl2).mono ?_); (case hz2 => rfl); (case hn2 => omega); (case hl2 => omega); rintro e w2 ⟨rfl, hB2, hk2⟩; have hx2 := hx1.bufK hk2 Hne.out (by decide); have hw2 := hw1.trans hk2.1; obtain ⟨⟨_, _, _, _, _, _, _⟩, _, _, _, _, _, _, _⟩ := hx2.sevenF))
  exact bodyPost_ret (v := .tuple #[]) (by simp [results, Tryd.results19, go_sem]) rfl ⟨_, rfl, by rw [Hact.out]; simpa using hB2, hw2⟩

set_option maxRecDepth 100000 in
set_option maxHeartbeats 16000000 in
theorem put_5 (w0 : World) (g : Nat) (l : List UInt8) (r : AcR) (hkind : r.x.kind = 5) (w : World) (hr : P.rightB r.x = true) (hty : P.tyAc r.x) (ht : r.x.text.length ≤ 20000) (hat : AcAt w0 r) (hw : Below w0.heap.size w0 w) (hB : Buf w w0.heap.size g l) (hl : l.length ≤ 900000000) :
    Calls Tryd.prog 19 #[.pointer (some ⟨g, 0, none⟩), acV r.x.kind r.x.n r.x.text r.da r.x.draws.length r.dc r.x.cr.names r.a r.x.cr.keep.length r.k r.b r.x.cr.spoil.length r.m] w (PutDid w0 g (l ++ P.actB r.x)) := by
  obtain ⟨⟨kind, n, text, draws, ⟨names, keep, spoil⟩⟩, da, dc, a, kc, b, mc⟩ := r
  simp only at hkind hr hty ht hat ⊢
  subst hkind
  obtain ⟨g1, g2, g3, g4, g5, g6, g7, g8⟩ := P.right_kind hr
  obtain ⟨t1, t2, t3⟩ := hty
  obtain ⟨a1, a2, a3⟩ := hat
  simp only at g1 g2 g3 g4 g5 g6 g7 g8 t1 t2 t3 a1 a2 a3
  have HU := Lib.hid (show ∀ wx, Calls Tryd.prog 22 #[.int .u8 5] wx fun e w' => e = .returned (.int .i64 4) ∧ Below wx.heap.size wx w' from fun wx => uses_any 5 wx)
  have hx0 := Bx.fresh w 32 #[.int .u8 5, V64 n, S text, .slice da draws.length dc, .int .i64 names, .slice a keep.length kc, .slice b spoil.length mc]
  have hB0 := hB.up ((Below.refl w.heap.size w).alloc (Nat.le_refl _) (.cells #[.int .u8 5, V64 n, S text, .slice da draws.length dc, .int .i64 names, .slice a keep.length kc, .slice b spoil.length mc] 32))
  have hw0 : Below w0.heap.size w0 (w.alloc (.cells #[.int .u8 5, V64 n, S text, .slice da draws.length dc, .int .i64 names, .slice a keep.length kc, .slice b spoil.length mc] 32)) := hw.alloc hw.size _
  have Hne := Lib.hid (show w.heap.size ≠ g by have := hB.lt; omega)
  have A1 := Lib.hid a1
  have A2 := Lib.hid a2
  have A3 := Lib.hid a3
  clear hr g1 g2 g5 g6 g7 g8 a1 a2 a3 hB
  have Hact := Lib.hid (show P.actB ⟨5, n, text, draws, ⟨names, keep, spoil⟩⟩ = [P.byt 5] ++ [P.byt draws.length] ++ draws by unfold P.actB; simp)
  have hd8 : IntKind.u8.wrap (draws.length : Int) = (draws.length : Int) := u8_in' (by omega)
  have HD := Lib.hid (fun wx (lx : List UInt8) (h : Buf wx w0.heap.size g lx) (hw : Below w0.heap.size w0 wx) (hl : lx.length ≤ 1000000000) => bufDraws w0 g lx draws da draws.length dc wx rfl A2.out h hw hl (by omega) A1.out)
  generalize hdl : draws.length = dl at *
  have Hdl := Lib.hid hdl
  clear hdl
  go_enter Tryd.func19, Tryd.ntmps19
  go_wp2_with (first
    | (go_at_call 22; (with_reducible refine (HU.out _).mono ?_); rintro e w1 ⟨rfl, hd1⟩; have hx1 := hx0.up hd1; have hB1 := hB0.up hd1; have hw1 := Chain.up hw0 hd1; obtain ⟨⟨_, _, _, _, _, _, _⟩, _, _, _, _, _, _, _⟩ := hx1.sevenF)
    | (go_at_call 29; (with_reducible refine (bufByteZ w0.heap.size g _ 5 5 ?hz2 _ ?hn2 hB1 hw1.size ?hl2).mono ?_); (case hz2 => rfl); (case hn2 => omega); (case hl2 => omega); rintro e w2 ⟨rfl, hB2, hk2⟩; have hx2 := hx1.bufK hk2 Hne.out (by decide); have hw2 := hw1.trans hk2.1; obtain ⟨⟨_, _, _, _, _, _, _⟩, _, _, _, _, _, _, _⟩ := hx2.sevenF)
    | (go_at_call 29; (with_reducible refine (bufByteZ w0.heap.size g _ dl (dl : Int) ?hz3 _ ?hn3 hB2 hw2.size ?hl3).mono ?_); (case hz3 => rfl); (case hn3 => omega); (case hl3 => (simp only [List.length_append, List.length_cons, List.length_nil]; omega)); rintro e w3 ⟨rfl, hB3, hk3⟩; have hx3 := hx2.bufK hk3 Hne.out (by decide); have hw3 := hw2.trans hk3.1; obtain ⟨⟨_, _, _, _, _, _, _⟩, _, _, _, _, _, _, _⟩ := hx3.sevenF)
    | (go_at_call 33; (with_reducible refine (HD.out w3 _ hB3 hw3 ?hl4).mono ?_); (case hl4 => (simp only [List.length_append, List.length_cons, List.length_nil]; omega)); rintro e w4 ⟨v4, rfl, hB4, hk4⟩; have hw4 := hw3.trans hk4.1))
  exact bodyPost_ret (v := .tuple #[]) (by simp [results, Tryd.results19, go_sem]) rfl ⟨_, rfl, by rw [Hact.out]; simpa using hB4, hw4⟩

set_option maxRecDepth 100000 in
set_option maxHeartbeats 16000000 in
theorem put_6 (w0 : World) (g : Nat) (l : List UInt8) (r : AcR) (hkind : r.x.kind = 6) (w : World) (hr : P.rightB r.x = true) (hty : P.tyAc r.x) (ht : r.x.text.length ≤ 20000) (hat : AcAt w0 r) (hw : Below w0.heap.size w0 w) (hB : Buf w w0.heap.size g l) (hl : l.length ≤ 900000000) :
    Calls Tryd.prog 19 #[.pointer (some ⟨g, 0, none⟩), acV r.x.kind r.x.n r.x.text r.da r.x.draws.length r.dc r.x.cr.names r.a r.x.cr.keep.length r.k r.b r.x.cr.spoil.length r.m] w (PutDid w0 g (l ++ P.actB r.x)) := by
  obtain ⟨⟨kind, n, text, draws, ⟨names, keep, spoil⟩⟩, da, dc, a, kc, b, mc⟩ := r
  simp only at hkind hr hty ht hat ⊢
  subst hkind
  obtain ⟨g1, g2, g3, g4, g5, g6, g7, g8⟩ := P.right_kind hr
  obtain ⟨t1, t2, t3⟩ := hty
  obtain ⟨a1, a2, a3⟩ := hat
  simp only at g1 g2 g3 g4 g5 g6 g7 g8 t1 t2 t3 a1 a2 a3
  have HU := Lib.hid (show ∀ wx, Calls Tryd.prog 22 #[.int .u8 6] wx fun e w' => e = .returned (.int .i64 10) ∧ Below wx.heap.size wx w' from fun wx => uses_any 6 wx)
  have hx0 := Bx.fresh w 32 #[.int .u8 6, V64 n, S text, .slice da draws.length dc, .int .i64 names, .slice a keep.length kc, .slice b spoil.length mc]
  have hB0 := hB.up ((Below.refl w.heap.size w).alloc (Nat.le_refl _) (.cells #[.int .u8 6, V64 n, S text, .slice da draws.length dc, .int .i64 names, .slice a keep.length kc, .slice b spoil.length mc] 32))
  have hw0 : Below w0.heap.size w0 (w.alloc (.cells #[.int .u8 6, V64 n, S text, .slice da draws.length dc, .int .i64 names, .slice a keep.length kc, .slice b spoil.length mc] 32)) := hw.alloc hw.size _
  have Hne := Lib.hid (show w.heap.size ≠ g by have := hB.lt; omega)
  have A1 := Lib.hid a1
  have A2 := Lib.hid a2
  have A3 := Lib.hid a3
  clear hr g1 g2 g5 g6 g7 g8 a1 a2 a3 hB
  have g4' := g4
  unfold P.crB at g4'
  simp only [Bool.and_eq_true, decide_eq_true_eq] at g4'
  obtain ⟨⟨⟨⟨c1, c2⟩, c3⟩, c4⟩, c5⟩ := g4'
  unfold P.smallB at c1
  rw [decide_eq_true_eq] at c1
  obtain ⟨nm, rfl⟩ : ∃ nm : Nat, names = (nm : Int) := ⟨names.toNat, by omega⟩
  clear g4
  have Hact := Lib.hid (show P.actB ⟨6, n, text, draws, ⟨(nm : Int), keep, spoil⟩⟩ = [P.byt 6] ++ P.row n ++ P.row nm ++ [P.byt keep.length] ++ P.keepB keep ++ [P.byt spoil.length] ++ P.spoilB spoil by unfold P.actB P.crashB; simp)
  have hrl := P.row_len9 n
  have hrl2 := P.row_len9 nm
  have hn64 : IntKind.u64.wrap (nm : Int) = (nm : Int) := u64_in (by omega)
  have hk8 : IntKind.u8.wrap (keep.length : Int) = (keep.length : Int) := u8_in' (by omega)
  have hm8 : IntKind.u8.wrap (spoil.length : Int) = (spoil.length : Int) := u8_in' (by omega)
  have HI := Lib.hid (fun wx (hx : Below w0.heap.size w0 wx) => RowsAt.up A3.out.1 hx)
  have HS := Lib.hid (fun wx (hx : Below w0.heap.size w0 wx) => RowsAt.up A3.out.2 hx)
  have C4 := Lib.hid c4
  have C5 := Lib.hid c5
  have T3 := Lib.hid t3
  clear c4 c5 t3 A1 A2 A3
  generalize hkl : keep.length = k at *
  have Hkl := Lib.hid hkl
  generalize hml : spoil.length = m at *
  have Hml := Lib.hid hml
  clear hkl hml
  go_enter Tryd.func19, Tryd.ntmps19
  go_wp2_with (first
    | (go_at_call 22; (with_reducible refine (HU.out _).mono ?_); rintro e w1 ⟨rfl, hd1⟩; have hx1 := hx0.up hd1; have hB1 := hB0.up hd1; have hw1 := Chain.up hw0 hd1; obtain ⟨⟨_, _, _, _, _, _, _⟩, _, _, _, _, _, _, _⟩ := hx1.sevenF)
    | (go_at_call 29; (with_reducible refine (bufByteZ w0.heap.size g _ 6 6 ?hz2 _ ?hn2 hB1 hw1.size ?hl2).mono ?_); (case hz2 => rfl); (case hn2 => omega); (case hl2 => omega); rintro e w2 ⟨rfl, hB2, hk2⟩; have hx2 := hx1.bufK hk2 Hne.out (by decide); have hw2 := hw1.trans hk2.1; obtain ⟨⟨_, _, _, _, _, _, _⟩, _, _, _, _, _, _, _⟩ := hx2.sevenF)
    | (go_at_call 32; (with_reducible refine (var_one n ?hn3 w2 _ ?hg3).mono ?_); (case hg3 => rfl); (case hn3 => exact t2); rintro e w3 ⟨rfl, hd3⟩; have hx3 := hx2.up hd3; have hB3 := hB2.up hd3; have hw3 := Chain.up hw2 hd3; obtain ⟨⟨_, _, _, _, _, _, _⟩, _, _, _, _, _, _, _⟩ := hx3.sevenF)
    | (go_at_call 30; (with_reducible refine (bufStr w0.heap.size g _ (P.row n) w3 hB3 hw3.size ?hl4 ?hs4).mono ?_); (case hl4 => (simp only [List.length_append, List.length_cons, List.length_nil]; omega)); (case hs4 => omega); rintro e w4 ⟨v4, rfl, hB4, hk4⟩; have hx4 := hx3.bufK hk4 Hne.out (by decide); have hw4 := hw3.trans hk4.1; obtain ⟨⟨_, _, _, _, _, _, _⟩, _, _, _, _, _, _, _⟩ := hx4.sevenF)
    | (go_at_call 32; (with_reducible refine (var_one nm ?hn5 w4 _ ?hg5).mono ?_); (case hg5 => rfl); (case hn5 => omega); rintro e w5 ⟨rfl, hd5⟩; have hx5 := hx4.up hd5; have hB5 := hB4.up hd5; have hw5 := Chain.up hw4 hd5; obtain ⟨⟨_, _, _, _, _, _, _⟩, _, _, _, _, _, _, _⟩ := hx5.sevenF)
    | (go_at_call 30; (with_reducible refine (bufStr w0.heap.size g _ (P.row nm) w5 hB5 hw5.size ?hl6 ?hs6).mono ?_); (case hl6 => (simp only [List.length_append, List.length_cons, List.length_nil]; omega)); (case hs6 => omega); rintro e w6 ⟨v6, rfl, hB6, hk6⟩; have hx6 := hx5.bufK hk6 Hne.out (by decide); have hw6 := hw5.trans hk6.1; obtain ⟨⟨_, _, _, _, _, _, _⟩, _, _, _, _, _, _, _⟩ := hx6.sevenF)
    | (go_at_call 29; (with_reducible refine (bufByteZ w0.heap.size g _ k (k : Int) ?hz7 _ ?hn7 hB6 hw6.size ?hl7).mono ?_); (case hz7 => rfl); (case hn7 => omega); (case hl7 => (simp only [List.length_append, List.length_cons, List.length_nil]; omega)); rintro e w7 ⟨rfl, hB7, hk7⟩; have hx7 := hx6.bufK hk7 Hne.out (by decide); have hw7 := hw6.trans hk7.1; obtain ⟨⟨_, _, _, _, _, _, _⟩, _, _, _, _, _, _, _⟩ := hx7.sevenF))
  have hBj : Buf w7 w0.heap.size g (l ++ ([P.byt 6] ++ P.row n ++ P.row nm ++ [P.byt k])) := by simpa [List.append_assoc] using hB7
  have Hpl := Lib.hid (show ([P.byt 6] ++ P.row n ++ P.row nm ++ [P.byt k]).length ≤ 30 by simp only [List.length_append, List.length_cons, List.length_nil]; omega)
  have Hpre := Lib.hid (show P.actB ⟨6, n, text, draws, ⟨(nm : Int), keep, spoil⟩⟩ = ([P.byt 6] ++ P.row n ++ P.row nm ++ [P.byt k]) ++ P.keepB keep ++ [P.byt m] ++ P.spoilB spoil by rw [Hact.out])
  generalize [P.byt 6] ++ P.row n ++ P.row nm ++ [P.byt k] = pre at *
  clear Hact
  have hxj := hx7
  have hwj := hw7
  clear hB0 hx0 hw0 hd1 hrl hrl2 hB1 hx1 hw1 hB2 hx2 hw2 hB3 hx3 hw3 hB4 hx4 hw4 hB5 hx5 hw5 hB6 hx6 hw6 hB7 hx7 hw7
  go_loopw [71] (fun z wr => ∃ j : Nat, j ≤ k ∧ z = .int .i64 j ∧ Buf wr w0.heap.size g (l ++ pre ++ P.keepB (keep.take j)) ∧ Bx wr w.heap.size 32 #[.int .u8 6, V64 n, S text, .slice da draws.length dc, .int .i64 (nm : Int), .slice a k kc, .slice b m mc] ∧ Below w0.heap.size w0 wr) (fun z _ => k - (intOf z).toNat)
  case atStart => exact ⟨0, by omega, rfl, by simpa [P.keepB] using hBj, hxj, hwj⟩
  case round =>
    clear hBj hxj hwj
    obtain ⟨j, hj, rfl, hB9, hx9, hw9⟩ := hrel
    have hlk : (P.keepB (keep.take j)).length ≤ 2300 := by have := P.keepB_le (keep.take j); rw [List.length_take] at this; omega
    have hlp := Hpl.out
    by_cases hlt : j < k
    · have hltl : j < keep.length := by have := Hkl.out; omega
      obtain ⟨bb, o, rfl, hbb, c0⟩ := int_at (HI.out _ hw9) j hltl
      have Hnx := Lib.hid (show P.keepB (keep.take (j + 1)) = P.keepB (keep.take j) ++ P.row keep[j].toNat by rw [List.take_succ_eq_append_getElem hltl, P.keepB_snoc])
      have hsm : P.smallB keep[j] = true := List.all_eq_true.1 C4.out _ (List.getElem_mem hltl)
      generalize keep[j] = v at *
      unfold P.smallB at hsm
      rw [decide_eq_true_eq] at hsm
      obtain ⟨x, rfl⟩ : ∃ x : Nat, v = (x : Int) := ⟨v.toNat, by omega⟩
      have hx64 : IntKind.u64.wrap (x : Int) = (x : Int) := u64_in (by omega)
      have hrx := P.row_len9 x
      rw [Int.toNat_natCast] at Hnx
      generalize P.keepB (keep.take j) = kb at *
      go_wp2_with (first
        | (go_at_call 32; (with_reducible refine (var_one x ?hn10 _ _ ?hg10).mono ?_); (case hg10 => rfl); (case hn10 => omega); rintro e w10 ⟨rfl, hd10⟩; have hx10 := hx9.up hd10; have hB10 := hB9.up hd10; have hw10 := Chain.up hw9 hd10; obtain ⟨⟨_, _, _, _, _, _, _⟩, _, _, _, _, _, _, _⟩ := hx10.sevenF)
        | (go_at_call 30; (with_reducible refine (bufStr w0.heap.size g _ (P.row x) w10 hB10 hw10.size ?hl11 ?hs11).mono ?_); (case hl11 => (simp only [List.length_append, List.length_cons, List.length_nil]; omega)); (case hs11 => omega); rintro e w11 ⟨v11, rfl, hB11, hk11⟩; have hx11 := hx10.bufK hk11 Hne.out (by decide); have hw11 := hw10.trans hk11.1; obtain ⟨⟨_, _, _, _, _, _, _⟩, _, _, _, _, _, _, _⟩ := hx11.sevenF))
      go_roundw
      case rel => exact ⟨j + 1, by omega, by go_num, by rw [Hnx.out, ← List.append_assoc]; exact hB11, hx11, hw11⟩
      case measure => simp [intOf]; omega
    · obtain rfl : j = k := by omega
      rw [List.take_of_length_le (by have := Hkl.out; omega)] at hB9 hlk
      obtain ⟨⟨_, _, _, _, _, _, _⟩, _, _, _, _, _, _, _⟩ := hx9.sevenF
      go_wp2_with (first
        | (go_at_call 29; (with_reducible refine (bufByteZ w0.heap.size g _ m (m : Int) ?hz10 _ ?hn10 hB9 hw9.size ?hl10).mono ?_); (case hz10 => rfl); (case hn10 => omega); (case hl10 => (simp only [List.length_append, List.length_cons, List.length_nil]; omega)); rintro e w10 ⟨rfl, hB10, hk10⟩; have hx10 := hx9.bufK hk10 Hne.out (by decide); have hw10 := hw9.trans hk10.1; obtain ⟨⟨_, _, _, _, _, _, _⟩, _, _, _, _, _, _, _⟩ := hx10.sevenF))
      generalize P.keepB keep = kb at *
      have hxj := hx10
      have hwj := hw10
      have hBj : Buf w10 w0.heap.size g (l ++ (pre ++ kb ++ [P.byt m])) := by simpa [List.append_assoc] using hB10
      have Hpl2 := Lib.hid (show (pre ++ kb ++ [P.byt m]).length ≤ 2400 by simp only [List.length_append, List.length_cons, List.length_nil]; omega)
      generalize pre ++ kb ++ [P.byt m] = pre2 at *
      clear hB10 hx10 hw10 hB9 hx9 hw9 hlk hlp
      go_loopw [93] (fun z wx => ∃ i : Nat, i ≤ m ∧ z = .int .i64 i ∧ Buf wx w0.heap.size g (l ++ pre2 ++ P.spoilB (spoil.take i)) ∧ Below w0.heap.size w0 wx) (fun z _ => m - (intOf z).toNat)
      case atStart => exact ⟨0, by omega, rfl, by simpa [P.spoilB] using hBj, hwj⟩
      case round =>
        clear hBj hxj hwj
        obtain ⟨i, hi, rfl, hB9, hw9⟩ := hrel
        have hlk : (P.spoilB (spoil.take i)).length ≤ 3400 := by have := P.spoilB_le (spoil.take i); rw [List.length_take] at this; omega
        have hlp := Hpl2.out
        by_cases hlt : i < m
        · have hltl : i < spoil.length := by have := Hml.out; omega
          obtain ⟨bb, o, rfl, hbb, c0, c1⟩ := spot_at (HS.out _ hw9) i hltl
          have Hnx := Lib.hid (show P.spoilB (spoil.take (i + 1)) = P.spoilB (spoil.take i) ++ (P.row spoil[i].1.toNat ++ P.be 4 spoil[i].2) by rw [List.take_succ_eq_append_getElem hltl, P.spoilB_snoc])
          have hsm : P.smallB spoil[i].1 = true := List.all_eq_true.1 C5.out _ (List.getElem_mem hltl)
          have hmk : spoil[i].2 < 4294967296 := T3.out _ (List.getElem_mem hltl)
          generalize spoil[i] = v at *
          obtain ⟨v, mk⟩ := v
          simp only at c0 c1 Hnx hsm hmk
          unfold P.smallB at hsm
          rw [decide_eq_true_eq] at hsm
          obtain ⟨x, rfl⟩ : ∃ x : Nat, v = (x : Int) := ⟨v.toNat, by omega⟩
          have hx64 : IntKind.u64.wrap (x : Int) = (x : Int) := u64_in (by omega)
          have hm64 : IntKind.u64.wrap (mk : Int) = (mk : Int) := u64_in (by omega)
          have hrx := P.row_len9 x
          have hb4 := P.be_length 4 mk
          rw [Int.toNat_natCast] at Hnx
          generalize P.spoilB (spoil.take i) = kb at *
          have hxS := Bx.fresh wr 26 #[.int .i64 x, .int .u32 mk]
          have hB10 := hB9.up ((Below.refl wr.heap.size wr).alloc (Nat.le_refl _) (.cells #[.int .i64 x, .int .u32 mk] 26))
          have hw10 : Below w0.heap.size w0 (wr.alloc (.cells #[.int .i64 x, .int .u32 mk] 26)) := hw9.alloc hw9.size _
          go_wp2_with (first
            | (go_at_call 34; (with_reducible refine (big_4 mk hmk _).mono ?_); rintro e w11 ⟨rfl, hd11⟩; have hxS11 := hxS.up hd11; have hB11 := hB10.up hd11; have hw11 := Chain.up hw10 hd11; obtain ⟨_, _, _, _⟩ := hxS11.two)
            | (go_at_call 32; (with_reducible refine (var_one x ?hn12 w11 _ ?hg12).mono ?_); (case hg12 => rfl); (case hn12 => omega); rintro e w12 ⟨rfl, hd12⟩; have hB12 := hB11.up hd12; have hw12 := Chain.up hw11 hd12)
            | (go_at_call 30; (with_reducible refine (bufStr w0.heap.size g _ (P.row x ++ P.be 4 mk) w12 hB12 hw12.size ?hl13 ?hs13).mono ?_); (case hl13 => (simp only [List.length_append, List.length_cons, List.length_nil]; omega)); (case hs13 => (simp only [List.length_append, List.length_cons, List.length_nil]; omega)); rintro e w13 ⟨v13, rfl, hB13, hk13⟩; have hw13 := hw12.trans hk13.1))
          go_roundw
          case rel => exact ⟨i + 1, by omega, by go_num, by rw [Hnx.out, ← List.append_assoc]; exact hB13, hw13⟩
          case measure => simp [intOf]; omega
        · obtain rfl : i = m := by omega
          rw [List.take_of_length_le (by have := Hml.out; omega)] at hB9
          go_wp2_with fail
          exact bodyPost_ret (v := .tuple #[]) (by simp [results, Tryd.results19, go_sem]) rfl ⟨_, rfl, by rw [Hpre.out, ← List.append_assoc]; exact hB9, hw9⟩

set_option maxRecDepth 100000 in
set_option maxHeartbeats 16000000 in
theorem put_7 (w0 : World) (g : Nat) (l : List UInt8) (r : AcR) (hkind : r.x.kind = 7) (w : World) (hr : P.rightB r.x = true) (hty : P.tyAc r.x) (ht : r.x.text.length ≤ 20000) (hat : AcAt w0 r) (hw : Below w0.heap.size w0 w) (hB : Buf w w0.heap.size g l) (hl : l.length ≤ 900000000) :
    Calls Tryd.prog 19 #[.pointer (some ⟨g, 0, none⟩), acV r.x.kind r.x.n r.x.text r.da r.x.draws.length r.dc r.x.cr.names r.a r.x.cr.keep.length r.k r.b r.x.cr.spoil.length r.m] w (PutDid w0 g (l ++ P.actB r.x)) := by
  obtain ⟨⟨kind, n, text, draws, ⟨names, keep, spoil⟩⟩, da, dc, a, kc, b, mc⟩ := r
  simp only at hkind hr hty ht hat ⊢
  subst hkind
  obtain ⟨g1, g2, g3, g4, g5, g6, g7, g8⟩ := P.right_kind hr
  obtain ⟨t1, t2, t3⟩ := hty
  obtain ⟨a1, a2, a3⟩ := hat
  simp only at g1 g2 g3 g4 g5 g6 g7 g8 t1 t2 t3 a1 a2 a3
  have HU := Lib.hid (show ∀ wx, Calls Tryd.prog 22 #[.int .u8 7] wx fun e w' => e = .returned (.int .i64 8) ∧ Below wx.heap.size wx w' from fun wx => uses_any 7 wx)
  have hx0 := Bx.fresh w 32 #[.int .u8 7, V64 n, S text, .slice da draws.length dc, .int .i64 names, .slice a keep.length kc, .slice b spoil.length mc]
  have hB0 := hB.up ((Below.refl w.heap.size w).alloc (Nat.le_refl _) (.cells #[.int .u8 7, V64 n, S text, .slice da draws.length dc, .int .i64 names, .slice a keep.length kc, .slice b spoil.length mc] 32))
  have hw0 : Below w0.heap.size w0 (w.alloc (.cells #[.int .u8 7, V64 n, S text, .slice da draws.length dc, .int .i64 names, .slice a keep.length kc, .slice b spoil.length mc] 32)) := hw.alloc hw.size _
  have Hne := Lib.hid (show w.heap.size ≠ g by have := hB.lt; omega)
  have A1 := Lib.hid a1
  have A2 := Lib.hid a2
  have A3 := Lib.hid a3
  clear hr g1 g2 g5 g6 g7 g8 a1 a2 a3 hB
  have g4' := g4
  unfold P.crB at g4'
  simp only [Bool.and_eq_true, decide_eq_true_eq] at g4'
  obtain ⟨⟨⟨⟨c1, c2⟩, c3⟩, c4⟩, c5⟩ := g4'
  unfold P.smallB at c1
  rw [decide_eq_true_eq] at c1
  obtain ⟨nm, rfl⟩ : ∃ nm : Nat, names = (nm : Int) := ⟨names.toNat, by omega⟩
  clear g4
  have Hact := Lib.hid (show P.actB ⟨7, n, text, draws, ⟨(nm : Int), keep, spoil⟩⟩ = [P.byt 7] ++ P.row nm ++ [P.byt keep.length] ++ P.keepB keep ++ [P.byt spoil.length] ++ P.spoilB spoil by unfold P.actB P.crashB; simp)
  have hrl := P.row_len9 n
  have hrl2 := P.row_len9 nm
  have hn64 : IntKind.u64.wrap (nm : Int) = (nm : Int) := u64_in (by omega)
  have hk8 : IntKind.u8.wrap (keep.length : Int) = (keep.length : Int) := u8_in' (by omega)
  have hm8 : IntKind.u8.wrap (spoil.length : Int) = (spoil.length : Int) := u8_in' (by omega)
  have HI := Lib.hid (fun wx (hx : Below w0.heap.size w0 wx) => RowsAt.up A3.out.1 hx)
  have HS := Lib.hid (fun wx (hx : Below w0.heap.size w0 wx) => RowsAt.up A3.out.2 hx)
  have C4 := Lib.hid c4
  have C5 := Lib.hid c5
  have T3 := Lib.hid t3
  clear c4 c5 t3 A1 A2 A3
  generalize hkl : keep.length = k at *
  have Hkl := Lib.hid hkl
  generalize hml : spoil.length = m at *
  have Hml := Lib.hid hml
  clear hkl hml
  go_enter Tryd.func19, Tryd.ntmps19
  go_wp2_with (first
    | (go_at_call 22; (with_reducible refine (HU.out _).mono ?_); rintro e w1 ⟨rfl, hd1⟩; have hx1 := hx0.up hd1; have hB1 := hB0.up hd1; have hw1 := Chain.up hw0 hd1; obtain ⟨⟨_, _, _, _, _, _, _⟩, _, _, _, _, _, _, _⟩ := hx1.sevenF)
    | (go_at_call 29; (with_reducible refine (bufByteZ w0.heap.size g _ 7 7 ?hz2 _ ?hn2 hB1 hw1.size ?hl2).mono ?_); (case hz2 => rfl); (case hn2 => omega); (case hl2 => omega); rintro e w2 ⟨rfl, hB2, hk2⟩; have hx2 := hx1.bufK hk2 Hne.out (by decide); have hw2 := hw1.trans hk2.1; obtain ⟨⟨_, _, _, _, _, _, _⟩, _, _, _, _, _, _, _⟩ := hx2.sevenF)
    | (go_at_call 32; (with_reducible refine (var_one nm ?hn3 w2 _ ?hg3).mono ?_); (case hg3 => rfl); (case hn3 => omega); rintro e w3 ⟨rfl, hd3⟩; have hx3 := hx2.up hd3; have hB3 := hB2.up hd3; have hw3 := Chain.up hw2 hd3; obtain ⟨⟨_, _, _, _, _, _, _⟩, _, _, _, _, _, _, _⟩ := hx3.sevenF)
    | (go_at_call 30; (with_reducible refine (bufStr w0.heap.size g _ (P.row nm) w3 hB3 hw3.size ?hl4 ?hs4).mono ?_); (case hl4 => (simp only [List.length_append, List.length_cons, List.length_nil]; omega)); (case hs4 => omega); rintro e w4 ⟨v4, rfl, hB4, hk4⟩; have hx4 := hx3.bufK hk4 Hne.out (by decide); have hw4 := hw3.trans hk4.1; obtain ⟨⟨_, _, _, _, _, _, _⟩, _, _, _, _, _, _, _⟩ := hx4.sevenF)
    | (go_at_call 29; (with_reducible refine (bufByteZ w0.heap.size g _ k (k : Int) ?hz5 _ ?hn5 hB4 hw4.size ?hl5).mono ?_); (case hz5 => rfl); (case hn5 => omega); (case hl5 => (simp only [List.length_append, List.length_cons, List.length_nil]; omega)); rintro e w5 ⟨rfl, hB5, hk5⟩; have hx5 := hx4.bufK hk5 Hne.out (by decide); have hw5 := hw4.trans hk5.1; obtain ⟨⟨_, _, _, _, _, _, _⟩, _, _, _, _, _, _, _⟩ := hx5.sevenF))
  have hBj : Buf w5 w0.heap.size g (l ++ ([P.byt 7] ++ P.row nm ++ [P.byt k])) := by simpa [List.append_assoc] using hB5
  have Hpl := Lib.hid (show ([P.byt 7] ++ P.row nm ++ [P.byt k]).length ≤ 30 by simp only [List.length_append, List.length_cons, List.length_nil]; omega)
  have Hpre := Lib.hid (show P.actB ⟨7, n, text, draws, ⟨(nm : Int), keep, spoil⟩⟩ = ([P.byt 7] ++ P.row nm ++ [P.byt k]) ++ P.keepB keep ++ [P.byt m] ++ P.spoilB spoil by rw [Hact.out])
  generalize [P.byt 7] ++ P.row nm ++ [P.byt k] = pre at *
  clear Hact
  have hxj := hx5
  have hwj := hw5
  clear hB0 hx0 hw0 hd1 hrl hrl2 hB1 hx1 hw1 hB2 hx2 hw2 hB3 hx3 hw3 hB4 hx4 hw4 hB5 hx5 hw5
  go_loopw [71] (fun z wr => ∃ j : Nat, j ≤ k ∧ z = .int .i64 j ∧ Buf wr w0.heap.size g (l ++ pre ++ P.keepB (keep.take j)) ∧ Bx wr w.heap.size 32 #[.int .u8 7, V64 n, S text, .slice da draws.length dc, .int .i64 (nm : Int), .slice a k kc, .slice b m mc] ∧ Below w0.heap.size w0 wr) (fun z _ => k - (intOf z).toNat)
  case atStart => exact ⟨0, by omega, rfl, by simpa [P.keepB] using hBj, hxj, hwj⟩
  case round =>
    clear hBj hxj hwj
    obtain ⟨j, hj, rfl, hB9, hx9, hw9⟩ := hrel
    have hlk : (P.keepB (keep.take j)).length ≤ 2300 := by have := P.keepB_le (keep.take j); rw [List.length_take] at this; omega
    have hlp := Hpl.out
    by_cases hlt : j < k
    · have hltl : j < keep.length := by have := Hkl.out; omega
      obtain ⟨bb, o, rfl, hbb, c0⟩ := int_at (HI.out _ hw9) j hltl
      have Hnx := Lib.hid (show P.keepB (keep.take (j + 1)) = P.keepB (keep.take j) ++ P.row keep[j].toNat by rw [List.take_succ_eq_append_getElem hltl, P.keepB_snoc])
      have hsm : P.smallB keep[j] = true := List.all_eq_true.1 C4.out _ (List.getElem_mem hltl)
      generalize keep[j] = v at *
      unfold P.smallB at hsm
      rw [decide_eq_true_eq] at hsm
      obtain ⟨x, rfl⟩ : ∃ x : Nat, v = (x : Int) := ⟨v.toNat, by omega⟩
      have hx64 : IntKind.u64.wrap (x : Int) = (x : Int) := u64_in (by omega)
      have hrx := P.row_len9 x
      rw [Int.toNat_natCast] at Hnx
      generalize P.keepB (keep.take j) = kb at *
      go_wp2_with (first
        | (go_at_call 32; (with_reducible refine (var_one x ?hn10 _ _ ?hg10).mono ?_); (case hg10 => rfl); (case hn10 => omega); rintro e w10 ⟨rfl, hd10⟩; have hx10 := hx9.up hd10; have hB10 := hB9.up hd10; have hw10 := Chain.up hw9 hd10; obtain ⟨⟨_, _, _, _, _, _, _⟩, _, _, _, _, _, _, _⟩ := hx10.sevenF)
        | (go_at_call 30; (with_reducible refine (bufStr w0.heap.size g _ (P.row x) w10 hB10 hw10.size ?hl11 ?hs11).mono ?_); (case hl11 => (simp only [List.length_append, List.length_cons, List.length_nil]; omega)); (case hs11 => omega); rintro e w11 ⟨v11, rfl, hB11, hk11⟩; have hx11 := hx10.bufK hk11 Hne.out (by decide); have hw11 := hw10.trans hk11.1; obtain ⟨⟨_, _, _, _, _, _, _⟩, _, _, _, _, _, _, _⟩ := hx11.sevenF))
      go_roundw
      case rel => exact ⟨j + 1, by omega, by go_num, by rw [Hnx.out, ← List.append_assoc]; exact hB11, hx11, hw11⟩
      case measure => simp [intOf]; omega
    · obtain rfl : j = k := by omega
      rw [List.take_of_length_le (by have := Hkl.out; omega)] at hB9 hlk
      obtain ⟨⟨_, _, _, _, _, _, _⟩, _, _, _, _, _, _, _⟩ := hx9.sevenF
      go_wp2_with (first
        | (go_at_call 29; (with_reducible refine (bufByteZ w0.heap.size g _ m (m : Int) ?hz10 _ ?hn10 hB9 hw9.size ?hl10).mono ?_); (case hz10 => rfl); (case hn10 => omega); (case hl10 => (simp only [List.length_append, List.length_cons, List.length_nil]; omega)); rintro e w10 ⟨rfl, hB10, hk10⟩; have hx10 := hx9.bufK hk10 Hne.out (by decide); have hw10 := hw9.trans hk10.1; obtain ⟨⟨_, _, _, _, _, _, _⟩, _, _, _, _, _, _, _⟩ := hx10.sevenF))
      generalize P.keepB keep = kb at *
      have hxj := hx10
      have hwj := hw10
      have hBj : Buf w10 w0.heap.size g (l ++ (pre ++ kb ++ [P.byt m])) := by simpa [List.append_assoc] using hB10
      have Hpl2 := Lib.hid (show (pre ++ kb ++ [P.byt m]).length ≤ 2400 by simp only [List.length_append, List.length_cons, List.length_nil]; omega)
      generalize pre ++ kb ++ [P.byt m] = pre2 at *
      clear hB10 hx10 hw10 hB9 hx9 hw9 hlk hlp
      go_loopw [93] (fun z wx => ∃ i : Nat, i ≤ m ∧ z = .int .i64 i ∧ Buf wx w0.heap.size g (l ++ pre2 ++ P.spoilB (spoil.take i)) ∧ Below w0.heap.size w0 wx) (fun z _ => m - (intOf z).toNat)
      case atStart => exact ⟨0, by omega, rfl, by simpa [P.spoilB] using hBj, hwj⟩
      case round =>
        clear hBj hxj hwj
        obtain ⟨i, hi, rfl, hB9, hw9⟩ := hrel
        have hlk : (P.spoilB (spoil.take i)).length ≤ 3400 := by have := P.spoilB_le (spoil.take i); rw [List.length_take] at this; omega
        have hlp := Hpl2.out
        by_cases hlt : i < m
        · have hltl : i < spoil.length := by have := Hml.out; omega
          obtain ⟨bb, o, rfl, hbb, c0, c1⟩ := spot_at (HS.out _ hw9) i hltl
          have Hnx := Lib.hid (show P.spoilB (spoil.take (i + 1)) = P.spoilB (spoil.take i) ++ (P.row spoil[i].1.toNat ++ P.be 4 spoil[i].2) by rw [List.take_succ_eq_append_getElem hltl, P.spoilB_snoc])
          have hsm : P.smallB spoil[i].1 = true := List.all_eq_true.1 C5.out _ (List.getElem_mem hltl)
          have hmk : spoil[i].2 < 4294967296 := T3.out _ (List.getElem_mem hltl)
          generalize spoil[i] = v at *
          obtain ⟨v, mk⟩ := v
          simp only at c0 c1 Hnx hsm hmk
          unfold P.smallB at hsm
          rw [decide_eq_true_eq] at hsm
          obtain ⟨x, rfl⟩ : ∃ x : Nat, v = (x : Int) := ⟨v.toNat, by omega⟩
          have hx64 : IntKind.u64.wrap (x : Int) = (x : Int) := u64_in (by omega)
          have hm64 : IntKind.u64.wrap (mk : Int) = (mk : Int) := u64_in (by omega)
          have hrx := P.row_len9 x
          have hb4 := P.be_length 4 mk
          rw [Int.toNat_natCast] at Hnx
          generalize P.spoilB (spoil.take i) = kb at *
          have hxS := Bx.fresh wr 26 #[.int .i64 x, .int .u32 mk]
          have hB10 := hB9.up ((Below.refl wr.heap.size wr).alloc (Nat.le_refl _) (.cells #[.int .i64 x, .int .u32 mk] 26))
          have hw10 : Below w0.heap.size w0 (wr.alloc (.cells #[.int .i64 x, .int .u32 mk] 26)) := hw9.alloc hw9.size _
          go_wp2_with (first
            | (go_at_call 34; (with_reducible refine (big_4 mk hmk _).mono ?_); rintro e w11 ⟨rfl, hd11⟩; have hxS11 := hxS.up hd11; have hB11 := hB10.up hd11; have hw11 := Chain.up hw10 hd11; obtain ⟨_, _, _, _⟩ := hxS11.two)
            | (go_at_call 32; (with_reducible refine (var_one x ?hn12 w11 _ ?hg12).mono ?_); (case hg12 => rfl); (case hn12 => omega); rintro e w12 ⟨rfl, hd12⟩; have hB12 := hB11.up hd12; have hw12 := Chain.up hw11 hd12)
            | (go_at_call 30; (with_reducible refine (bufStr w0.heap.size g _ (P.row x ++ P.be 4 mk) w12 hB12 hw12.size ?hl13 ?hs13).mono ?_); (case hl13 => (simp only [List.length_append, List.length_cons, List.length_nil]; omega)); (case hs13 => (simp only [List.length_append, List.length_cons, List.length_nil]; omega)); rintro e w13 ⟨v13, rfl, hB13, hk13⟩; have hw13 := hw12.trans hk13.1))
          go_roundw
          case rel => exact ⟨i + 1, by omega, by go_num, by rw [Hnx.out, ← List.append_assoc]; exact hB13, hw13⟩
          case measure => simp [intOf]; omega
        · obtain rfl : i = m := by omega
          rw [List.take_of_length_le (by have := Hml.out; omega)] at hB9
          go_wp2_with fail
          exact bodyPost_ret (v := .tuple #[]) (by simp [results, Tryd.results19, go_sem]) rfl ⟨_, rfl, by rw [Hpre.out, ← List.append_assoc]; exact hB9, hw9⟩

theorem putAct_any (w0 : World) (g : Nat) (l : List UInt8) (r : AcR) (w : World) (hr : P.rightB r.x = true) (hty : P.tyAc r.x) (ht : r.x.text.length ≤ 20000) (hat : AcAt w0 r) (hw : Below w0.heap.size w0 w) (hB : Buf w w0.heap.size g l) (hl : l.length ≤ 900000000) :
    Calls Tryd.prog 19 #[.pointer (some ⟨g, 0, none⟩), acV r.x.kind r.x.n r.x.text r.da r.x.draws.length r.dc r.x.cr.names r.a r.x.cr.keep.length r.k r.b r.x.cr.spoil.length r.m] w (PutDid w0 g (l ++ P.actB r.x)) := by
  obtain ⟨h1, _⟩ := P.right_kind hr
  obtain h | h | h | h | h | h | h : r.x.kind = 1 ∨ r.x.kind = 2 ∨ r.x.kind = 3 ∨ r.x.kind = 4 ∨ r.x.kind = 5 ∨ r.x.kind = 6 ∨ r.x.kind = 7 := by omega
  · exact put_1 w0 g l r h w hr hty ht hat hw hB hl
  · exact put_2 w0 g l r h w hr hty ht hat hw hB hl
  · exact put_3 w0 g l r h w hr hty ht hat hw hB hl
  · exact put_4 w0 g l r h w hr hty ht hat hw hB hl
  · exact put_5 w0 g l r h w hr hty ht hat hw hB hl
  · exact put_6 w0 g l r h w hr hty ht hat hw hB hl
  · exact put_7 w0 g l r h w hr hty ht hat hw hB hl
end Go.Proofs.YtnflbgindcejjaaDoor
