/- ProtoKnown: the chapter's examples. The walk of the law. -/
import Derived.Test.YtcobfoiajdbahaaDoorLProtoOnlyM
namespace Go.Proofs.YtcobfoiajdbahaaDoor
open Go.RowKit
set_option linter.unusedVariables false
set_option linter.unusedSimpArgs false
attribute [local go_sem high] eq_Call guardCall P.eqI_self
def P.ckC : P.Ca := ⟨15, 0, 0, P.noX, P.noA, [], [], 0, 0, 0⟩
def P.cdC : P.Ca := ⟨15, 0, 0, P.noX, P.noA, [], [], 1, 0, 0⟩
def P.c16C : P.Ca := ⟨16, 0, 0, P.noX, P.noA, [], [], 0, 0, 0⟩
def P.lkC : P.Ca := ⟨10, 0, 0, P.noX, P.noA, [], [], 0, 0, 0⟩
def P.lkA : P.An := ⟨P.noA, [98], 3, P.noX, false, true, true, 0, [], [], []⟩
theorem P.ck_ty : P.tyC P.ckC := ⟨by decide, by decide, by decide, P.ty_noX, P.ty_noA, by decide, by decide, by decide, by decide⟩
theorem P.cd_ty : P.tyC P.cdC := ⟨by decide, by decide, by decide, P.ty_noX, P.ty_noA, by decide, by decide, by decide, by decide⟩
theorem P.c16_ty : P.tyC P.c16C := ⟨by decide, by decide, by decide, P.ty_noX, P.ty_noA, by decide, by decide, by decide, by decide⟩
theorem P.lk_ty : P.tyC P.lkC := ⟨by decide, by decide, by decide, P.ty_noX, P.ty_noA, by decide, by decide, by decide, by decide⟩
theorem P.lka_ty : P.tyAn P.lkA := ⟨P.ty_noA, by decide, P.ty_noX, by decide, fun r h => (by cases h), fun r h => (by cases h), fun r h => (by cases h)⟩
theorem P.ck_right : P.rightC P.ckC = true := by decide
theorem P.ck_bytes : P.bytesC P.ckC = [15, 0, 0, 0, 0, 0, 0, 0, 0, 0] := by decide
theorem P.ck0 : P.readOk [] = false := by have h := P.read_cut P.ck_right P.ck_ty 0 (by rw [P.ck_bytes]; decide); rwa [List.take_zero] at h
theorem P.ck9 : P.readOk [15, 0, 0, 0, 0, 0, 0, 0, 0] = false := by have h := P.read_cut P.ck_right P.ck_ty 9 (by rw [P.ck_bytes]; decide); rw [P.ck_bytes] at h; exact h
theorem P.ck11 : P.readOk [15, 0, 0, 0, 0, 0, 0, 0, 0, 0, 0] = false := by have h := (P.read_app P.ck_right P.ck_ty [0]).1; rw [P.ck_bytes] at h; exact h
theorem P.err_tell : P.tellB 5 9 7 P.noAn 22 = [22, 5, 9, 0, 0, 0, 0, 0, 0, 0, 7] := by decide
theorem P.err_heard : P.hearOk [22, 5, 9, 0, 0, 0, 0, 0, 0, 0, 7] = true ∧ P.hearC [22, 5, 9, 0, 0, 0, 0, 0, 0, 0, 7] = P.headC (5, 9, 7) ∧ P.hearA [22, 5, 9, 0, 0, 0, 0, 0, 0, 0, 7] = P.noAn ∧ P.hearN [22, 5, 9, 0, 0, 0, 0, 0, 0, 0, 7] = 22 := by
  have h := P.hear_app 5 9 7 P.noAn 22 [] (by decide) (by decide) (by decide) P.ty_noAn (by decide) (fun h => absurd h (by decide))
  rw [P.err_tell, List.append_nil] at h
  obtain ⟨h1, h2, h3, h4⟩ := h
  have ho : P.hearOk [22, 5, 9, 0, 0, 0, 0, 0, 0, 0, 7] = true := h1.trans (by decide)
  refine ⟨ho, ?_, ?_, ?_⟩
  · unfold P.hearC; rw [if_pos ho, h2]
  · unfold P.hearA; rw [if_pos ho, h4 (by decide), if_neg (by decide)]
  · unfold P.hearN; rw [if_pos ho, h3]; rfl
theorem P.bad_heard : P.hearOk [28] = false := by
  have h := (P.hear_app 0 0 0 P.noAn 28 [] (by decide) (by decide) (by decide) P.ty_noAn (by decide) (fun h => absurd h (by decide))).1
  rw [List.append_nil] at h
  have h2 := P.hear_cut (s := P.tellB 0 0 0 P.noAn 28) (h.trans (by decide)) 1 (by rw [P.tellB_len]; omega)
  exact h2
theorem P.wrong_heard : P.hearOk [0, 16, 0, 0, 0, 0, 0, 0, 0, 0, 0] = false := by
  have h := (P.hear_app 16 0 0 P.noAn 0 [] (by decide) (by decide) (by decide) P.ty_noAn (by decide) (fun _ => by decide)).1
  rw [List.append_nil, show P.tellB 16 0 0 P.noAn 0 = [0, 16, 0, 0, 0, 0, 0, 0, 0, 0, 0] by decide] at h
  exact h.trans (by decide)
theorem P.lk_tell : P.tellB 10 0 0 P.lkA 0 = [0, 10, 0, 0, 0, 0, 0, 0, 0, 0, 0, 6, 1, 98, 3] := by decide
theorem kw_a (w : World) (hu : UsesOk w) : Calls Tryd.prog 13 #[.agg #[.int .u8 15, .int .u8 0, .int .u64 0, .int .u8 0, .int .u64 0, .int .u64 0, .int .i64 0, .int .u8 0, .int .u64 0, .int .u64 0, .string ⟨#[]⟩, .string ⟨#[]⟩, .int .u64 0, .int .u64 0, .int .i64 0]] w fun e' w' => e' = .returned (.tuple #[(.string ⟨#[15, 0, 0, 0, 0, 0, 0, 0, 0, 0]⟩), .int .i64 0]) ∧ Below w.heap.size w w' := by
  have h := write_any P.ckC P.ck_ty (by decide) (by decide) w hu
  rw [if_pos P.ck_right, P.ck_bytes] at h
  exact h
theorem kw_b (w : World) (hu : UsesOk w) : Calls Tryd.prog 13 #[.agg #[.int .u8 15, .int .u8 0, .int .u64 0, .int .u8 0, .int .u64 0, .int .u64 0, .int .i64 0, .int .u8 0, .int .u64 0, .int .u64 0, .string ⟨#[]⟩, .string ⟨#[]⟩, .int .u64 1, .int .u64 0, .int .i64 0]] w fun e' w' => e' = .returned (.tuple #[.string ⟨#[]⟩, .int .i64 1]) ∧ Below w.heap.size w w' := by
  have h := write_any P.cdC P.cd_ty (by decide) (by decide) w hu
  rw [if_neg (by decide)] at h
  exact h
theorem kw_c (w : World) (hu : UsesOk w) : Calls Tryd.prog 13 #[.agg #[.int .u8 16, .int .u8 0, .int .u64 0, .int .u8 0, .int .u64 0, .int .u64 0, .int .i64 0, .int .u8 0, .int .u64 0, .int .u64 0, .string ⟨#[]⟩, .string ⟨#[]⟩, .int .u64 0, .int .u64 0, .int .i64 0]] w fun e' w' => e' = .returned (.tuple #[.string ⟨#[]⟩, .int .i64 1]) ∧ Below w.heap.size w w' := by
  have h := write_any P.c16C P.c16_ty (by decide) (by decide) w hu
  rw [if_neg (by decide)] at h
  exact h
theorem kr_0 (w : World) (hu : UsesOk w) : Calls Tryd.prog 17 #[.string ⟨#[]⟩] w fun e' w' => e' = .returned (.tuple #[.agg #[.int .u8 0, .int .u8 0, .int .u64 0, .int .u8 0, .int .u64 0, .int .u64 0, .int .i64 0, .int .u8 0, .int .u64 0, .int .u64 0, .string ⟨#[]⟩, .string ⟨#[]⟩, .int .u64 0, .int .u64 0, .int .i64 0], .bool false]) ∧ Below w.heap.size w w' := by
  exact read_no2 (s := []) (by decide) P.ck0 w hu
theorem kr_9 (w : World) (hu : UsesOk w) : Calls Tryd.prog 17 #[(.string ⟨#[15, 0, 0, 0, 0, 0, 0, 0, 0]⟩)] w fun e' w' => e' = .returned (.tuple #[.agg #[.int .u8 0, .int .u8 0, .int .u64 0, .int .u8 0, .int .u64 0, .int .u64 0, .int .i64 0, .int .u8 0, .int .u64 0, .int .u64 0, .string ⟨#[]⟩, .string ⟨#[]⟩, .int .u64 0, .int .u64 0, .int .i64 0], .bool false]) ∧ Below w.heap.size w w' := by
  exact read_no2 (s := [15, 0, 0, 0, 0, 0, 0, 0, 0]) (by decide) P.ck9 w hu
theorem kr_11 (w : World) (hu : UsesOk w) : Calls Tryd.prog 17 #[(.string ⟨#[15, 0, 0, 0, 0, 0, 0, 0, 0, 0, 0]⟩)] w fun e' w' => e' = .returned (.tuple #[.agg #[.int .u8 0, .int .u8 0, .int .u64 0, .int .u8 0, .int .u64 0, .int .u64 0, .int .i64 0, .int .u8 0, .int .u64 0, .int .u64 0, .string ⟨#[]⟩, .string ⟨#[]⟩, .int .u64 0, .int .u64 0, .int .i64 0], .bool false]) ∧ Below w.heap.size w w' := by
  exact read_no2 (s := [15, 0, 0, 0, 0, 0, 0, 0, 0, 0, 0]) (by decide) P.ck11 w hu
theorem kt_e (w : World) : Calls Tryd.prog 21 #[askV, noAnV, .int .i64 22] w fun e' w' => e' = .returned (.string ⟨#[22, 5, 9, 0, 0, 0, 0, 0, 0, 0, 7]⟩) ∧ Below w.heap.size w w' := by
  have h := tell_err P.askC P.noAn none 0 none 0 none 0 22 P.ask_ty (by decide) w
  rw [show P.tellB P.askC.op P.askC.client P.askC.number P.noAn 22 = [22, 5, 9, 0, 0, 0, 0, 0, 0, 0, 7] from P.err_tell] at h
  exact h
theorem kt_l (w : World) : Calls Tryd.prog 21 #[.agg #[.int .u8 10, .int .u8 0, .int .u64 0, .int .u8 0, .int .u64 0, .int .u64 0, .int .i64 0, .int .u8 0, .int .u64 0, .int .u64 0, .string ⟨#[]⟩, .string ⟨#[]⟩, .int .u64 0, .int .u64 0, .int .i64 0], .agg #[.int .u8 0, .int .u64 0, .int .u64 0, .string ⟨#[98]⟩, .int .u64 3, .int .u8 0, .int .u64 0, .int .u64 0, .int .i64 0, .bool false, .bool true, .bool true, .int .u64 0, .slice none 0 0, .slice none 0 0, .slice none 0 0], .int .i64 0] w fun e' w' => e' = .returned (.string ⟨#[0, 10, 0, 0, 0, 0, 0, 0, 0, 0, 0, 6, 1, 98, 3]⟩) ∧ Below w.heap.size w w' := by
  have h := tell_look P.lkC P.lkA none 0 none 0 none 0 P.lk_ty P.lka_ty (by decide) (by decide) w
  rw [show P.tellB P.lkC.op P.lkC.client P.lkC.number P.lkA 0 = [0, 10, 0, 0, 0, 0, 0, 0, 0, 0, 0, 6, 1, 98, 3] from P.lk_tell] at h
  exact h
theorem k_bad (w : World) : Calls Tryd.prog 29 #[] w fun e' w' => e' = .returned (.string ⟨#[28]⟩) ∧ Below w.heap.size w w' := by
  exact bad_any w
theorem kh_e (w : World) : Calls Tryd.prog 23 #[(.string ⟨#[22, 5, 9, 0, 0, 0, 0, 0, 0, 0, 7]⟩)] w fun e' w' => ∃ r rc v vc p pc, e' = .returned (.tuple #[.agg #[.int .u8 5, .int .u8 9, .int .u64 7, .int .u8 0, .int .u64 0, .int .u64 0, .int .i64 0, .int .u8 0, .int .u64 0, .int .u64 0, .string ⟨#[]⟩, .string ⟨#[]⟩, .int .u64 0, .int .u64 0, .int .i64 0], .agg #[.int .u8 0, .int .u64 0, .int .u64 0, .string ⟨#[]⟩, .int .u64 0, .int .u8 0, .int .u64 0, .int .u64 0, .int .i64 0, .bool false, .bool false, .bool false, .int .u64 0, .slice r 0 rc, .slice v 0 vc, .slice p 0 pc], .int .i64 22, .bool true]) ∧ Below w.heap.size w w' := by
  obtain ⟨h1, h2, h3, h4⟩ := P.err_heard
  refine (hear_any [22, 5, 9, 0, 0, 0, 0, 0, 0, 0, 7] (by decide) w).mono fun e w' h => ?_
  obtain ⟨r, rc, v, vc, p, pc, h, -, hb⟩ := h
  rw [h1, h2, h3, h4] at h
  exact ⟨r, rc, v, vc, p, pc, h, hb⟩
theorem kh_b (w : World) : Calls Tryd.prog 23 #[.string ⟨#[28]⟩] w fun e' w' => ∃ r rc v vc p pc, e' = .returned (.tuple #[.agg #[.int .u8 0, .int .u8 0, .int .u64 0, .int .u8 0, .int .u64 0, .int .u64 0, .int .i64 0, .int .u8 0, .int .u64 0, .int .u64 0, .string ⟨#[]⟩, .string ⟨#[]⟩, .int .u64 0, .int .u64 0, .int .i64 0], .agg #[.int .u8 0, .int .u64 0, .int .u64 0, .string ⟨#[]⟩, .int .u64 0, .int .u8 0, .int .u64 0, .int .u64 0, .int .i64 0, .bool false, .bool false, .bool false, .int .u64 0, .slice r 0 rc, .slice v 0 vc, .slice p 0 pc], .int .i64 0, .bool false]) ∧ Below w.heap.size w w' := hear_not (s := [28]) (by decide) P.bad_heard w
theorem kh_w (w : World) : Calls Tryd.prog 23 #[(.string ⟨#[0, 16, 0, 0, 0, 0, 0, 0, 0, 0, 0]⟩)] w fun e' w' => ∃ r rc v vc p pc, e' = .returned (.tuple #[.agg #[.int .u8 0, .int .u8 0, .int .u64 0, .int .u8 0, .int .u64 0, .int .u64 0, .int .i64 0, .int .u8 0, .int .u64 0, .int .u64 0, .string ⟨#[]⟩, .string ⟨#[]⟩, .int .u64 0, .int .u64 0, .int .i64 0], .agg #[.int .u8 0, .int .u64 0, .int .u64 0, .string ⟨#[]⟩, .int .u64 0, .int .u8 0, .int .u64 0, .int .u64 0, .int .i64 0, .bool false, .bool false, .bool false, .int .u64 0, .slice r 0 rc, .slice v 0 vc, .slice p 0 pc], .int .i64 0, .bool false]) ∧ Below w.heap.size w w' := hear_not (s := [0, 16, 0, 0, 0, 0, 0, 0, 0, 0, 0]) (by decide) P.wrong_heard w
set_option maxRecDepth 100000 in
set_option maxHeartbeats 16000000 in
theorem law_known (w : World) (hu : UsesOk w) : Calls Tryd.prog 9 #[] w fun e' w' => e' = .returned (.bool true) ∧ Below w.heap.size w w' := by
  have hc0 := Below.refl w.heap.size w
  have hmin : (min (10 : Int) 9) = 9 := by decide
  have hx9 : (ByteArray.mk #[15, 0, 0, 0, 0, 0, 0, 0, 0, 0]).extract 0 9 = ⟨#[15, 0, 0, 0, 0, 0, 0, 0, 0]⟩ := by decide
  have hx11 : ByteArray.mk #[15, 0, 0, 0, 0, 0, 0, 0, 0, 0] ++ ByteArray.mk #[0] = ⟨#[15, 0, 0, 0, 0, 0, 0, 0, 0, 0, 0]⟩ := by decide
  go_enter Tryd.func9, Tryd.ntmps9
  go_upto_region 11 with (first
    | (go_at_call 13; (with_reducible refine (kw_a _ (hu.up hc0)).mono ?_); rintro e' w1 ⟨rfl, hb1⟩; have hc1 := Chain.up hc0 hb1)
    | (go_at_call 13; (with_reducible refine (kw_b _ (hu.up hc1)).mono ?_); rintro e' w2 ⟨rfl, hb2⟩; have hc2 := Chain.up hc1 hb2)
    | (go_at_call 13; (with_reducible refine (kw_c _ (hu.up hc2)).mono ?_); rintro e' w3 ⟨rfl, hb3⟩; have hc3 := Chain.up hc2 hb3)
    | (go_at_call 17; (with_reducible refine (kr_0 _ (hu.up hc3)).mono ?_); rintro e' x4 ⟨rfl, hb4⟩; have hc4 := Chain.up hc3 hb4; have y4 := Bx.fresh x4 28 #[.int .u8 0, .int .u8 0, .int .u64 0, .int .u8 0, .int .u64 0, .int .u64 0, .int .i64 0, .int .u8 0, .int .u64 0, .int .u64 0, .string ⟨#[]⟩, .string ⟨#[]⟩, .int .u64 0, .int .u64 0, .int .i64 0]; have hB4 := (Below.refl x4.heap.size x4).alloc (Nat.le_refl _) (.cells #[.int .u8 0, .int .u8 0, .int .u64 0, .int .u8 0, .int .u64 0, .int .u64 0, .int .i64 0, .int .u8 0, .int .u64 0, .int .u64 0, .string ⟨#[]⟩, .string ⟨#[]⟩, .int .u64 0, .int .u64 0, .int .i64 0] 28))
    | (refine wpList_stB (by rfl) _ _ _ (by rfl) y4 _ _ (by rfl) (by rfl) 15 15 (by rfl) (by rfl) (by decide) infoCall (by rfl) (by rfl) ?_; intro t4 hz' hst4; have yf4 : Bx t4 x4.heap.size 28 #[.int .u8 0, .int .u8 0, .int .u64 0, .int .u8 0, .int .u64 0, .int .u64 0, .int .i64 0, .int .u8 0, .int .u64 0, .int .u64 0, .string ⟨#[]⟩, .string ⟨#[]⟩, .int .u64 0, .int .u64 0, .int .i64 0] := hz'; clear hz'; have hd4 := Chain.up hc4 (hB4.trans (hst4.below (Nat.le_refl _) hB4.size)); skip)
    | (go_at_call 17; (with_reducible refine (kr_9 _ (hu.up hd4)).mono ?_); rintro e' x5 ⟨rfl, hb5⟩; have hc5 := Chain.up hd4 hb5; have y5 := Bx.fresh x5 28 #[.int .u8 0, .int .u8 0, .int .u64 0, .int .u8 0, .int .u64 0, .int .u64 0, .int .i64 0, .int .u8 0, .int .u64 0, .int .u64 0, .string ⟨#[]⟩, .string ⟨#[]⟩, .int .u64 0, .int .u64 0, .int .i64 0]; have hB5 := (Below.refl x5.heap.size x5).alloc (Nat.le_refl _) (.cells #[.int .u8 0, .int .u8 0, .int .u64 0, .int .u8 0, .int .u64 0, .int .u64 0, .int .i64 0, .int .u8 0, .int .u64 0, .int .u64 0, .string ⟨#[]⟩, .string ⟨#[]⟩, .int .u64 0, .int .u64 0, .int .i64 0] 28))
    | (refine wpList_stB (by rfl) _ _ _ (by rfl) y5 _ _ (by rfl) (by rfl) 15 15 (by rfl) (by rfl) (by decide) infoCall (by rfl) (by rfl) ?_; intro t5 hz' hst5; have yf5 : Bx t5 x5.heap.size 28 #[.int .u8 0, .int .u8 0, .int .u64 0, .int .u8 0, .int .u64 0, .int .u64 0, .int .i64 0, .int .u8 0, .int .u64 0, .int .u64 0, .string ⟨#[]⟩, .string ⟨#[]⟩, .int .u64 0, .int .u64 0, .int .i64 0] := hz'; clear hz'; have hd5 := Chain.up hc5 (hB5.trans (hst5.below (Nat.le_refl _) hB5.size)); skip)
    | (go_at_call 17; (with_reducible refine (kr_11 _ (hu.up hd5)).mono ?_); rintro e' x6 ⟨rfl, hb6⟩; have hc6 := Chain.up hd5 hb6; have y6 := Bx.fresh x6 28 #[.int .u8 0, .int .u8 0, .int .u64 0, .int .u8 0, .int .u64 0, .int .u64 0, .int .i64 0, .int .u8 0, .int .u64 0, .int .u64 0, .string ⟨#[]⟩, .string ⟨#[]⟩, .int .u64 0, .int .u64 0, .int .i64 0]; have hB6 := (Below.refl x6.heap.size x6).alloc (Nat.le_refl _) (.cells #[.int .u8 0, .int .u8 0, .int .u64 0, .int .u8 0, .int .u64 0, .int .u64 0, .int .i64 0, .int .u8 0, .int .u64 0, .int .u64 0, .string ⟨#[]⟩, .string ⟨#[]⟩, .int .u64 0, .int .u64 0, .int .i64 0] 28))
    | (refine wpList_stB (by rfl) _ _ _ (by rfl) y6 _ _ (by rfl) (by rfl) 15 15 (by rfl) (by rfl) (by decide) infoCall (by rfl) (by rfl) ?_; intro t6 hz' hst6; have yf6 : Bx t6 x6.heap.size 28 #[.int .u8 0, .int .u8 0, .int .u64 0, .int .u8 0, .int .u64 0, .int .u64 0, .int .i64 0, .int .u8 0, .int .u64 0, .int .u64 0, .string ⟨#[]⟩, .string ⟨#[]⟩, .int .u64 0, .int .u64 0, .int .i64 0] := hz'; clear hz'; have hd6 := Chain.up hc6 (hB6.trans (hst6.below (Nat.le_refl _) hB6.size)); skip)
    | (go_at_call 28; (with_reducible refine (ask_any _).mono ?_); rintro e' w7 ⟨rfl, hb7⟩; have hc7 := Chain.up hd6 hb7)
    | (go_at_call 21; (with_reducible refine (kt_e _).mono ?_); rintro e' w8 ⟨rfl, hb8⟩; have hc8 := Chain.up hc7 hb8)
    | (go_at_call 23; (with_reducible refine (kh_e _).mono ?_); rintro e' xa ⟨r1, ra, v1, va, p1, pa, rfl, hba⟩; have hca := Chain.up hc8 hba; obtain ⟨ya, za, hBa⟩ := two_bx xa #[.int .u8 0, .int .u8 0, .int .u64 0, .int .u8 0, .int .u64 0, .int .u64 0, .int .i64 0, .int .u8 0, .int .u64 0, .int .u64 0, .string ⟨#[]⟩, .string ⟨#[]⟩, .int .u64 0, .int .u64 0, .int .i64 0] #[.int .u8 0, .int .u64 0, .int .u64 0, .string ⟨#[]⟩, .int .u64 0, .int .u8 0, .int .u64 0, .int .u64 0, .int .i64 0, .bool false, .bool false, .bool false, .int .u64 0, .slice none 0 0, .slice none 0 0, .slice none 0 0] 28 36)
    | (refine wpList_stB (by rfl) _ _ _ (by rfl) ya _ _ (by rfl) (by rfl) 15 15 (by rfl) (by rfl) (by decide) infoCall (by rfl) (by rfl) ?_; intro ua hz' hsua; have yya : Bx ua xa.heap.size 28 #[.int .u8 5, .int .u8 9, .int .u64 7, .int .u8 0, .int .u64 0, .int .u64 0, .int .i64 0, .int .u8 0, .int .u64 0, .int .u64 0, .string ⟨#[]⟩, .string ⟨#[]⟩, .int .u64 0, .int .u64 0, .int .i64 0] := hz'; clear hz'; have zza := za.but hsua (by omega); skip)
    | (refine wpList_stB (by rfl) _ _ _ (by rfl) zza _ _ (by rfl) (by rfl) 16 16 (by rfl) (by rfl) (by decide) infoAns (by rfl) (by rfl) ?_; intro ta hz' hsta; have zfa : Bx ta (xa.heap.size + 1) 36 #[.int .u8 0, .int .u64 0, .int .u64 0, .string ⟨#[]⟩, .int .u64 0, .int .u8 0, .int .u64 0, .int .u64 0, .int .i64 0, .bool false, .bool false, .bool false, .int .u64 0, .slice r1 0 ra, .slice v1 0 va, .slice p1 0 pa] := hz'; clear hz'; have yfa := yya.but hsta (by omega); have hda := Chain.up hca ((hBa.trans (hsua.below (Nat.le_refl _) hBa.size)).trans (hsta.below (Nat.le_succ _) (by have := hBa.size; have := hsua.size; omega))); skip)
    | (go_at_call 29; (with_reducible refine (k_bad _).mono ?_); rintro e' w9 ⟨rfl, hb9⟩; have hc9 := Chain.up hda hb9)
    | (go_at_call 23; (with_reducible refine (kh_b _).mono ?_); rintro e' xb ⟨r2, rb, v2, vb, p2, pb, rfl, hbb⟩; have hcb := Chain.up hc9 hbb; obtain ⟨yb, zb, hBb⟩ := two_bx xb #[.int .u8 0, .int .u8 0, .int .u64 0, .int .u8 0, .int .u64 0, .int .u64 0, .int .i64 0, .int .u8 0, .int .u64 0, .int .u64 0, .string ⟨#[]⟩, .string ⟨#[]⟩, .int .u64 0, .int .u64 0, .int .i64 0] #[.int .u8 0, .int .u64 0, .int .u64 0, .string ⟨#[]⟩, .int .u64 0, .int .u8 0, .int .u64 0, .int .u64 0, .int .i64 0, .bool false, .bool false, .bool false, .int .u64 0, .slice none 0 0, .slice none 0 0, .slice none 0 0] 28 36)
    | (refine wpList_stB (by rfl) _ _ _ (by rfl) yb _ _ (by rfl) (by rfl) 15 15 (by rfl) (by rfl) (by decide) infoCall (by rfl) (by rfl) ?_; intro ub hz' hsub; have yyb : Bx ub xb.heap.size 28 #[.int .u8 0, .int .u8 0, .int .u64 0, .int .u8 0, .int .u64 0, .int .u64 0, .int .i64 0, .int .u8 0, .int .u64 0, .int .u64 0, .string ⟨#[]⟩, .string ⟨#[]⟩, .int .u64 0, .int .u64 0, .int .i64 0] := hz'; clear hz'; have zzb := zb.but hsub (by omega); skip)
    | (refine wpList_stB (by rfl) _ _ _ (by rfl) zzb _ _ (by rfl) (by rfl) 16 16 (by rfl) (by rfl) (by decide) infoAns (by rfl) (by rfl) ?_; intro tb hz' hstb; have zfb : Bx tb (xb.heap.size + 1) 36 #[.int .u8 0, .int .u64 0, .int .u64 0, .string ⟨#[]⟩, .int .u64 0, .int .u8 0, .int .u64 0, .int .u64 0, .int .i64 0, .bool false, .bool false, .bool false, .int .u64 0, .slice r2 0 rb, .slice v2 0 vb, .slice p2 0 pb] := hz'; clear hz'; have yfb := yyb.but hstb (by omega); have hdb := Chain.up hcb ((hBb.trans (hsub.below (Nat.le_refl _) hBb.size)).trans (hstb.below (Nat.le_succ _) (by have := hBb.size; have := hsub.size; omega))); skip)
    | (go_at_call 23; (with_reducible refine (kh_w _).mono ?_); rintro e' xc ⟨r3, rd, v3, vd, p3, pd, rfl, hbc⟩; have hcc := Chain.up hdb hbc; obtain ⟨yc, zc, hBc⟩ := two_bx xc #[.int .u8 0, .int .u8 0, .int .u64 0, .int .u8 0, .int .u64 0, .int .u64 0, .int .i64 0, .int .u8 0, .int .u64 0, .int .u64 0, .string ⟨#[]⟩, .string ⟨#[]⟩, .int .u64 0, .int .u64 0, .int .i64 0] #[.int .u8 0, .int .u64 0, .int .u64 0, .string ⟨#[]⟩, .int .u64 0, .int .u8 0, .int .u64 0, .int .u64 0, .int .i64 0, .bool false, .bool false, .bool false, .int .u64 0, .slice none 0 0, .slice none 0 0, .slice none 0 0] 28 36)
    | (refine wpList_stB (by rfl) _ _ _ (by rfl) yc _ _ (by rfl) (by rfl) 15 15 (by rfl) (by rfl) (by decide) infoCall (by rfl) (by rfl) ?_; intro uc hz' hsuc; have yyc : Bx uc xc.heap.size 28 #[.int .u8 0, .int .u8 0, .int .u64 0, .int .u8 0, .int .u64 0, .int .u64 0, .int .i64 0, .int .u8 0, .int .u64 0, .int .u64 0, .string ⟨#[]⟩, .string ⟨#[]⟩, .int .u64 0, .int .u64 0, .int .i64 0] := hz'; clear hz'; have zzc := zc.but hsuc (by omega); skip)
    | (refine wpList_stB (by rfl) _ _ _ (by rfl) zzc _ _ (by rfl) (by rfl) 16 16 (by rfl) (by rfl) (by decide) infoAns (by rfl) (by rfl) ?_; intro tc hz' hstc; have zfc : Bx tc (xc.heap.size + 1) 36 #[.int .u8 0, .int .u64 0, .int .u64 0, .string ⟨#[]⟩, .int .u64 0, .int .u8 0, .int .u64 0, .int .u64 0, .int .i64 0, .bool false, .bool false, .bool false, .int .u64 0, .slice r3 0 rd, .slice v3 0 vd, .slice p3 0 pd] := hz'; clear hz'; have yfc := yyc.but hstc (by omega); have hdc := Chain.up hcc ((hBc.trans (hsuc.below (Nat.le_refl _) hBc.size)).trans (hstc.below (Nat.le_succ _) (by have := hBc.size; have := hsuc.size; omega))); skip)
    | (go_at_call 21; (with_reducible refine (kt_l _).mono ?_); rintro e' wd ⟨rfl, hbd⟩; have hcd := Chain.up hdc hbd))
  have Bb := (hBb.trans (hsub.below (Nat.le_refl _) hBb.size)).trans (hstb.below (Nat.le_succ _) (by have := hBb.size; have := hsub.size; omega))
  have Bc := (hBc.trans (hsuc.below (Nat.le_refl _) hBc.size)).trans (hstc.below (Nat.le_succ _) (by have := hBc.size; have := hsuc.size; omega))
  have hAll := Chain.up (Chain.up (Chain.up (Chain.up (Chain.up hb9 hbb) Bb) hbc) Bc) hbd
  have y13 := yfa.up hAll
  clear hAll Bb Bc yfa zfa yfb zfb yfc zfc
  go_wp2_with (first
    | (go_at_call 28; (with_reducible refine (ask_any _).mono ?_); rintro e' w21 ⟨rfl, hb21⟩; have hc21 := Chain.up hcd hb21; have y21 := y13.up hb21)
    | (go_at_call 21; (with_reducible refine (kt_e _).mono ?_); rintro e' w22 ⟨rfl, hb22⟩; have hc22 := Chain.up hc21 hb22; have y22 := y21.up hb22; obtain ⟨⟨-, -, c2, -⟩, -⟩ := y22.cells15)
    | (go_at_call 29; (with_reducible refine (k_bad _).mono ?_); rintro e' w23 ⟨rfl, hb23⟩; have hc23 := Chain.up hc22 hb23)
    | (go_at_call 12; (with_reducible refine (awake_any _ (hu.up hc23)).mono ?_); rintro e' w24 ⟨rfl, hb24⟩; have hc24 := Chain.up hc23 hb24))
  go_ret
  exact ⟨rfl, hc24⟩
end Go.Proofs.YtcobfoiajdbahaaDoor
