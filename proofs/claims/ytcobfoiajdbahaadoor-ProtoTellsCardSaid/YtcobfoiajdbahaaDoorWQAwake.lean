/- The walks of the law of layer 26: some, ask, awake. -/
import Derived.Test.YtcobfoiajdbahaaDoorWQHear
import Derived.Test.YtcobfoiajdbahaaDoorWQTold
namespace Go.Proofs.YtcobfoiajdbahaaDoor
open Go.RowKit
set_option linter.unusedVariables false
set_option linter.unusedSimpArgs false
theorem guardAd : Tryd.prog.eqGuardType Tryd.prog.depth 24 = false := by kernel_rfl
set_option maxRecDepth 100000 in
set_option maxHeartbeats 4000000 in
theorem eq_Ad (a0 b0 a1 b1 a2 b2 : Int) (w : World) : (Op.equalIn 10000 24 (.agg #[.int .u8 a0, .int .u64 a1, .int .u64 a2]) (.agg #[.int .u8 b0, .int .u64 b1, .int .u64 b2])).run Tryd.prog w = .ok (P.eqI [a0, a1, a2] [b0, b1, b2] [] []) w := by
  have hf := fieldsAdL
  rw [run_equalIn_struct w 9999 _ _ _ fieldsAd stoodAd]
  have hl := congrArg List.length hf
  generalize (Tryd.prog.fieldsOf 24).toList = fs at hf hl
  match fs, (by simpa using hl : fs.length = 3) with
  | [f0, f1, f2], _ =>
    simp only [List.map_cons, List.map_nil, List.cons.injEq, Prod.mk.injEq, and_true, beq_eq_false_iff_ne] at hf
    obtain ⟨⟨n0, t0, o0⟩, ⟨n1, t1, o1⟩, n2, t2, o2⟩ := hf
    simp only [Op.eqFields, t0, o0, t1, o1, t2, o2]
    simp [go_sem, part, n0, n1, n2]
    simp only [ite_okQ]
    congr 1
    unfold P.eqI
    rw [Bool.eq_iff_iff]
    simp only [Bool.and_eq_true, decide_eq_true_eq, List.cons.injEq, and_true]
    try (constructor <;> (intro h; simp [h]))
theorem structAd : Tryd.prog.underlying 24 = some (.struct (Tryd.prog.fieldsOf 24)) := by kernel_rfl
attribute [local go_sem high] eq_Call guardCall eq_Ad guardAd
def P.askC : P.Ca := ⟨5, 9, 7, P.noX, ⟨4, 0, 16909060⟩, [97], [], 10, 0, 0⟩
def P.someA : P.An := ⟨⟨4, 0, 16909060⟩, [97], 15, P.noX, false, false, false, 0, [], [], []⟩
theorem P.ask_right : P.rightC P.askC = true := by decide
theorem P.ask_ty : P.tyC P.askC := ⟨by decide, by decide, by decide, P.ty_noX, ⟨by decide, by decide, by decide⟩, by decide, by decide, by decide, by decide⟩
theorem P.ask_bytes : P.bytesC P.askC = [5, 9, 0, 0, 0, 0, 0, 0, 0, 7, 4, 1, 2, 3, 4, 1, 97, 10] := by decide
theorem P.some_ty : P.tyAn P.someA := ⟨⟨by decide, by decide, by decide⟩, by decide, P.ty_noX, by decide, fun r h => (by cases h), fun r h => (by cases h), fun r h => (by cases h)⟩
theorem P.ask_tell : P.tellB 5 9 7 P.someA 0 = [0, 5, 9, 0, 0, 0, 0, 0, 0, 0, 7, 4, 1, 2, 3, 4, 1, 97, 15] := by decide
theorem told_ok57 (op : Nat) (h : 5 ≤ op ∧ op ≤ 7) : ToldOk op := fun g q w hs hx =>
  (told_lease g q op h w (by omega) hx).mono fun e w' h' => ⟨none, 0, none, 0, none, 0, h'.1, OwnAns.none _ _ _ (by unfold P.qTold; rw [if_pos h]; rfl) (by unfold P.qTold; rw [if_pos h]; rfl) (by unfold P.qTold; rw [if_pos h]; rfl), h'.2⟩
abbrev askV : Value := .agg #[.int .u8 5, .int .u8 9, .int .u64 7, .int .u8 0, .int .u64 0, .int .u64 0, .int .i64 0, .int .u8 4, .int .u64 0, .int .u64 16909060, .string ⟨#[97]⟩, .string ⟨#[]⟩, .int .u64 10, .int .u64 0, .int .i64 0]
abbrev someV : Value := .agg #[.int .u8 4, .int .u64 0, .int .u64 16909060, .string ⟨#[97]⟩, .int .u64 15, .int .u8 0, .int .u64 0, .int .u64 0, .int .i64 0, .bool false, .bool false, .bool false, .int .u64 0, .slice none 0 0, .slice none 0 0, .slice none 0 0]
theorem write_ask (w : World) (hu : UsesOk w) : Calls Tryd.prog 13 #[askV] w fun e w' => e = .returned (.tuple #[.string ⟨#[5, 9, 0, 0, 0, 0, 0, 0, 0, 7, 4, 1, 2, 3, 4, 1, 97, 10]⟩, .int .i64 0]) ∧ Below w.heap.size w w' := by
  have h := write_any P.askC P.ask_ty (by decide) (by decide) w hu
  rw [if_pos P.ask_right, P.ask_bytes] at h
  exact h
theorem read_ask (w : World) (hu : UsesOk w) : Calls Tryd.prog 17 #[.string ⟨#[5, 9, 0, 0, 0, 0, 0, 0, 0, 7, 4, 1, 2, 3, 4, 1, 97, 10]⟩] w fun e w' => e = .returned (.tuple #[askV, .bool true]) ∧ Below w.heap.size w w' := by
  have h := read_any [5, 9, 0, 0, 0, 0, 0, 0, 0, 7, 4, 1, 2, 3, 4, 1, 97, 10] (by decide) w hu
  have hr := P.read_right P.ask_right P.ask_ty
  rw [P.ask_bytes] at hr
  rw [hr.1, hr.2] at h
  exact h
theorem tell_ask (w : World) : Calls Tryd.prog 21 #[askV, someV, .int .i64 0] w fun e w' => e = .returned (.string ⟨#[0, 5, 9, 0, 0, 0, 0, 0, 0, 0, 7, 4, 1, 2, 3, 4, 1, 97, 15]⟩) ∧ Below w.heap.size w w' := by
  have h := tell_lease P.askC P.someA none 0 none 0 none 0 P.ask_ty P.some_ty (by decide) (by decide) w
  rw [show P.tellB P.askC.op P.askC.client P.askC.number P.someA 0 = [0, 5, 9, 0, 0, 0, 0, 0, 0, 0, 7, 4, 1, 2, 3, 4, 1, 97, 15] from P.ask_tell] at h
  exact h
theorem P.ask_heard : P.hearOk [0, 5, 9, 0, 0, 0, 0, 0, 0, 0, 7, 4, 1, 2, 3, 4, 1, 97, 15] = true ∧ P.hearC [0, 5, 9, 0, 0, 0, 0, 0, 0, 0, 7, 4, 1, 2, 3, 4, 1, 97, 15] = P.headC (5, 9, 7) ∧ P.hearA [0, 5, 9, 0, 0, 0, 0, 0, 0, 0, 7, 4, 1, 2, 3, 4, 1, 97, 15] = P.someA ∧ P.hearN [0, 5, 9, 0, 0, 0, 0, 0, 0, 0, 7, 4, 1, 2, 3, 4, 1, 97, 15] = 0 ∧ (P.hearE [0, 5, 9, 0, 0, 0, 0, 0, 0, 0, 7, 4, 1, 2, 3, 4, 1, 97, 15]).1 = 0 ∧ (P.hearH [0, 5, 9, 0, 0, 0, 0, 0, 0, 0, 7, 4, 1, 2, 3, 4, 1, 97, 15]).1.1 = 5 := by
  have h := P.hear_app 5 9 7 P.someA 0 [] (by decide) (by decide) (by decide) P.some_ty (by decide) (fun _ => by decide)
  rw [P.ask_tell, List.append_nil] at h
  obtain ⟨h1, h2, h3, h4⟩ := h
  have ho : P.hearOk [0, 5, 9, 0, 0, 0, 0, 0, 0, 0, 7, 4, 1, 2, 3, 4, 1, 97, 15] = true := h1.trans (by decide)
  refine ⟨ho, ?_, ?_, ?_, h3, by rw [h2]⟩
  · unfold P.hearC; rw [if_pos ho, h2]
  · unfold P.hearA; rw [if_pos ho, h4 (by decide), if_pos rfl]; decide
  · unfold P.hearN; rw [if_pos ho, h3]; rfl
theorem hear_ask (w : World) : Calls Tryd.prog 23 #[.string ⟨#[0, 5, 9, 0, 0, 0, 0, 0, 0, 0, 7, 4, 1, 2, 3, 4, 1, 97, 15]⟩] w fun e w' => ∃ r rc v vc p pc, e = .returned (.tuple #[.agg #[.int .u8 5, .int .u8 9, .int .u64 7, .int .u8 0, .int .u64 0, .int .u64 0, .int .i64 0, .int .u8 0, .int .u64 0, .int .u64 0, .string ⟨#[]⟩, .string ⟨#[]⟩, .int .u64 0, .int .u64 0, .int .i64 0], .agg #[.int .u8 4, .int .u64 0, .int .u64 16909060, .string ⟨#[97]⟩, .int .u64 15, .int .u8 0, .int .u64 0, .int .u64 0, .int .i64 0, .bool false, .bool false, .bool false, .int .u64 0, .slice r 0 rc, .slice v 0 vc, .slice p 0 pc], .int .i64 0, .bool true]) ∧ Below w.heap.size w w' := by
  obtain ⟨h1, h2, h3, h4, h5, h6⟩ := P.ask_heard
  refine (hear_ok [0, 5, 9, 0, 0, 0, 0, 0, 0, 0, 7, 4, 1, 2, 3, 4, 1, 97, 15] (by decide) h5 (by rw [h6]; exact told_ok57 5 (by decide)) w).mono fun e w' h => ?_
  obtain ⟨r, rc, v, vc, p, pc, h, -, hb⟩ := h
  rw [h1, h2, h3, h4] at h
  exact ⟨r, rc, v, vc, p, pc, h, hb⟩
set_option maxRecDepth 100000 in
theorem some26_any (w : World) : Calls Tryd.prog 30 #[] w fun e w' => e = .returned (.agg #[.int .u8 4, .int .u64 0, .int .u64 16909060]) ∧ Below w.heap.size w w' := by
  have h0 := Bx.fresh w 24 #[.int .u8 0, .int .u64 0, .int .u64 0]
  have hA := (Below.refl w.heap.size w).alloc (Nat.le_refl _) (.cells #[.int .u8 0, .int .u64 0, .int .u64 0] 24)
  go_enter Tryd.func30, Tryd.ntmps30
  go_wp2_with (refine wpList_stB (by rfl) _ _ _ (by rfl) h0 _ _ (by rfl) (by rfl) 3 3 (by rfl) (by rfl) (by decide) infoAd (by rfl) (by rfl) ?_; intro w1 hz' hb1; have h1 : Bx w1 w.heap.size 24 #[.int .u8 4, .int .u64 0, .int .u64 16909060] := hz'; clear hz')
  exact bodyPost_ret (results_box rfl (by rfl) (loadB h1 structAd infoAd rfl)) rfl ⟨rfl, hA.trans (hb1.below (Nat.le_refl _) hA.size)⟩
set_option maxRecDepth 100000 in
theorem ask_any (w : World) : Calls Tryd.prog 28 #[] w fun e w' => e = .returned askV ∧ Below w.heap.size w w' := by
  have h0 := Bx.fresh w 28 #[.int .u8 0, .int .u8 0, .int .u64 0, .int .u8 0, .int .u64 0, .int .u64 0, .int .i64 0, .int .u8 0, .int .u64 0, .int .u64 0, .string ⟨#[]⟩, .string ⟨#[]⟩, .int .u64 0, .int .u64 0, .int .i64 0]
  have hA := (Below.refl w.heap.size w).alloc (Nat.le_refl _) (.cells #[.int .u8 0, .int .u8 0, .int .u64 0, .int .u8 0, .int .u64 0, .int .u64 0, .int .i64 0, .int .u8 0, .int .u64 0, .int .u64 0, .string ⟨#[]⟩, .string ⟨#[]⟩, .int .u64 0, .int .u64 0, .int .i64 0] 28)
  go_enter Tryd.func28, Tryd.ntmps28
  go_wp2_with (first
    | (go_at_call 30; (with_reducible refine (some26_any _).mono ?_); rintro e w1 ⟨rfl, hb1⟩; have h1 := h0.up hb1; have hA1 := Chain.up hA hb1)
    | (refine wpList_stB (by rfl) _ _ _ (by rfl) h1 _ _ (by rfl) (by rfl) 15 15 (by rfl) (by rfl) (by decide) infoCall (by rfl) (by rfl) ?_; intro w2 hz' hb2; have h2 : Bx w2 w.heap.size 28 #[.int .u8 5, .int .u8 9, .int .u64 7, .int .u8 0, .int .u64 0, .int .u64 0, .int .i64 0, .int .u8 4, .int .u64 0, .int .u64 16909060, .string ⟨#[97]⟩, .string ⟨#[]⟩, .int .u64 10, .int .u64 0, .int .i64 0] := hz'; clear hz'))
  exact bodyPost_ret (results_box rfl (by rfl) (loadB h2 structCall infoCall rfl)) rfl ⟨rfl, hA1.trans (hb2.below (Nat.le_refl _) hA1.size)⟩
set_option maxRecDepth 100000 in
set_option maxHeartbeats 16000000 in
theorem awake_any (w : World) (hu : UsesOk w) : Calls Tryd.prog 12 #[] w fun e w' => e = .returned (.bool true) ∧ Below w.heap.size w w' := by
  go_enter Tryd.func12, Tryd.ntmps12
  go_upto_region 3 with (first
    | (go_at_call 28; (with_reducible refine (ask_any _).mono ?_); rintro e w1 ⟨rfl, hb1⟩)
    | (go_at_call 13; (with_reducible refine (write_ask _ (hu.up hb1)).mono ?_); rintro e w2 ⟨rfl, hb2⟩; have hc2 := Chain.up hb1 hb2)
    | (go_at_call 17; (with_reducible refine (read_ask _ (hu.up hc2)).mono ?_); rintro e w3 ⟨rfl, hb3⟩; have hc3 := Chain.up hc2 hb3; have h30 := Bx.fresh w3 28 #[.int .u8 0, .int .u8 0, .int .u64 0, .int .u8 0, .int .u64 0, .int .u64 0, .int .i64 0, .int .u8 0, .int .u64 0, .int .u64 0, .string ⟨#[]⟩, .string ⟨#[]⟩, .int .u64 0, .int .u64 0, .int .i64 0]; have hB3 := (Below.refl w3.heap.size w3).alloc (Nat.le_refl _) (.cells #[.int .u8 0, .int .u8 0, .int .u64 0, .int .u8 0, .int .u64 0, .int .u64 0, .int .i64 0, .int .u8 0, .int .u64 0, .int .u64 0, .string ⟨#[]⟩, .string ⟨#[]⟩, .int .u64 0, .int .u64 0, .int .i64 0] 28))
    | (refine wpList_stB (by rfl) _ _ _ (by rfl) h30 _ _ (by rfl) (by rfl) 15 15 (by rfl) (by rfl) (by decide) infoCall (by rfl) (by rfl) ?_; intro w4 hz' hb4; have h4 : Bx w4 w3.heap.size 28 #[.int .u8 5, .int .u8 9, .int .u64 7, .int .u8 0, .int .u64 0, .int .u64 0, .int .i64 0, .int .u8 4, .int .u64 0, .int .u64 16909060, .string ⟨#[97]⟩, .string ⟨#[]⟩, .int .u64 10, .int .u64 0, .int .i64 0] := hz'; clear hz'))
  have hc4 := hc3.trans ((hB3.trans (hb4.below (Nat.le_refl _) hB3.size)).mono hc3.size)
  clear h30 hB3 hb4 hb1 hb2 hb3 hc2 hc3
  generalize w3.heap.size = g3 at *
  refine wp_region_held_drew (S := fun wx => Below w4.heap.size w4 wx) (by kernel_rfl) (Below.refl _ _).drew (fun hHeld => ?_)
  refine wpAnyH_take (i := 0) (v := .agg #[.int .u8 5, .int .u8 9, .int .u64 7, .int .u8 0, .int .u64 0, .int .u64 0, .int .i64 0, .int .u8 4, .int .u64 0, .int .u64 16909060, .string ⟨#[97]⟩, .string ⟨#[]⟩, .int .u64 10, .int .u64 0, .int .i64 0]) rfl (by kernel_rfl) (by kernel_rfl) (by kernel_rfl) (fun _ _ _ h => h) (yieldsB (by rfl) _ _ (by rfl) (by rfl) (fun wx h => h4.up h) structCall 15 infoCall (by rfl)) hHeld ?_
  simp only [Act.put, nrm]
  refine wpAnyH_take (i := 2) (v := ?_) rfl (by kernel_rfl) (by kernel_rfl) (by kernel_rfl) (fun _ _ _ h => h) (Or.inl ⟨by rfl, ?_⟩) hHeld ?_
  rotate_left
  · intro wq hSw; go_simp; (try with_reducible rfl)
  simp only [Act.put, nrm]
  refine wpAnyH_one (i := 1) (by kernel_rfl) rfl (fun K hK => ?_)
  simp only [nrm]
  go_simp
  (with_reducible refine (some26_any _).mono ?_)
  rintro e w5 ⟨rfl, hb5⟩
  have hS5 := Chain.up hHeld hb5
  refine hK.out _ _ hS5 ?_
  clear hK K
  refine wpAnyH_take (i := 3) (v := someV) rfl (by kernel_rfl) (by kernel_rfl) (by kernel_rfl) (fun _ _ _ h => h) (Or.inl ⟨by rfl, ?_⟩) hS5 ?_
  · intro wq hSw; go_simp; (try with_reducible rfl); (try rfl)
  simp only [Act.put, nrm]
  refine wpAnyH_one (i := 4) (by kernel_rfl) rfl (fun K hK => ?_)
  simp only [nrm]
  go_simp
  (with_reducible refine (tell_ask _).mono ?_)
  rintro e w6 ⟨rfl, hb6⟩
  have hS6 := Chain.up hS5 hb6
  refine hK.out _ _ hS6 ?_
  clear hK K
  refine wpAnyH_take (i := 5) (v := ?_) rfl (by kernel_rfl) (by kernel_rfl) (by kernel_rfl) (fun _ _ _ h => h) (Or.inl ⟨by rfl, ?_⟩) hS6 ?_
  rotate_left
  · intro wq hSw; go_simp; (try with_reducible rfl)
  simp only [Act.put, nrm]
  refine wpAnyH_done (by kernel_rfl) ?_ _
  have h6 := h4.up hS6
  have hc6 := Chain.up hc4 hS6
  clear hHeld hS5 hS6 hb5 hb6 h4 hc4
  go_upto_region 5 with (first
    | (go_at_call 23; (with_reducible refine (hear_ask _).mono ?_); rintro e w7 ⟨r, rc, v, vc, p, pc, rfl, hb7⟩; obtain ⟨k1, k2, hB7⟩ := two_bx w7 #[.int .u8 0, .int .u8 0, .int .u64 0, .int .u8 0, .int .u64 0, .int .u64 0, .int .i64 0, .int .u8 0, .int .u64 0, .int .u64 0, .string ⟨#[]⟩, .string ⟨#[]⟩, .int .u64 0, .int .u64 0, .int .i64 0] #[.int .u8 0, .int .u64 0, .int .u64 0, .string ⟨#[]⟩, .int .u64 0, .int .u8 0, .int .u64 0, .int .u64 0, .int .i64 0, .bool false, .bool false, .bool false, .int .u64 0, .slice none 0 0, .slice none 0 0, .slice none 0 0] 28 36; have hc7 := Chain.up hc6 hb7; have h7 := (h6.up hb7).up hB7)
    | (refine wpList_stB (by rfl) _ _ _ (by rfl) k1 _ _ (by rfl) (by rfl) 15 15 (by rfl) (by rfl) (by decide) infoCall (by rfl) (by rfl) ?_; intro w8 hz' hb8; have m1 : Bx w8 w7.heap.size 28 #[.int .u8 5, .int .u8 9, .int .u64 7, .int .u8 0, .int .u64 0, .int .u64 0, .int .i64 0, .int .u8 0, .int .u64 0, .int .u64 0, .string ⟨#[]⟩, .string ⟨#[]⟩, .int .u64 0, .int .u64 0, .int .i64 0] := hz'; clear hz'; have m2 := k2.but hb8 (by omega))
    | (refine wpList_stB (by rfl) _ _ _ (by rfl) m2 _ _ (by rfl) (by rfl) 16 16 (by rfl) (by rfl) (by decide) infoAns (by rfl) (by rfl) ?_; intro w9 hz' hb9; have n2 : Bx w9 (w7.heap.size + 1) 36 #[.int .u8 4, .int .u64 0, .int .u64 16909060, .string ⟨#[97]⟩, .int .u64 15, .int .u8 0, .int .u64 0, .int .u64 0, .int .i64 0, .bool false, .bool false, .bool false, .int .u64 0, .slice r 0 rc, .slice v 0 vc, .slice p 0 pc] := hz'; clear hz'; have n1 := m1.but hb9 (by omega)))
  have hlt6 := (h6.up hb7).lt
  have h9 := (h7.but hb8 (by omega)).but hb9 (by omega)
  have hc9 := Chain.up hc7 ((hB7.trans (hb8.below (Nat.le_refl _) hB7.size)).trans (hb9.below (Nat.le_succ _) (by have := hB7.size; have := hb8.size; omega)))
  clear k1 k2 m1 m2 h6 h7 hb7 hB7 hb8 hb9 hc6 hc7 hlt6
  generalize w7.heap.size = g7 at *
  refine wp_region_held_drew (S := fun wx => Below w9.heap.size w9 wx) (by kernel_rfl) (Below.refl _ _).drew (fun hHeld => ?_)
  refine wpAnyH_take (i := 0) (v := ?_) rfl (by kernel_rfl) (by kernel_rfl) (by kernel_rfl) (fun _ _ _ h => h) (Or.inl ⟨by rfl, ?_⟩) hHeld ?_
  rotate_left
  · intro wq hSw; go_simp; (try with_reducible rfl)
  simp only [Act.put, nrm]
  refine wpAnyH_take (i := 1) (v := .bool true) rfl (by kernel_rfl) (by kernel_rfl) (by kernel_rfl) (fun _ _ _ h => h) (Or.inl ⟨by rfl, ?_⟩) hHeld ?_
  · intro wq hSw; go_simp; (try (first | (with_reducible rfl) | rfl | (simp; done) | decide))
  simp only [Act.put, nrm]
  refine wpAnyH_take (i := 2) (v := ?_) rfl (by kernel_rfl) (by kernel_rfl) (by kernel_rfl) (fun _ _ _ h => h) (Or.inl ⟨by rfl, ?_⟩) hHeld ?_
  rotate_left
  · intro wq hSw; go_simp; (try with_reducible rfl)
  simp only [Act.put, nrm]
  refine wpAnyH_take (i := 3) (v := ?_) rfl (by kernel_rfl) (by kernel_rfl) (by kernel_rfl) (fun _ _ _ h => h) (Or.inl ⟨by rfl, ?_⟩) hHeld ?_
  rotate_left
  · intro wq hSw; go_simp; (try with_reducible rfl)
  simp only [Act.put, nrm]
  refine wpAnyH_take (i := 4) (v := .bool true) rfl (by kernel_rfl) (by kernel_rfl) (by kernel_rfl) (fun _ _ _ h => h) (Or.inl ⟨by rfl, ?_⟩) hHeld ?_
  · intro wq hSw; go_simp; (try (first | (with_reducible rfl) | rfl | (simp; done) | decide))
  simp only [Act.put, nrm]
  refine wpAnyH_take (i := 5) (v := .bool true) rfl (by kernel_rfl) (by kernel_rfl) (by kernel_rfl) (fun _ _ _ h => h) (Or.inl ⟨by rfl, ?_⟩) hHeld ?_
  · intro wq hSw; go_simp; (try (first | (with_reducible rfl) | rfl | (simp; done) | decide))
  simp only [Act.put, nrm]
  refine wpAnyH_take (i := 6) (v := ?_) rfl (by kernel_rfl) (by kernel_rfl) (by kernel_rfl) (fun _ _ _ h => h) (Or.inl ⟨by rfl, ?_⟩) hHeld ?_
  rotate_left
  · intro wq hSw; go_simp; (try with_reducible rfl)
  simp only [Act.put, nrm]
  refine wpAnyH_take (i := 7) (v := ?_) rfl (by kernel_rfl) (by kernel_rfl) (by kernel_rfl) (fun _ _ _ h => h) (Or.inl ⟨by rfl, ?_⟩) hHeld ?_
  rotate_left
  · intro wq hSw; go_simp; (try with_reducible rfl)
  simp only [Act.put, nrm]
  refine wpAnyH_take (i := 8) (v := .bool true) rfl (by kernel_rfl) (by kernel_rfl) (by kernel_rfl) (fun _ _ _ h => h) (Or.inl ⟨by rfl, ?_⟩) hHeld ?_
  · intro wq hSw; go_simp; (try (first | (with_reducible rfl) | rfl | (simp; done) | decide))
  simp only [Act.put, nrm]
  refine wpAnyH_take (i := 9) (v := ?_) rfl (by kernel_rfl) (by kernel_rfl) (by kernel_rfl) (fun _ _ _ h => h) (Or.inl ⟨by rfl, ?_⟩) hHeld ?_
  rotate_left
  · intro wq hSw; go_simp; (try with_reducible rfl)
  simp only [Act.put, nrm]
  refine wpAnyH_take (i := 10) (v := .agg #[.int .u8 5, .int .u8 9, .int .u64 7, .int .u8 0, .int .u64 0, .int .u64 0, .int .i64 0, .int .u8 4, .int .u64 0, .int .u64 16909060, .string ⟨#[97]⟩, .string ⟨#[]⟩, .int .u64 10, .int .u64 0, .int .i64 0]) rfl (by kernel_rfl) (by kernel_rfl) (by kernel_rfl) (fun _ _ _ h => h) (yieldsB (by rfl) _ _ (by rfl) (by rfl) (fun wx h => h9.up h) structCall 15 infoCall (by rfl)) hHeld ?_
  simp only [Act.put, nrm]
  refine wpAnyH_one (i := 11) (by kernel_rfl) rfl (fun K hK => ?_)
  simp only [nrm]
  rw [if_pos (by rfl)]
  go_simp
  (with_reducible refine (ask_any _).mono ?_)
  rintro e u1 ⟨rfl, hb10⟩
  have hS1 := Chain.up hHeld hb10
  refine hK.out _ _ hS1 ?_
  clear hK K
  refine wpAnyH_take (i := 12) (v := .bool true) rfl (by kernel_rfl) (by kernel_rfl) (by kernel_rfl) (fun _ _ _ h => h) (Or.inl ⟨by rfl, ?_⟩) hS1 ?_
  · intro wq hSw; go_simp; (try (first | (with_reducible rfl) | rfl | (simp; done) | decide))
  simp only [Act.put, nrm]
  refine wpAnyH_take (i := 13) (v := .bool true) rfl (by kernel_rfl) (by kernel_rfl) (by kernel_rfl) (fun _ _ _ h => h) (Or.inl ⟨by rfl, ?_⟩) hS1 ?_
  · intro wq hSw; go_simp; (try (first | (with_reducible rfl) | rfl | (simp; done) | decide))
  simp only [Act.put, nrm]
  refine wpAnyH_take (i := 14) (v := ?_) rfl (by kernel_rfl) (by kernel_rfl) (by kernel_rfl) (fun _ _ _ h => h) (Or.inl ⟨by rfl, ?_⟩) hS1 ?_
  rotate_left
  · intro wq hSw; go_simp; (try with_reducible rfl)
  simp only [Act.put, nrm]
  refine wpAnyH_take (i := 15) (v := ?_) rfl (by kernel_rfl) (by kernel_rfl) (by kernel_rfl) (fun _ _ _ h => h) (Or.inl ⟨by rfl, ?_⟩) hS1 ?_
  rotate_left
  · intro wq hSw; go_simp; (try with_reducible rfl)
  simp only [Act.put, nrm]
  refine wpAnyH_take (i := 16) (v := .bool true) rfl (by kernel_rfl) (by kernel_rfl) (by kernel_rfl) (fun _ _ _ h => h) (Or.inl ⟨by rfl, ?_⟩) hS1 ?_
  · intro wq hSw; go_simp; (try (first | (with_reducible rfl) | rfl | (simp; done) | decide))
  simp only [Act.put, nrm]
  refine wpAnyH_take (i := 17) (v := .bool true) rfl (by kernel_rfl) (by kernel_rfl) (by kernel_rfl) (fun _ _ _ h => h) (Or.inl ⟨by rfl, ?_⟩) hS1 ?_
  · intro wq hSw; go_simp; (try (first | (with_reducible rfl) | rfl | (simp; done) | decide))
  simp only [Act.put, nrm]
  refine wpAnyH_take (i := 18) (v := ?_) rfl (by kernel_rfl) (by kernel_rfl) (by kernel_rfl) (fun _ _ _ h => h) (Or.inl ⟨by rfl, ?_⟩) hS1 ?_
  rotate_left
  · intro wq hSw; go_simp; (try with_reducible rfl)
  simp only [Act.put, nrm]
  refine wpAnyH_take (i := 19) (v := ?_) rfl (by kernel_rfl) (by kernel_rfl) (by kernel_rfl) (fun _ _ _ h => h) (Or.inl ⟨by rfl, ?_⟩) hS1 ?_
  rotate_left
  · intro wq hSw; go_simp; (try with_reducible rfl)
  simp only [Act.put, nrm]
  refine wpAnyH_take (i := 20) (v := .bool true) rfl (by kernel_rfl) (by kernel_rfl) (by kernel_rfl) (fun _ _ _ h => h) (Or.inl ⟨by rfl, ?_⟩) hS1 ?_
  · intro wq hSw; go_simp; (try (first | (with_reducible rfl) | rfl | (simp; done) | decide))
  simp only [Act.put, nrm]
  refine wpAnyH_take (i := 21) (v := ?_) rfl (by kernel_rfl) (by kernel_rfl) (by kernel_rfl) (fun _ _ _ h => h) (Or.inl ⟨by rfl, ?_⟩) hS1 ?_
  rotate_left
  · intro wq hSw; go_simp; (try with_reducible rfl)
  simp only [Act.put, nrm]
  refine wpAnyH_take (i := 22) (v := ?_) rfl (by kernel_rfl) (by kernel_rfl) (by kernel_rfl) (fun _ _ _ h => h) (Or.inl ⟨by rfl, ?_⟩) hS1 ?_
  rotate_left
  · intro wq hSw; go_simp; (try with_reducible rfl)
  simp only [Act.put, nrm]
  refine wpAnyH_take (i := 23) (v := .bool true) rfl (by kernel_rfl) (by kernel_rfl) (by kernel_rfl) (fun _ _ _ h => h) (Or.inl ⟨by rfl, ?_⟩) hS1 ?_
  · intro wq hSw; go_simp; (try (first | (with_reducible rfl) | rfl | (simp; done) | decide))
  simp only [Act.put, nrm]
  refine wpAnyH_take (i := 24) (v := .bool true) rfl (by kernel_rfl) (by kernel_rfl) (by kernel_rfl) (fun _ _ _ h => h) (Or.inl ⟨by rfl, ?_⟩) hS1 ?_
  · intro wq hSw; go_simp; (try (first | (with_reducible rfl) | rfl | (simp; done) | decide))
  simp only [Act.put, nrm]
  refine wpAnyH_take (i := 25) (v := ?_) rfl (by kernel_rfl) (by kernel_rfl) (by kernel_rfl) (fun _ _ _ h => h) (Or.inl ⟨by rfl, ?_⟩) hS1 ?_
  rotate_left
  · intro wq hSw; go_simp; (try with_reducible rfl)
  simp only [Act.put, nrm]
  refine wpAnyH_take (i := 26) (v := .agg #[.int .u8 5, .int .u8 9, .int .u64 7, .int .u8 0, .int .u64 0, .int .u64 0, .int .i64 0, .int .u8 0, .int .u64 0, .int .u64 0, .string ⟨#[]⟩, .string ⟨#[]⟩, .int .u64 0, .int .u64 0, .int .i64 0]) rfl (by kernel_rfl) (by kernel_rfl) (by kernel_rfl) (fun _ _ _ h => h) (yieldsB (by rfl) _ _ (by rfl) (by rfl) (fun wx h => n1.up h) structCall 15 infoCall (by rfl)) hS1 ?_
  simp only [Act.put, nrm]
  refine wpAnyH_take (i := 27) (v := .agg #[.int .u8 5, .int .u8 9, .int .u64 7, .int .u8 0, .int .u64 0, .int .u64 0, .int .i64 0, .int .u8 0, .int .u64 0, .int .u64 0, .string ⟨#[]⟩, .string ⟨#[]⟩, .int .u64 0, .int .u64 0, .int .i64 0]) rfl (by kernel_rfl) (by kernel_rfl) (by kernel_rfl) (fun _ _ _ h => h) (Or.inl ⟨by rfl, ?_⟩) hS1 ?_
  · intro wq hSw; go_simp; (try with_reducible rfl); (try rfl)
  simp only [Act.put, nrm]
  refine wpAnyH_take (i := 28) (v := .bool true) rfl (by kernel_rfl) (by kernel_rfl) (by kernel_rfl) (fun _ _ _ h => h) (Or.inl ⟨by rfl, ?_⟩) hS1 ?_
  · intro wq hSw; go_simp; (try (first | (with_reducible rfl) | rfl | (simp; done) | decide))
  simp only [Act.put, nrm]
  refine wpAnyH_take (i := 29) (v := .bool true) rfl (by kernel_rfl) (by kernel_rfl) (by kernel_rfl) (fun _ _ _ h => h) (Or.inl ⟨by rfl, ?_⟩) hS1 ?_
  · intro wq hSw; go_simp; (try (first | (with_reducible rfl) | rfl | (simp; done) | decide))
  simp only [Act.put, nrm]
  refine wpAnyH_take (i := 30) (v := ?_) rfl (by kernel_rfl) (by kernel_rfl) (by kernel_rfl) (fun _ _ _ h => h) (Or.inl ⟨by rfl, ?_⟩) hS1 ?_
  rotate_left
  · intro wq hSw; go_simp; (try with_reducible rfl)
  simp only [Act.put, nrm]
  refine wpAnyH_take (i := 31) (v := ?_) rfl (by kernel_rfl) (by kernel_rfl) (by kernel_rfl) (fun _ _ _ h => h) (Or.inl ⟨by rfl, ?_⟩) hS1 ?_
  rotate_left
  · intro wq hSw; go_simp; (try with_reducible rfl)
  simp only [Act.put, nrm]
  refine wpAnyH_take (i := 32) (v := .agg #[.int .u8 4, .int .u64 0, .int .u64 16909060]) rfl (by kernel_rfl) (by kernel_rfl) (by kernel_rfl) (fun _ _ _ h => h) (Or.inl ⟨by rfl, ?_⟩) hS1 ?_
  · intro wq hSw; obtain ⟨⟨q0, q1, q2, -⟩, -⟩ := (n2.up hSw).cells16; go_simp; (try with_reducible rfl); (try rfl)
  simp only [Act.put, nrm]
  refine wpAnyH_one (i := 33) (by kernel_rfl) rfl (fun K hK => ?_)
  simp only [nrm]
  rw [if_pos (by rfl)]
  go_simp
  (with_reducible refine (some26_any _).mono ?_)
  rintro e u2 ⟨rfl, hb11⟩
  have hS2 := Chain.up hS1 hb11
  refine hK.out _ _ hS2 ?_
  clear hK K
  refine wpAnyH_take (i := 34) (v := .bool true) rfl (by kernel_rfl) (by kernel_rfl) (by kernel_rfl) (fun _ _ _ h => h) (Or.inl ⟨by rfl, ?_⟩) hS2 ?_
  · intro wq hSw; go_simp; (try (first | (with_reducible rfl) | rfl | (simp; done) | decide))
  simp only [Act.put, nrm]
  refine wpAnyH_take (i := 35) (v := .bool true) rfl (by kernel_rfl) (by kernel_rfl) (by kernel_rfl) (fun _ _ _ h => h) (Or.inl ⟨by rfl, ?_⟩) hS2 ?_
  · intro wq hSw; go_simp; (try (first | (with_reducible rfl) | rfl | (simp; done) | decide))
  simp only [Act.put, nrm]
  refine wpAnyH_take (i := 36) (v := ?_) rfl (by kernel_rfl) (by kernel_rfl) (by kernel_rfl) (fun _ _ _ h => h) (Or.inl ⟨by rfl, ?_⟩) hS2 ?_
  rotate_left
  · intro wq hSw; go_simp; (try with_reducible rfl)
  simp only [Act.put, nrm]
  refine wpAnyH_take (i := 37) (v := ?_) rfl (by kernel_rfl) (by kernel_rfl) (by kernel_rfl) (fun _ _ _ h => h) (Or.inl ⟨by rfl, ?_⟩) hS2 ?_
  rotate_left
  · intro wq hSw; go_simp; (try with_reducible rfl)
  simp only [Act.put, nrm]
  refine wpAnyH_take (i := 38) (v := ?_) rfl (by kernel_rfl) (by kernel_rfl) (by kernel_rfl) (fun _ _ _ h => h) (Or.inl ⟨by rfl, ?_⟩) hS2 ?_
  rotate_left
  · intro wq hSw; go_simp; (try with_reducible rfl)
  simp only [Act.put, nrm]
  refine wpAnyH_take (i := 39) (v := .int .u64 15) rfl (by kernel_rfl) (by kernel_rfl) (by kernel_rfl) (fun _ _ _ h => h) (Or.inl ⟨by rfl, ?_⟩) hS2 ?_
  · intro wq hSw; obtain ⟨⟨-, -, -, -, q4, -⟩, -⟩ := (n2.up hSw).cells16; go_simp; (try with_reducible rfl); (try rfl)
  simp only [Act.put, nrm]
  refine wpAnyH_take (i := 40) (v := .bool true) rfl (by kernel_rfl) (by kernel_rfl) (by kernel_rfl) (fun _ _ _ h => h) (Or.inl ⟨by rfl, ?_⟩) hS2 ?_
  · intro wq hSw; go_simp; (try (first | (with_reducible rfl) | rfl | (simp; done) | decide))
  simp only [Act.put, nrm]
  refine wpAnyH_take (i := 41) (v := .bool true) rfl (by kernel_rfl) (by kernel_rfl) (by kernel_rfl) (fun _ _ _ h => h) (Or.inl ⟨by rfl, ?_⟩) hS2 ?_
  · intro wq hSw; go_simp; (try (first | (with_reducible rfl) | rfl | (simp; done) | decide))
  simp only [Act.put, nrm]
  refine wpAnyH_take (i := 42) (v := ?_) rfl (by kernel_rfl) (by kernel_rfl) (by kernel_rfl) (fun _ _ _ h => h) (Or.inl ⟨by rfl, ?_⟩) hS2 ?_
  rotate_left
  · intro wq hSw; go_simp; (try with_reducible rfl)
  simp only [Act.put, nrm]
  refine wpAnyH_done (by kernel_rfl) ?_ _
  go_wp2_with fail
  go_ret
  exact ⟨rfl, Chain.up hc9 hS2⟩
end Go.Proofs.YtcobfoiajdbahaaDoor
