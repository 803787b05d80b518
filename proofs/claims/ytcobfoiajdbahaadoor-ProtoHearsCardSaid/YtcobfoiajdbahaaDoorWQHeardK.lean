/- The walk of what the document hears of a look. -/
import Derived.Test.YtcobfoiajdbahaaDoorWQHeard26
namespace Go.Proofs.YtcobfoiajdbahaaDoor
open Go.RowKit
set_option linter.unusedVariables false
set_option linter.unusedSimpArgs false
set_option maxRecDepth 100000 in
set_option maxHeartbeats 4000000 in
theorem heard_10_00 (op : Nat) (s : List UInt8) (hs : s.length ≤ 1000000000) (hop : op = 10) (h1b : ((P.tkC s).1 % 2 == 1) = false) (h4b : ((P.tkC s).1 / 4 % 2 == 1) = false) (w : World) : Calls Tryd.prog 68 #[.int .u8 (op : Nat), S s] w (HeardDid op s w) := by
  obtain ⟨z1, h1, hA1⟩ := two_bx w #[.int .u8 0, .int .u64 0, .int .u64 0, .int .u8 0, .int .u64 0, .int .u64 0, .string ⟨#[]⟩, .int .u64 0, .int .u8 0, .int .u64 0, .int .u64 0, .int .i64 0, .bool false, .bool false, .bool false, .int .u64 0, .slice none 0 0, .slice none 0 0, .slice none 0 0] #[.int .u8 0, .int .u64 0, .int .u64 0, .int .u8 0, .int .u64 0, .int .u64 0, .string ⟨#[]⟩, .int .u64 0, .int .u8 0, .int .u64 0, .int .u64 0, .int .i64 0, .bool false, .bool false, .bool false, .int .u64 0, .slice none 0 0, .slice none 0 0, .slice none 0 0] 62 62
  have HT := Lib.hid (fun wx => tkC_any s hs wx)
  have hr : (P.tkC s).2.length ≤ 1000000000 := Nat.le_trans (P.tkC_le s) hs
  have hn := P.tkC_lt s
  have Hr := Lib.hid (show P.tkTold op s = ({ P.noAn with has := false, held := ((P.tkC s).1 / 2 % 2 == 1), live := false, pool := P.noX, owner := [], til := 0 }, (P.tkC s).2) by
    rw [hop]
    show P.tkLk s = _
    unfold P.tkLk
    simp only [h1b, h4b]
    rfl)
  unfold HeardDid
  generalize P.tkTold op s = res at *
  generalize P.tkC s = q at *
  obtain ⟨n, s1⟩ := q
  simp only at HT hr hn Hr h1b h4b 
  have f1 : ((n : Int) % 2 == 1) = false := by
    exact beq_eq_false_iff_ne.2 (by have := beq_eq_false_iff_ne.1 h1b; omega)
  have f4 : ((n : Int) / 4 % 2 == 1) = false := by
    exact beq_eq_false_iff_ne.2 (by have := beq_eq_false_iff_ne.1 h4b; omega)
  have f2 : ((n : Int) / 2 % 2 == 1) = (n / 2 % 2 == 1) := by
    rw [Bool.eq_iff_iff, beq_iff_eq, beq_iff_eq]
    omega
  clear h1b h4b
  generalize (n / 2 % 2 == 1) = bd at *
  have t5 : ((op : Int) == 5) = false := beq_eq_false_iff_ne.2 (by omega)
  have t6 : ((op : Int) == 6) = false := beq_eq_false_iff_ne.2 (by omega)
  have t7 : ((op : Int) == 7) = false := beq_eq_false_iff_ne.2 (by omega)
  have t10 : ((op : Int) == 10) = true := beq_iff_eq.2 (by omega)
  clear hop
  go_enter Tryd.func68, Tryd.ntmps68
  go_wp2_with (first
    | (go_at_call 61; (with_reducible refine (HT.out _).mono ?_); rintro e w2 ⟨rfl, hb2⟩; have h2 := h1.up hb2; have z2 := z1.up hb2; have hA2 := Chain.up hA1 hb2; clear h1 z1 hA1 hb2)
    | (refine wpList_stV (by rfl) _ _ _ (by rfl) h2 12 _ (by rfl) (by rfl) (by rfl) (by rfl) 19 (by rfl) (by decide) infoBool (by rfl) ?_; intro w3 hz' hb3; have h3 : Bx w3 (w.heap.size + 1) 62 #[.int .u8 0, .int .u64 0, .int .u64 0, .int .u8 0, .int .u64 0, .int .u64 0, .string ⟨#[]⟩, .int .u64 0, .int .u8 0, .int .u64 0, .int .u64 0, .int .i64 0, .bool false, .bool false, .bool false, .int .u64 0, .slice none 0 0, .slice none 0 0, .slice none 0 0] := hz'; clear hz'; have z3 := z2.but hb3 (by omega); have hA3 := hA2.trans (hb3.below (Nat.le_succ _) hA2.size); clear h2 z2 hA2 hb3)
    | (refine wpList_stV (by rfl) _ _ _ (by rfl) h3 13 _ (by rfl) (by rfl) (by rfl) (by rfl) 19 (by rfl) (by decide) infoBool (by rfl) ?_; intro w4 hz' hb4; have h4 : Bx w4 (w.heap.size + 1) 62 #[.int .u8 0, .int .u64 0, .int .u64 0, .int .u8 0, .int .u64 0, .int .u64 0, .string ⟨#[]⟩, .int .u64 0, .int .u8 0, .int .u64 0, .int .u64 0, .int .i64 0, .bool false, .bool bd, .bool false, .int .u64 0, .slice none 0 0, .slice none 0 0, .slice none 0 0] := hz'; clear hz'; have z4 := z3.but hb4 (by omega); have hA4 := hA3.trans (hb4.below (Nat.le_succ _) hA3.size); clear h3 z3 hA3 hb4)
    | (refine wpList_stV (by rfl) _ _ _ (by rfl) h4 14 _ (by rfl) (by rfl) (by rfl) (by rfl) 19 (by rfl) (by decide) infoBool (by rfl) ?_; intro w5 hz' hb5; have h5 : Bx w5 (w.heap.size + 1) 62 #[.int .u8 0, .int .u64 0, .int .u64 0, .int .u8 0, .int .u64 0, .int .u64 0, .string ⟨#[]⟩, .int .u64 0, .int .u8 0, .int .u64 0, .int .u64 0, .int .i64 0, .bool false, .bool bd, .bool false, .int .u64 0, .slice none 0 0, .slice none 0 0, .slice none 0 0] := hz'; obtain ⟨c0, c1, c2, c3, c4, c5, c6, c7, c8, c9, c10, c11, c12, c13, c14, c15, c16, c17, c18⟩ := h5.cells19; clear hz'; have z5 := z4.but hb5 (by omega); have hA5 := hA4.trans (hb5.below (Nat.le_succ _) hA4.size); obtain ⟨c0, c1, c2, c3, c4, c5, c6, c7, c8, c9, c10, c11, c12, c13, c14, c15, c16, c17, c18⟩ := h5.cells19; clear h4 z4 hA4 hb5)
    | (refine wpList_ldB (by rfl) _ _ (by rfl) h5 (by rfl) structRAn 19 infoRAn (by rfl) ?_)
    | (refine wpList_stB (by rfl) _ _ _ (by rfl) z5 _ _ (by rfl) (by rfl) 19 19 (by rfl) (by rfl) (by decide) infoRAn (by rfl) (by rfl) ?_; intro w99 hz' hb99; have z99 : Bx w99 w.heap.size 62 #[.int .u8 0, .int .u64 0, .int .u64 0, .int .u8 0, .int .u64 0, .int .u64 0, .string ⟨#[]⟩, .int .u64 0, .int .u8 0, .int .u64 0, .int .u64 0, .int .i64 0, .bool false, .bool bd, .bool false, .int .u64 0, .slice none 0 0, .slice none 0 0, .slice none 0 0] := hz'; clear hz'))
  exact bodyPost_ret (results_box2 rfl (by rfl) (loadB z99 structRAn infoRAn rfl)) rfl ⟨none, 0, none, 0, none, 0, by rw [Hr.out]; rfl, by rw [Hr.out]; exact OwnD.none _ _ _ rfl rfl rfl, hA5.trans (hb99.below (Nat.le_refl _) hA5.size)⟩
set_option maxRecDepth 100000 in
set_option maxHeartbeats 4000000 in
theorem heard_10_01 (op : Nat) (s : List UInt8) (hs : s.length ≤ 1000000000) (hop : op = 10) (h1b : ((P.tkC s).1 % 2 == 1) = false) (h4b : ((P.tkC s).1 / 4 % 2 == 1) = true) (w : World) : Calls Tryd.prog 68 #[.int .u8 (op : Nat), S s] w (HeardDid op s w) := by
  obtain ⟨z1, h1, hA1⟩ := two_bx w #[.int .u8 0, .int .u64 0, .int .u64 0, .int .u8 0, .int .u64 0, .int .u64 0, .string ⟨#[]⟩, .int .u64 0, .int .u8 0, .int .u64 0, .int .u64 0, .int .i64 0, .bool false, .bool false, .bool false, .int .u64 0, .slice none 0 0, .slice none 0 0, .slice none 0 0] #[.int .u8 0, .int .u64 0, .int .u64 0, .int .u8 0, .int .u64 0, .int .u64 0, .string ⟨#[]⟩, .int .u64 0, .int .u8 0, .int .u64 0, .int .u64 0, .int .i64 0, .bool false, .bool false, .bool false, .int .u64 0, .slice none 0 0, .slice none 0 0, .slice none 0 0] 62 62
  have HT := Lib.hid (fun wx => tkC_any s hs wx)
  have hr : (P.tkC s).2.length ≤ 1000000000 := Nat.le_trans (P.tkC_le s) hs
  have hn := P.tkC_lt s
  have HL := Lib.hid (fun wx => tkLease0_any (P.tkC s).2 hr wx)
  have Hr := Lib.hid (show P.tkTold op s = ({ P.noAn with has := false, held := ((P.tkC s).1 / 2 % 2 == 1), live := true, pool := P.noX, owner := (P.tkL (P.tkC s).2).1.1, til := (P.tkL (P.tkC s).2).1.2 }, (P.tkL (P.tkC s).2).2) by
    rw [hop]
    show P.tkLk s = _
    unfold P.tkLk
    simp only [h1b, h4b]
    rfl)
  unfold HeardDid
  generalize P.tkTold op s = res at *
  generalize P.tkC s = q at *
  obtain ⟨n, s1⟩ := q
  simp only at HT hr hn Hr h1b h4b HL
  generalize P.tkL s1 = q at *
  obtain ⟨⟨o, t⟩, s3⟩ := q
  simp only at HL Hr
  have f1 : ((n : Int) % 2 == 1) = false := by
    exact beq_eq_false_iff_ne.2 (by have := beq_eq_false_iff_ne.1 h1b; omega)
  have f4 : ((n : Int) / 4 % 2 == 1) = true := by
    exact beq_iff_eq.2 (by have := beq_iff_eq.1 h4b; omega)
  have f2 : ((n : Int) / 2 % 2 == 1) = (n / 2 % 2 == 1) := by
    rw [Bool.eq_iff_iff, beq_iff_eq, beq_iff_eq]
    omega
  clear h1b h4b
  generalize (n / 2 % 2 == 1) = bd at *
  have t5 : ((op : Int) == 5) = false := beq_eq_false_iff_ne.2 (by omega)
  have t6 : ((op : Int) == 6) = false := beq_eq_false_iff_ne.2 (by omega)
  have t7 : ((op : Int) == 7) = false := beq_eq_false_iff_ne.2 (by omega)
  have t10 : ((op : Int) == 10) = true := beq_iff_eq.2 (by omega)
  clear hop
  go_enter Tryd.func68, Tryd.ntmps68
  go_wp2_with (first
    | (go_at_call 61; (with_reducible refine (HT.out _).mono ?_); rintro e w2 ⟨rfl, hb2⟩; have h2 := h1.up hb2; have z2 := z1.up hb2; have hA2 := Chain.up hA1 hb2; clear h1 z1 hA1 hb2)
    | (refine wpList_stV (by rfl) _ _ _ (by rfl) h2 12 _ (by rfl) (by rfl) (by rfl) (by rfl) 19 (by rfl) (by decide) infoBool (by rfl) ?_; intro w3 hz' hb3; have h3 : Bx w3 (w.heap.size + 1) 62 #[.int .u8 0, .int .u64 0, .int .u64 0, .int .u8 0, .int .u64 0, .int .u64 0, .string ⟨#[]⟩, .int .u64 0, .int .u8 0, .int .u64 0, .int .u64 0, .int .i64 0, .bool false, .bool false, .bool false, .int .u64 0, .slice none 0 0, .slice none 0 0, .slice none 0 0] := hz'; clear hz'; have z3 := z2.but hb3 (by omega); have hA3 := hA2.trans (hb3.below (Nat.le_succ _) hA2.size); clear h2 z2 hA2 hb3)
    | (refine wpList_stV (by rfl) _ _ _ (by rfl) h3 13 _ (by rfl) (by rfl) (by rfl) (by rfl) 19 (by rfl) (by decide) infoBool (by rfl) ?_; intro w4 hz' hb4; have h4 : Bx w4 (w.heap.size + 1) 62 #[.int .u8 0, .int .u64 0, .int .u64 0, .int .u8 0, .int .u64 0, .int .u64 0, .string ⟨#[]⟩, .int .u64 0, .int .u8 0, .int .u64 0, .int .u64 0, .int .i64 0, .bool false, .bool bd, .bool false, .int .u64 0, .slice none 0 0, .slice none 0 0, .slice none 0 0] := hz'; clear hz'; have z4 := z3.but hb4 (by omega); have hA4 := hA3.trans (hb4.below (Nat.le_succ _) hA3.size); clear h3 z3 hA3 hb4)
    | (refine wpList_stV (by rfl) _ _ _ (by rfl) h4 14 _ (by rfl) (by rfl) (by rfl) (by rfl) 19 (by rfl) (by decide) infoBool (by rfl) ?_; intro w5 hz' hb5; have h5 : Bx w5 (w.heap.size + 1) 62 #[.int .u8 0, .int .u64 0, .int .u64 0, .int .u8 0, .int .u64 0, .int .u64 0, .string ⟨#[]⟩, .int .u64 0, .int .u8 0, .int .u64 0, .int .u64 0, .int .i64 0, .bool false, .bool bd, .bool true, .int .u64 0, .slice none 0 0, .slice none 0 0, .slice none 0 0] := hz'; obtain ⟨c0, c1, c2, c3, c4, c5, c6, c7, c8, c9, c10, c11, c12, c13, c14, c15, c16, c17, c18⟩ := h5.cells19; clear hz'; have z5 := z4.but hb5 (by omega); have hA5 := hA4.trans (hb5.below (Nat.le_succ _) hA4.size); obtain ⟨c0, c1, c2, c3, c4, c5, c6, c7, c8, c9, c10, c11, c12, c13, c14, c15, c16, c17, c18⟩ := h5.cells19; clear h4 z4 hA4 hb5)
    | (go_at_call 91; (with_reducible refine (HL.out _).mono ?_); rintro e w6 ⟨rfl, hb6⟩; have h6 := h5.up hb6; have z6 := z5.up hb6; have hA6 := Chain.up hA5 hb6; clear h5 z5 hA5 hb6)
    | (refine wpList_stB (by rfl) _ _ _ (by rfl) h6 3 _ (by rfl) (by rfl) 5 19 (by rfl) (by rfl) (by decide) infoRL (by rfl) (by rfl) ?_; intro w7 hz' hb7; have h7 : Bx w7 (w.heap.size + 1) 62 #[.int .u8 0, .int .u64 0, .int .u64 0, .int .u8 0, .int .u64 0, .int .u64 0, S o, V64 t, .int .u8 0, .int .u64 0, .int .u64 0, .int .i64 0, .bool false, .bool bd, .bool true, .int .u64 0, .slice none 0 0, .slice none 0 0, .slice none 0 0] := hz'; clear hz'; have z7 := z6.but hb7 (by omega); have hA7 := hA6.trans (hb7.below (Nat.le_succ _) hA6.size); clear h6 z6 hA6 hb7)
    | (refine wpList_ldB (by rfl) _ _ (by rfl) h7 (by rfl) structRAn 19 infoRAn (by rfl) ?_)
    | (refine wpList_stB (by rfl) _ _ _ (by rfl) z7 _ _ (by rfl) (by rfl) 19 19 (by rfl) (by rfl) (by decide) infoRAn (by rfl) (by rfl) ?_; intro w99 hz' hb99; have z99 : Bx w99 w.heap.size 62 #[.int .u8 0, .int .u64 0, .int .u64 0, .int .u8 0, .int .u64 0, .int .u64 0, S o, V64 t, .int .u8 0, .int .u64 0, .int .u64 0, .int .i64 0, .bool false, .bool bd, .bool true, .int .u64 0, .slice none 0 0, .slice none 0 0, .slice none 0 0] := hz'; clear hz'))
  exact bodyPost_ret (results_box2 rfl (by rfl) (loadB z99 structRAn infoRAn rfl)) rfl ⟨none, 0, none, 0, none, 0, by rw [Hr.out]; rfl, by rw [Hr.out]; exact OwnD.none _ _ _ rfl rfl rfl, hA7.trans (hb99.below (Nat.le_refl _) hA7.size)⟩
set_option maxRecDepth 100000 in
set_option maxHeartbeats 4000000 in
theorem heard_10_10 (op : Nat) (s : List UInt8) (hs : s.length ≤ 1000000000) (hop : op = 10) (h1b : ((P.tkC s).1 % 2 == 1) = true) (h4b : ((P.tkC s).1 / 4 % 2 == 1) = false) (w : World) : Calls Tryd.prog 68 #[.int .u8 (op : Nat), S s] w (HeardDid op s w) := by
  obtain ⟨z1, h1, hA1⟩ := two_bx w #[.int .u8 0, .int .u64 0, .int .u64 0, .int .u8 0, .int .u64 0, .int .u64 0, .string ⟨#[]⟩, .int .u64 0, .int .u8 0, .int .u64 0, .int .u64 0, .int .i64 0, .bool false, .bool false, .bool false, .int .u64 0, .slice none 0 0, .slice none 0 0, .slice none 0 0] #[.int .u8 0, .int .u64 0, .int .u64 0, .int .u8 0, .int .u64 0, .int .u64 0, .string ⟨#[]⟩, .int .u64 0, .int .u8 0, .int .u64 0, .int .u64 0, .int .i64 0, .bool false, .bool false, .bool false, .int .u64 0, .slice none 0 0, .slice none 0 0, .slice none 0 0] 62 62
  have HT := Lib.hid (fun wx => tkC_any s hs wx)
  have hr : (P.tkC s).2.length ≤ 1000000000 := Nat.le_trans (P.tkC_le s) hs
  have hn := P.tkC_lt s
  have HX := Lib.hid (fun wx => tkX_any (P.tkC s).2 hr wx)
  have hrX : (P.tkX (P.tkC s).2).2.length ≤ 1000000000 := Nat.le_trans (P.tkX_le _) hr
  have Hr := Lib.hid (show P.tkTold op s = ({ P.noAn with has := true, held := ((P.tkC s).1 / 2 % 2 == 1), live := false, pool := (P.tkX (P.tkC s).2).1, owner := [], til := 0 }, (P.tkX (P.tkC s).2).2) by
    rw [hop]
    show P.tkLk s = _
    unfold P.tkLk
    simp only [h1b, h4b]
    rfl)
  unfold HeardDid
  generalize P.tkTold op s = res at *
  generalize P.tkC s = q at *
  obtain ⟨n, s1⟩ := q
  simp only at HT hr hn Hr h1b h4b HX hrX 
  generalize P.tkX s1 = q at *
  obtain ⟨X, s2⟩ := q
  simp only at HX hrX Hr
  have f1 : ((n : Int) % 2 == 1) = true := by
    exact beq_iff_eq.2 (by have := beq_iff_eq.1 h1b; omega)
  have f4 : ((n : Int) / 4 % 2 == 1) = false := by
    exact beq_eq_false_iff_ne.2 (by have := beq_eq_false_iff_ne.1 h4b; omega)
  have f2 : ((n : Int) / 2 % 2 == 1) = (n / 2 % 2 == 1) := by
    rw [Bool.eq_iff_iff, beq_iff_eq, beq_iff_eq]
    omega
  clear h1b h4b
  generalize (n / 2 % 2 == 1) = bd at *
  have t5 : ((op : Int) == 5) = false := beq_eq_false_iff_ne.2 (by omega)
  have t6 : ((op : Int) == 6) = false := beq_eq_false_iff_ne.2 (by omega)
  have t7 : ((op : Int) == 7) = false := beq_eq_false_iff_ne.2 (by omega)
  have t10 : ((op : Int) == 10) = true := beq_iff_eq.2 (by omega)
  clear hop
  go_enter Tryd.func68, Tryd.ntmps68
  go_wp2_with (first
    | (go_at_call 61; (with_reducible refine (HT.out _).mono ?_); rintro e w2 ⟨rfl, hb2⟩; have h2 := h1.up hb2; have z2 := z1.up hb2; have hA2 := Chain.up hA1 hb2; clear h1 z1 hA1 hb2)
    | (refine wpList_stV (by rfl) _ _ _ (by rfl) h2 12 _ (by rfl) (by rfl) (by rfl) (by rfl) 19 (by rfl) (by decide) infoBool (by rfl) ?_; intro w3 hz' hb3; have h3 : Bx w3 (w.heap.size + 1) 62 #[.int .u8 0, .int .u64 0, .int .u64 0, .int .u8 0, .int .u64 0, .int .u64 0, .string ⟨#[]⟩, .int .u64 0, .int .u8 0, .int .u64 0, .int .u64 0, .int .i64 0, .bool true, .bool false, .bool false, .int .u64 0, .slice none 0 0, .slice none 0 0, .slice none 0 0] := hz'; clear hz'; have z3 := z2.but hb3 (by omega); have hA3 := hA2.trans (hb3.below (Nat.le_succ _) hA2.size); clear h2 z2 hA2 hb3)
    | (refine wpList_stV (by rfl) _ _ _ (by rfl) h3 13 _ (by rfl) (by rfl) (by rfl) (by rfl) 19 (by rfl) (by decide) infoBool (by rfl) ?_; intro w4 hz' hb4; have h4 : Bx w4 (w.heap.size + 1) 62 #[.int .u8 0, .int .u64 0, .int .u64 0, .int .u8 0, .int .u64 0, .int .u64 0, .string ⟨#[]⟩, .int .u64 0, .int .u8 0, .int .u64 0, .int .u64 0, .int .i64 0, .bool true, .bool bd, .bool false, .int .u64 0, .slice none 0 0, .slice none 0 0, .slice none 0 0] := hz'; clear hz'; have z4 := z3.but hb4 (by omega); have hA4 := hA3.trans (hb4.below (Nat.le_succ _) hA3.size); clear h3 z3 hA3 hb4)
    | (refine wpList_stV (by rfl) _ _ _ (by rfl) h4 14 _ (by rfl) (by rfl) (by rfl) (by rfl) 19 (by rfl) (by decide) infoBool (by rfl) ?_; intro w5 hz' hb5; have h5 : Bx w5 (w.heap.size + 1) 62 #[.int .u8 0, .int .u64 0, .int .u64 0, .int .u8 0, .int .u64 0, .int .u64 0, .string ⟨#[]⟩, .int .u64 0, .int .u8 0, .int .u64 0, .int .u64 0, .int .i64 0, .bool true, .bool bd, .bool false, .int .u64 0, .slice none 0 0, .slice none 0 0, .slice none 0 0] := hz'; obtain ⟨c0, c1, c2, c3, c4, c5, c6, c7, c8, c9, c10, c11, c12, c13, c14, c15, c16, c17, c18⟩ := h5.cells19; clear hz'; have z5 := z4.but hb5 (by omega); have hA5 := hA4.trans (hb5.below (Nat.le_succ _) hA4.size); obtain ⟨c0, c1, c2, c3, c4, c5, c6, c7, c8, c9, c10, c11, c12, c13, c14, c15, c16, c17, c18⟩ := h5.cells19; clear h4 z4 hA4 hb5)
    | (go_at_call 57; (with_reducible refine (HX.out _).mono ?_); rintro e w6 ⟨rfl, hb6⟩; have h6 := h5.up hb6; have z6 := z5.up hb6; have hA6 := Chain.up hA5 hb6; clear h5 z5 hA5 hb6)
    | (refine wpList_stB (by rfl) _ _ _ (by rfl) h6 8 _ (by rfl) (by rfl) 4 19 (by rfl) (by rfl) (by decide) infoRX (by rfl) (by rfl) ?_; intro w7 hz' hb7; have h7 : Bx w7 (w.heap.size + 1) 62 #[.int .u8 0, .int .u64 0, .int .u64 0, .int .u8 0, .int .u64 0, .int .u64 0, .string ⟨#[]⟩, .int .u64 0, .int .u8 (X.a.fam : Nat), V64 X.a.hi, V64 X.a.lo, .int .i64 X.bits, .bool true, .bool bd, .bool false, .int .u64 0, .slice none 0 0, .slice none 0 0, .slice none 0 0] := hz'; obtain ⟨d0, d1, d2, d3, d4, d5, d6, d7, d8, d9, d10, d11, d12, d13, d14, d15, d16, d17, d18⟩ := h7.cells19; clear hz'; have z7 := z6.but hb7 (by omega); have hA7 := hA6.trans (hb7.below (Nat.le_succ _) hA6.size); obtain ⟨d0, d1, d2, d3, d4, d5, d6, d7, d8, d9, d10, d11, d12, d13, d14, d15, d16, d17, d18⟩ := h7.cells19; clear h6 z6 hA6 hb7)
    | (refine wpList_ldB (by rfl) _ _ (by rfl) h7 (by rfl) structRAn 19 infoRAn (by rfl) ?_)
    | (refine wpList_stB (by rfl) _ _ _ (by rfl) z7 _ _ (by rfl) (by rfl) 19 19 (by rfl) (by rfl) (by decide) infoRAn (by rfl) (by rfl) ?_; intro w99 hz' hb99; have z99 : Bx w99 w.heap.size 62 #[.int .u8 0, .int .u64 0, .int .u64 0, .int .u8 0, .int .u64 0, .int .u64 0, .string ⟨#[]⟩, .int .u64 0, .int .u8 (X.a.fam : Nat), V64 X.a.hi, V64 X.a.lo, .int .i64 X.bits, .bool true, .bool bd, .bool false, .int .u64 0, .slice none 0 0, .slice none 0 0, .slice none 0 0] := hz'; clear hz'))
  exact bodyPost_ret (results_box2 rfl (by rfl) (loadB z99 structRAn infoRAn rfl)) rfl ⟨none, 0, none, 0, none, 0, by rw [Hr.out]; rfl, by rw [Hr.out]; exact OwnD.none _ _ _ rfl rfl rfl, hA7.trans (hb99.below (Nat.le_refl _) hA7.size)⟩
set_option maxRecDepth 100000 in
set_option maxHeartbeats 4000000 in
theorem heard_10_11 (op : Nat) (s : List UInt8) (hs : s.length ≤ 1000000000) (hop : op = 10) (h1b : ((P.tkC s).1 % 2 == 1) = true) (h4b : ((P.tkC s).1 / 4 % 2 == 1) = true) (w : World) : Calls Tryd.prog 68 #[.int .u8 (op : Nat), S s] w (HeardDid op s w) := by
  obtain ⟨z1, h1, hA1⟩ := two_bx w #[.int .u8 0, .int .u64 0, .int .u64 0, .int .u8 0, .int .u64 0, .int .u64 0, .string ⟨#[]⟩, .int .u64 0, .int .u8 0, .int .u64 0, .int .u64 0, .int .i64 0, .bool false, .bool false, .bool false, .int .u64 0, .slice none 0 0, .slice none 0 0, .slice none 0 0] #[.int .u8 0, .int .u64 0, .int .u64 0, .int .u8 0, .int .u64 0, .int .u64 0, .string ⟨#[]⟩, .int .u64 0, .int .u8 0, .int .u64 0, .int .u64 0, .int .i64 0, .bool false, .bool false, .bool false, .int .u64 0, .slice none 0 0, .slice none 0 0, .slice none 0 0] 62 62
  have HT := Lib.hid (fun wx => tkC_any s hs wx)
  have hr : (P.tkC s).2.length ≤ 1000000000 := Nat.le_trans (P.tkC_le s) hs
  have hn := P.tkC_lt s
  have HX := Lib.hid (fun wx => tkX_any (P.tkC s).2 hr wx)
  have hrX : (P.tkX (P.tkC s).2).2.length ≤ 1000000000 := Nat.le_trans (P.tkX_le _) hr
  have HL := Lib.hid (fun wx => tkLease0_any (P.tkX (P.tkC s).2).2 hrX wx)
  have Hr := Lib.hid (show P.tkTold op s = ({ P.noAn with has := true, held := ((P.tkC s).1 / 2 % 2 == 1), live := true, pool := (P.tkX (P.tkC s).2).1, owner := (P.tkL (P.tkX (P.tkC s).2).2).1.1, til := (P.tkL (P.tkX (P.tkC s).2).2).1.2 }, (P.tkL (P.tkX (P.tkC s).2).2).2) by
    rw [hop]
    show P.tkLk s = _
    unfold P.tkLk
    simp only [h1b, h4b]
    rfl)
  unfold HeardDid
  generalize P.tkTold op s = res at *
  generalize P.tkC s = q at *
  obtain ⟨n, s1⟩ := q
  simp only at HT hr hn Hr h1b h4b HX hrX HL
  generalize P.tkX s1 = q at *
  obtain ⟨X, s2⟩ := q
  simp only at HX hrX Hr HL
  generalize P.tkL s2 = q at *
  obtain ⟨⟨o, t⟩, s3⟩ := q
  simp only at HL Hr
  have f1 : ((n : Int) % 2 == 1) = true := by
    exact beq_iff_eq.2 (by have := beq_iff_eq.1 h1b; omega)
  have f4 : ((n : Int) / 4 % 2 == 1) = true := by
    exact beq_iff_eq.2 (by have := beq_iff_eq.1 h4b; omega)
  have f2 : ((n : Int) / 2 % 2 == 1) = (n / 2 % 2 == 1) := by
    rw [Bool.eq_iff_iff, beq_iff_eq, beq_iff_eq]
    omega
  clear h1b h4b
  generalize (n / 2 % 2 == 1) = bd at *
  have t5 : ((op : Int) == 5) = false := beq_eq_false_iff_ne.2 (by omega)
  have t6 : ((op : Int) == 6) = false := beq_eq_false_iff_ne.2 (by omega)
  have t7 : ((op : Int) == 7) = false := beq_eq_false_iff_ne.2 (by omega)
  have t10 : ((op : Int) == 10) = true := beq_iff_eq.2 (by omega)
  clear hop
  go_enter Tryd.func68, Tryd.ntmps68
  go_wp2_with (first
    | (go_at_call 61; (with_reducible refine (HT.out _).mono ?_); rintro e w2 ⟨rfl, hb2⟩; have h2 := h1.up hb2; have z2 := z1.up hb2; have hA2 := Chain.up hA1 hb2; clear h1 z1 hA1 hb2)
    | (refine wpList_stV (by rfl) _ _ _ (by rfl) h2 12 _ (by rfl) (by rfl) (by rfl) (by rfl) 19 (by rfl) (by decide) infoBool (by rfl) ?_; intro w3 hz' hb3; have h3 : Bx w3 (w.heap.size + 1) 62 #[.int .u8 0, .int .u64 0, .int .u64 0, .int .u8 0, .int .u64 0, .int .u64 0, .string ⟨#[]⟩, .int .u64 0, .int .u8 0, .int .u64 0, .int .u64 0, .int .i64 0, .bool true, .bool false, .bool false, .int .u64 0, .slice none 0 0, .slice none 0 0, .slice none 0 0] := hz'; clear hz'; have z3 := z2.but hb3 (by omega); have hA3 := hA2.trans (hb3.below (Nat.le_succ _) hA2.size); clear h2 z2 hA2 hb3)
    | (refine wpList_stV (by rfl) _ _ _ (by rfl) h3 13 _ (by rfl) (by rfl) (by rfl) (by rfl) 19 (by rfl) (by decide) infoBool (by rfl) ?_; intro w4 hz' hb4; have h4 : Bx w4 (w.heap.size + 1) 62 #[.int .u8 0, .int .u64 0, .int .u64 0, .int .u8 0, .int .u64 0, .int .u64 0, .string ⟨#[]⟩, .int .u64 0, .int .u8 0, .int .u64 0, .int .u64 0, .int .i64 0, .bool true, .bool bd, .bool false, .int .u64 0, .slice none 0 0, .slice none 0 0, .slice none 0 0] := hz'; clear hz'; have z4 := z3.but hb4 (by omega); have hA4 := hA3.trans (hb4.below (Nat.le_succ _) hA3.size); clear h3 z3 hA3 hb4)
    | (refine wpList_stV (by rfl) _ _ _ (by rfl) h4 14 _ (by rfl) (by rfl) (by rfl) (by rfl) 19 (by rfl) (by decide) infoBool (by rfl) ?_; intro w5 hz' hb5; have h5 : Bx w5 (w.heap.size + 1) 62 #[.int .u8 0, .int .u64 0, .int .u64 0, .int .u8 0, .int .u64 0, .int .u64 0, .string ⟨#[]⟩, .int .u64 0, .int .u8 0, .int .u64 0, .int .u64 0, .int .i64 0, .bool true, .bool bd, .bool true, .int .u64 0, .slice none 0 0, .slice none 0 0, .slice none 0 0] := hz'; obtain ⟨c0, c1, c2, c3, c4, c5, c6, c7, c8, c9, c10, c11, c12, c13, c14, c15, c16, c17, c18⟩ := h5.cells19; clear hz'; have z5 := z4.but hb5 (by omega); have hA5 := hA4.trans (hb5.below (Nat.le_succ _) hA4.size); obtain ⟨c0, c1, c2, c3, c4, c5, c6, c7, c8, c9, c10, c11, c12, c13, c14, c15, c16, c17, c18⟩ := h5.cells19; clear h4 z4 hA4 hb5)
    | (go_at_call 57; (with_reducible refine (HX.out _).mono ?_); rintro e w6 ⟨rfl, hb6⟩; have h6 := h5.up hb6; have z6 := z5.up hb6; have hA6 := Chain.up hA5 hb6; clear h5 z5 hA5 hb6)
    | (refine wpList_stB (by rfl) _ _ _ (by rfl) h6 8 _ (by rfl) (by rfl) 4 19 (by rfl) (by rfl) (by decide) infoRX (by rfl) (by rfl) ?_; intro w7 hz' hb7; have h7 : Bx w7 (w.heap.size + 1) 62 #[.int .u8 0, .int .u64 0, .int .u64 0, .int .u8 0, .int .u64 0, .int .u64 0, .string ⟨#[]⟩, .int .u64 0, .int .u8 (X.a.fam : Nat), V64 X.a.hi, V64 X.a.lo, .int .i64 X.bits, .bool true, .bool bd, .bool true, .int .u64 0, .slice none 0 0, .slice none 0 0, .slice none 0 0] := hz'; obtain ⟨d0, d1, d2, d3, d4, d5, d6, d7, d8, d9, d10, d11, d12, d13, d14, d15, d16, d17, d18⟩ := h7.cells19; clear hz'; have z7 := z6.but hb7 (by omega); have hA7 := hA6.trans (hb7.below (Nat.le_succ _) hA6.size); obtain ⟨d0, d1, d2, d3, d4, d5, d6, d7, d8, d9, d10, d11, d12, d13, d14, d15, d16, d17, d18⟩ := h7.cells19; clear h6 z6 hA6 hb7)
    | (go_at_call 91; (with_reducible refine (HL.out _).mono ?_); rintro e w8 ⟨rfl, hb8⟩; have h8 := h7.up hb8; have z8 := z7.up hb8; have hA8 := Chain.up hA7 hb8; clear h7 z7 hA7 hb8)
    | (refine wpList_stB (by rfl) _ _ _ (by rfl) h8 3 _ (by rfl) (by rfl) 5 19 (by rfl) (by rfl) (by decide) infoRL (by rfl) (by rfl) ?_; intro w9 hz' hb9; have h9 : Bx w9 (w.heap.size + 1) 62 #[.int .u8 0, .int .u64 0, .int .u64 0, .int .u8 0, .int .u64 0, .int .u64 0, S o, V64 t, .int .u8 (X.a.fam : Nat), V64 X.a.hi, V64 X.a.lo, .int .i64 X.bits, .bool true, .bool bd, .bool true, .int .u64 0, .slice none 0 0, .slice none 0 0, .slice none 0 0] := hz'; clear hz'; have z9 := z8.but hb9 (by omega); have hA9 := hA8.trans (hb9.below (Nat.le_succ _) hA8.size); clear h8 z8 hA8 hb9)
    | (refine wpList_ldB (by rfl) _ _ (by rfl) h9 (by rfl) structRAn 19 infoRAn (by rfl) ?_)
    | (refine wpList_stB (by rfl) _ _ _ (by rfl) z9 _ _ (by rfl) (by rfl) 19 19 (by rfl) (by rfl) (by decide) infoRAn (by rfl) (by rfl) ?_; intro w99 hz' hb99; have z99 : Bx w99 w.heap.size 62 #[.int .u8 0, .int .u64 0, .int .u64 0, .int .u8 0, .int .u64 0, .int .u64 0, S o, V64 t, .int .u8 (X.a.fam : Nat), V64 X.a.hi, V64 X.a.lo, .int .i64 X.bits, .bool true, .bool bd, .bool true, .int .u64 0, .slice none 0 0, .slice none 0 0, .slice none 0 0] := hz'; clear hz'))
  exact bodyPost_ret (results_box2 rfl (by rfl) (loadB z99 structRAn infoRAn rfl)) rfl ⟨none, 0, none, 0, none, 0, by rw [Hr.out]; rfl, by rw [Hr.out]; exact OwnD.none _ _ _ rfl rfl rfl, hA9.trans (hb99.below (Nat.le_refl _) hA9.size)⟩
theorem heard_10 (op : Nat) (s : List UInt8) (hs : s.length ≤ 1000000000) (hop : op = 10) (w : World) : Calls Tryd.prog 68 #[.int .u8 (op : Nat), S s] w (HeardDid op s w) := by
  cases h1 : ((P.tkC s).1 % 2 == 1) <;> cases h4 : ((P.tkC s).1 / 4 % 2 == 1)
  · exact heard_10_00 op s hs hop h1 h4 w
  · exact heard_10_01 op s hs hop h1 h4 w
  · exact heard_10_10 op s hs hop h1 h4 w
  · exact heard_10_11 op s hs hop h1 h4 w
end Go.Proofs.YtcobfoiajdbahaaDoor
