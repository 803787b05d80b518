/- The walk of what the document hears of rows, events, prefixes. -/
import Derived.Test.YtcobfoiajdbahaaDoorWQHeardK
namespace Go.Proofs.YtcobfoiajdbahaaDoor
open Go.RowKit
set_option linter.unusedVariables false
set_option linter.unusedSimpArgs false
theorem evD_one (r : P.Ev) : ∀ u ∈ evD r, u.oneCell' = true := by intro u hu; simp only [evD, List.mem_cons, List.not_mem_nil, or_false] at hu; rcases hu with rfl | rfl | rfl | rfl | rfl | rfl | rfl <;> rfl
theorem infoRL3 : (Tryd.prog.info? 57).map (fun i => (i.zero, i.size, i.bytes)) = some (some (.agg #[.int .u8 0, .int .u64 0, .int .u64 0, .string ⟨#[]⟩, .int .u64 0]), 5, 48) := by kernel_rfl
theorem infoRE3 : (Tryd.prog.info? 126).map (fun i => (i.zero, i.size, i.bytes)) = some (some (.agg #[.int .u8 0, .int .u64 0, .int .u64 0, .int .i64 0, .string ⟨#[]⟩, .int .u64 0, .int .u64 0]), 7, 64) := by kernel_rfl
theorem infoRX3 : (Tryd.prog.info? 44).map (fun i => (i.zero, i.size, i.bytes)) = some (some (.agg #[.int .u8 0, .int .u64 0, .int .u64 0, .int .i64 0]), 4, 32) := by kernel_rfl
theorem infoRE : (Tryd.prog.info? 126).map (·.size) = some 7 := by kernel_rfl
theorem structRE : Tryd.prog.underlying 126 = some (.struct (Tryd.prog.fieldsOf 126)) := by kernel_rfl
theorem infoSLD : (Tryd.prog.info? 58).map (·.size) = some 1 := by kernel_rfl
theorem infoSED : (Tryd.prog.info? 59).map (·.size) = some 1 := by kernel_rfl
theorem infoSXD : (Tryd.prog.info? 60).map (·.size) = some 1 := by kernel_rfl
theorem P.tkList_len {α : Type} (f : List UInt8 → α × List UInt8) : ∀ k s, (P.tkList f k s).1.length = k
  | 0, s => rfl
  | k + 1, s => by
    unfold P.tkList
    rw [List.length_append, P.tkList_len f k s]
    rfl
theorem P.tkList_le {α : Type} (f : List UInt8 → α × List UInt8) (hf : ∀ s, (f s).2.length ≤ s.length) : ∀ k s, (P.tkList f k s).2.length ≤ s.length
  | 0, s => Nat.le_refl _
  | k + 1, s => by
    unfold P.tkList
    exact Nat.le_trans (hf _) (P.tkList_le f hf k s)
theorem P.tkRw_le (s : List UInt8) : (P.tkRw s).2.length ≤ s.length := Nat.le_trans (P.tkL_le _) (P.tkA_le s)
theorem P.tkEv_le (s : List UInt8) : (P.tkEv s).2.length ≤ s.length := Nat.le_trans (P.tkN_le _) (Nat.le_trans (P.tkN_le _) (Nat.le_trans (P.tkT_le _) (P.tkC_le s)))
set_option maxRecDepth 100000 in
set_option maxHeartbeats 4000000 in
theorem heard_13 (op : Nat) (s : List UInt8) (hs : s.length ≤ 1000000000) (hop : op = 13) (w : World) : Calls Tryd.prog 68 #[.int .u8 (op : Nat), S s] w (HeardDid op s w) := by
  obtain ⟨z1, h1, hA1⟩ := two_bx w #[.int .u8 0, .int .u64 0, .int .u64 0, .int .u8 0, .int .u64 0, .int .u64 0, .string ⟨#[]⟩, .int .u64 0, .int .u8 0, .int .u64 0, .int .u64 0, .int .i64 0, .bool false, .bool false, .bool false, .int .u64 0, .slice none 0 0, .slice none 0 0, .slice none 0 0] #[.int .u8 0, .int .u64 0, .int .u64 0, .int .u8 0, .int .u64 0, .int .u64 0, .string ⟨#[]⟩, .int .u64 0, .int .u8 0, .int .u64 0, .int .u64 0, .int .i64 0, .bool false, .bool false, .bool false, .int .u64 0, .slice none 0 0, .slice none 0 0, .slice none 0 0] 62 62
  have HC := Lib.hid (fun wx => tkC_any s hs wx)
  have hq0 : (P.tkC s).2.length ≤ 1000000000 := Nat.le_trans (P.tkC_le s) hs
  have hn0 := P.tkC_lt s
  have Hr := Lib.hid (show P.tkTold op s = ({ P.noAn with pools := (P.tkList P.tkX (P.tkC s).1 (P.tkC s).2).1 }, (P.tkList P.tkX (P.tkC s).1 (P.tkC s).2).2) by rw [hop]; rfl)
  unfold HeardDid
  generalize P.tkTold op s = res at *
  generalize P.tkC s = y at *
  obtain ⟨n, q0⟩ := y
  simp only at HC hq0 hn0 Hr
  have t5 : ((op : Int) == 5) = false := beq_eq_false_iff_ne.2 (by omega)
  have t6 : ((op : Int) == 6) = false := beq_eq_false_iff_ne.2 (by omega)
  have t7 : ((op : Int) == 7) = false := beq_eq_false_iff_ne.2 (by omega)
  have t10 : ((op : Int) == 10) = false := beq_eq_false_iff_ne.2 (by omega)
  have t11 : ((op : Int) == 11) = false := beq_eq_false_iff_ne.2 (by omega)
  have t12 : ((op : Int) == 12) = false := beq_eq_false_iff_ne.2 (by omega)
  have t13 : ((op : Int) == 13) = true := beq_iff_eq.2 (by omega)
  clear hop
  go_enter Tryd.func68, Tryd.ntmps68
  go_wp2_with (go_at_call 61; (with_reducible refine (HC.out _).mono ?_); rintro e w2 ⟨rfl, hb2⟩; have h2 := h1.up hb2; have z2 := z1.up hb2; have hA2 := Chain.up hA1 hb2; clear h1 z1 hA1 hb2)
  go_loopw [1, 13, 14] (fun s1 i p14 wr => ∃ (k : Nat) (a : Option Addr) (c : Nat), k ≤ n ∧ i = .int .i64 ((k : Nat) : Int) ∧ s1 = S (P.tkList P.tkX k q0).2 ∧ Bx wr (w.heap.size + 1) 62 #[.int .u8 0, .int .u64 0, .int .u64 0, .int .u8 0, .int .u64 0, .int .u64 0, .string ⟨#[]⟩, .int .u64 0, .int .u8 0, .int .u64 0, .int .u64 0, .int .i64 0, .bool false, .bool false, .bool false, .int .u64 0, .slice none 0 0, .slice none 0 0, .slice a (P.tkList P.tkX k q0).1.length c] ∧ Bx wr w.heap.size 62 #[.int .u8 0, .int .u64 0, .int .u64 0, .int .u8 0, .int .u64 0, .int .u64 0, .string ⟨#[]⟩, .int .u64 0, .int .u8 0, .int .u64 0, .int .u64 0, .int .i64 0, .bool false, .bool false, .bool false, .int .u64 0, .slice none 0 0, .slice none 0 0, .slice none 0 0] ∧ OwnR 44 4 pxC wr w.heap.size (.slice a (P.tkList P.tkX k q0).1.length c) (P.tkList P.tkX k q0).1 ∧ Below w.heap.size w wr) (fun _ i _ _ => n - (intOf i).toNat)
  case atStart => exact ⟨0, none, 0, Nat.zero_le _, rfl, rfl, h2, z2, ownR_nil _ _, hA2⟩
  case round =>
    clear h2 z2 hA2
    obtain ⟨k, a, c, hk, rfl, rfl, h0, z0, own0, hA0⟩ := hrel
    have hg := h0.lt
    by_cases hkn : k < n
    · have hki : ((k : Nat) : Int) < ((n : Nat) : Int) := by omega
      have Hlen := Lib.hid (P.tkList_len P.tkX k q0)
      have hs2 : (P.tkList P.tkX k q0).2.length ≤ 1000000000 := Nat.le_trans (P.tkList_le P.tkX P.tkX_le k q0) hq0
      have Hnx := Lib.hid (show P.tkList P.tkX (k + 1) q0 = ((P.tkList P.tkX k q0).1 ++ [(P.tkX (P.tkList P.tkX k q0).2).1], (P.tkX (P.tkList P.tkX k q0).2).2) from rfl)
      have HK := Lib.hid hkn
      generalize P.tkList P.tkX k q0 = y at *
      obtain ⟨L, s2⟩ := y
      simp only at Hlen hs2 Hnx own0 h0
      have HT := Lib.hid (fun wx => tkX_any s2 hs2 wx)
      generalize P.tkX s2 = y at *
      obtain ⟨X, s3⟩ := y
      simp only at HT Hnx
      have hR0 := Below.refl wr.heap.size wr
      have lp1 := Bx.fresh wr 44 #[.int .u8 0, .int .u64 0, .int .u64 0, .int .i64 0]
      have hllp := hR0.size
      have hR1 := hR0.alloc hR0.size (.cells #[.int .u8 0, .int .u64 0, .int .u64 0, .int .i64 0] 44)
      obtain ⟨iE, e1, e2, e3, e4⟩ := info_parts infoRX3
      have hL1 : L.length ≤ 255 := by have := Hlen.out; omega
      go_wp2_with (first
        | (refine wpList_stB (by rfl) _ _ _ (by rfl) lp1 0 _ (by rfl) (by rfl) 4 4 (by rfl) (by rfl) (by decide) infoRX (by rfl) (by rfl) ?_; intro w2 hz' hb2; have lp2 : Bx w2 wr.heap.size 44 #[.int .u8 0, .int .u64 0, .int .u64 0, .int .i64 0] := hz'; clear hz'; have hR2 := hR1.trans (hb2.below hllp hR1.size); clear hR1 hb2 lp1)
        | (go_at_call 57; (with_reducible refine (HT.out _).mono ?_); rintro e w3 ⟨rfl, hb3⟩; have hR3 := Chain.up hR2 hb3; have lp3 := lp2.up hb3; clear hR2 hb3 lp2)
        | (refine wpList_stB (by rfl) _ _ _ (by rfl) lp3 0 _ (by rfl) (by rfl) 4 4 (by rfl) (by rfl) (by decide) infoRX (by rfl) (by rfl) ?_; intro w4 hz' hb4; have lp4 : Bx w4 wr.heap.size 44 #[.int .u8 (X.a.fam : Nat), V64 X.a.hi, V64 X.a.lo, .int .i64 X.bits] := hz'; clear hz'; have hR4 := hR3.trans (hb4.below hllp hR3.size); clear hR3 hb4 lp3; have hN := h0.up hR4; have zN := z0.up hR4; have ownN := own0.up hR4; have hAN := Chain.up hA0 hR4; obtain ⟨cN0, cN1, cN2, cN3, cN4, cN5, cN6, cN7, cN8, cN9, cN10, cN11, cN12, cN13, cN14, cN15, cN16, cN17, cN18⟩ := hN.cells19; have hgN := hN.lt)
        | (refine wpList_ldB (by rfl) _ _ (by rfl) lp4 (by rfl) structRX 4 infoRX (by rfl) ?_)
        | (at_builtin; (refine wpList_appR (by rfl) _ _ _ (by rfl) iE _ _ Tryd.underlying60 e1 e2 e3 e4 rfl (by decide) pxC_len pxC_one [X] (by rfl) (ownN.alloc (.cells #[.int .u8 (X.a.fam : Nat), V64 X.a.hi, V64 X.a.lo, .int .i64 X.bits] 44)) (by simp only [List.length_singleton]; omega) (by decide) _ _ _ (by rfl) (by rfl) (rows_new 4 pxC pxC_len w4 [X] #[.int .u8 (X.a.fam : Nat), V64 X.a.hi, V64 X.a.lo, .int .i64 X.bits] 44 rfl) (by have := hN.lt; simp only [World.size_alloc]; omega) ?_); intro v9 w9 hown9 hb9 hkt9; obtain ⟨a9, c9, hv9, -, -⟩ := hown9.is pxC_len; (rw [List.length_append, List.length_singleton] at hv9); subst hv9; have h9 := hkt9 _ _ _ _ (by decide) (hN.alloc (.cells #[.int .u8 (X.a.fam : Nat), V64 X.a.hi, V64 X.a.lo, .int .i64 X.bits] 44)); have z9 := hkt9 _ _ _ _ (by decide) (zN.alloc (.cells #[.int .u8 (X.a.fam : Nat), V64 X.a.hi, V64 X.a.lo, .int .i64 X.bits] 44)); have hA9 := (hAN.alloc hAN.size (.cells #[.int .u8 (X.a.fam : Nat), V64 X.a.hi, V64 X.a.lo, .int .i64 X.bits] 44)).trans hb9; clear hN zN ownN hAN hb9 hkt9)
        | (refine wpList_stV (by rfl) _ _ _ (by rfl) (show Bx w9 (w.heap.size + 1) 62 #[.int .u8 0, .int .u64 0, .int .u64 0, .int .u8 0, .int .u64 0, .int .u64 0, .string ⟨#[]⟩, .int .u64 0, .int .u8 0, .int .u64 0, .int .u64 0, .int .i64 0, .bool false, .bool false, .bool false, .int .u64 0, .slice none 0 0, .slice none 0 0, .slice a L.length c] from h9) 18 _ (by rfl) (by rfl) (by rfl) (by rfl) 19 (by rfl) (by decide) infoSXD (by rfl) ?_; intro w10 hz' hb10; have h10 : Bx w10 (w.heap.size + 1) 62 #[.int .u8 0, .int .u64 0, .int .u64 0, .int .u8 0, .int .u64 0, .int .u64 0, .string ⟨#[]⟩, .int .u64 0, .int .u8 0, .int .u64 0, .int .u64 0, .int .i64 0, .bool false, .bool false, .bool false, .int .u64 0, .slice none 0 0, .slice none 0 0, .slice a9 (L.length + 1) c9] := hz'; clear hz'; have z10 := (show Bx w9 w.heap.size 62 #[.int .u8 0, .int .u64 0, .int .u64 0, .int .u8 0, .int .u64 0, .int .u64 0, .string ⟨#[]⟩, .int .u64 0, .int .u8 0, .int .u64 0, .int .u64 0, .int .i64 0, .bool false, .bool false, .bool false, .int .u64 0, .slice none 0 0, .slice none 0 0, .slice none 0 0] from z9).but hb10 (by omega); have own10 := hown9.but (show Bx w9 (w.heap.size + 1) 62 #[.int .u8 0, .int .u64 0, .int .u64 0, .int .u8 0, .int .u64 0, .int .u64 0, .string ⟨#[]⟩, .int .u64 0, .int .u8 0, .int .u64 0, .int .u64 0, .int .i64 0, .bool false, .bool false, .bool false, .int .u64 0, .slice none 0 0, .slice none 0 0, .slice a L.length c] from h9) (by decide) hb10; have hA10 := hA9.trans (hb10.below (Nat.le_succ _) hA9.size)))
      go_roundw
      case rel => exact ⟨k + 1, a9, c9, by have := HK.out; omega, by go_num, by rw [Hnx.out], by rw [Hnx.out, List.length_append, List.length_singleton]; exact h10, z10, by rw [Hnx.out, List.length_append, List.length_singleton]; exact own10, hA10⟩
      case measure => simp [intOf]; have := HK.out; omega
    · have hke : k = n := by omega
      subst hke
      generalize P.tkList P.tkX k q0 = y at *
      obtain ⟨L, s2⟩ := y
      simp only at own0 h0 Hr
      have hge : ¬ ((k : Nat) : Int) < ((k : Nat) : Int) := by omega
      clear hkn hk
      go_wp2_with (first
        | (refine wpList_ldB (by rfl) _ _ (by rfl) h0 (by rfl) structRAn 19 infoRAn (by rfl) ?_)
        | (refine wpList_stB (by rfl) _ _ _ (by rfl) z0 _ _ (by rfl) (by rfl) 19 19 (by rfl) (by rfl) (by decide) infoRAn (by rfl) (by rfl) ?_; intro w99 hz' hb99; have z99 : Bx w99 w.heap.size 62 #[.int .u8 0, .int .u64 0, .int .u64 0, .int .u8 0, .int .u64 0, .int .u64 0, .string ⟨#[]⟩, .int .u64 0, .int .u8 0, .int .u64 0, .int .u64 0, .int .i64 0, .bool false, .bool false, .bool false, .int .u64 0, .slice none 0 0, .slice none 0 0, .slice a L.length c] := hz'; clear hz'))
      exact bodyPost_ret (results_box2 rfl (by rfl) (loadB z99 structRAn infoRAn rfl)) rfl ⟨none, 0, none, 0, a, c, by rw [Hr.out]; rfl, by rw [Hr.out]; exact ⟨ownR_nil _ _, ownR_nil _ _, own0.but z0 (by decide) hb99⟩, hA0.trans (hb99.below (Nat.le_refl _) hA0.size)⟩
set_option maxRecDepth 100000 in
set_option maxHeartbeats 4000000 in
theorem heard_14 (op : Nat) (s : List UInt8) (hs : s.length ≤ 1000000000) (hop : op = 14) (w : World) : Calls Tryd.prog 68 #[.int .u8 (op : Nat), S s] w (HeardDid op s w) := by
  obtain ⟨z1, h1, hA1⟩ := two_bx w #[.int .u8 0, .int .u64 0, .int .u64 0, .int .u8 0, .int .u64 0, .int .u64 0, .string ⟨#[]⟩, .int .u64 0, .int .u8 0, .int .u64 0, .int .u64 0, .int .i64 0, .bool false, .bool false, .bool false, .int .u64 0, .slice none 0 0, .slice none 0 0, .slice none 0 0] #[.int .u8 0, .int .u64 0, .int .u64 0, .int .u8 0, .int .u64 0, .int .u64 0, .string ⟨#[]⟩, .int .u64 0, .int .u8 0, .int .u64 0, .int .u64 0, .int .i64 0, .bool false, .bool false, .bool false, .int .u64 0, .slice none 0 0, .slice none 0 0, .slice none 0 0] 62 62
  have HC := Lib.hid (fun wx => tkC_any s hs wx)
  have hq0 : (P.tkC s).2.length ≤ 1000000000 := Nat.le_trans (P.tkC_le s) hs
  have hn0 := P.tkC_lt s
  have Hr := Lib.hid (show P.tkTold op s = ({ P.noAn with pools := (P.tkList P.tkX (P.tkC s).1 (P.tkC s).2).1 }, (P.tkList P.tkX (P.tkC s).1 (P.tkC s).2).2) by rw [hop]; rfl)
  unfold HeardDid
  generalize P.tkTold op s = res at *
  generalize P.tkC s = y at *
  obtain ⟨n, q0⟩ := y
  simp only at HC hq0 hn0 Hr
  have t5 : ((op : Int) == 5) = false := beq_eq_false_iff_ne.2 (by omega)
  have t6 : ((op : Int) == 6) = false := beq_eq_false_iff_ne.2 (by omega)
  have t7 : ((op : Int) == 7) = false := beq_eq_false_iff_ne.2 (by omega)
  have t10 : ((op : Int) == 10) = false := beq_eq_false_iff_ne.2 (by omega)
  have t11 : ((op : Int) == 11) = false := beq_eq_false_iff_ne.2 (by omega)
  have t12 : ((op : Int) == 12) = false := beq_eq_false_iff_ne.2 (by omega)
  have t13 : ((op : Int) == 13) = false := beq_eq_false_iff_ne.2 (by omega)
  have t14 : ((op : Int) == 14) = true := beq_iff_eq.2 (by omega)
  clear hop
  go_enter Tryd.func68, Tryd.ntmps68
  go_wp2_with (go_at_call 61; (with_reducible refine (HC.out _).mono ?_); rintro e w2 ⟨rfl, hb2⟩; have h2 := h1.up hb2; have z2 := z1.up hb2; have hA2 := Chain.up hA1 hb2; clear h1 z1 hA1 hb2)
  go_loopw [1, 13, 14] (fun s1 i p14 wr => ∃ (k : Nat) (a : Option Addr) (c : Nat), k ≤ n ∧ i = .int .i64 ((k : Nat) : Int) ∧ s1 = S (P.tkList P.tkX k q0).2 ∧ Bx wr (w.heap.size + 1) 62 #[.int .u8 0, .int .u64 0, .int .u64 0, .int .u8 0, .int .u64 0, .int .u64 0, .string ⟨#[]⟩, .int .u64 0, .int .u8 0, .int .u64 0, .int .u64 0, .int .i64 0, .bool false, .bool false, .bool false, .int .u64 0, .slice none 0 0, .slice none 0 0, .slice a (P.tkList P.tkX k q0).1.length c] ∧ Bx wr w.heap.size 62 #[.int .u8 0, .int .u64 0, .int .u64 0, .int .u8 0, .int .u64 0, .int .u64 0, .string ⟨#[]⟩, .int .u64 0, .int .u8 0, .int .u64 0, .int .u64 0, .int .i64 0, .bool false, .bool false, .bool false, .int .u64 0, .slice none 0 0, .slice none 0 0, .slice none 0 0] ∧ OwnR 44 4 pxC wr w.heap.size (.slice a (P.tkList P.tkX k q0).1.length c) (P.tkList P.tkX k q0).1 ∧ Below w.heap.size w wr) (fun _ i _ _ => n - (intOf i).toNat)
  case atStart => exact ⟨0, none, 0, Nat.zero_le _, rfl, rfl, h2, z2, ownR_nil _ _, hA2⟩
  case round =>
    clear h2 z2 hA2
    obtain ⟨k, a, c, hk, rfl, rfl, h0, z0, own0, hA0⟩ := hrel
    have hg := h0.lt
    by_cases hkn : k < n
    · have hki : ((k : Nat) : Int) < ((n : Nat) : Int) := by omega
      have Hlen := Lib.hid (P.tkList_len P.tkX k q0)
      have hs2 : (P.tkList P.tkX k q0).2.length ≤ 1000000000 := Nat.le_trans (P.tkList_le P.tkX P.tkX_le k q0) hq0
      have Hnx := Lib.hid (show P.tkList P.tkX (k + 1) q0 = ((P.tkList P.tkX k q0).1 ++ [(P.tkX (P.tkList P.tkX k q0).2).1], (P.tkX (P.tkList P.tkX k q0).2).2) from rfl)
      have HK := Lib.hid hkn
      generalize P.tkList P.tkX k q0 = y at *
      obtain ⟨L, s2⟩ := y
      simp only at Hlen hs2 Hnx own0 h0
      have HT := Lib.hid (fun wx => tkX_any s2 hs2 wx)
      generalize P.tkX s2 = y at *
      obtain ⟨X, s3⟩ := y
      simp only at HT Hnx
      have hR0 := Below.refl wr.heap.size wr
      have lp1 := Bx.fresh wr 44 #[.int .u8 0, .int .u64 0, .int .u64 0, .int .i64 0]
      have hllp := hR0.size
      have hR1 := hR0.alloc hR0.size (.cells #[.int .u8 0, .int .u64 0, .int .u64 0, .int .i64 0] 44)
      obtain ⟨iE, e1, e2, e3, e4⟩ := info_parts infoRX3
      have hL1 : L.length ≤ 255 := by have := Hlen.out; omega
      go_wp2_with (first
        | (refine wpList_stB (by rfl) _ _ _ (by rfl) lp1 0 _ (by rfl) (by rfl) 4 4 (by rfl) (by rfl) (by decide) infoRX (by rfl) (by rfl) ?_; intro w2 hz' hb2; have lp2 : Bx w2 wr.heap.size 44 #[.int .u8 0, .int .u64 0, .int .u64 0, .int .i64 0] := hz'; clear hz'; have hR2 := hR1.trans (hb2.below hllp hR1.size); clear hR1 hb2 lp1)
        | (go_at_call 57; (with_reducible refine (HT.out _).mono ?_); rintro e w3 ⟨rfl, hb3⟩; have hR3 := Chain.up hR2 hb3; have lp3 := lp2.up hb3; clear hR2 hb3 lp2)
        | (refine wpList_stB (by rfl) _ _ _ (by rfl) lp3 0 _ (by rfl) (by rfl) 4 4 (by rfl) (by rfl) (by decide) infoRX (by rfl) (by rfl) ?_; intro w4 hz' hb4; have lp4 : Bx w4 wr.heap.size 44 #[.int .u8 (X.a.fam : Nat), V64 X.a.hi, V64 X.a.lo, .int .i64 X.bits] := hz'; clear hz'; have hR4 := hR3.trans (hb4.below hllp hR3.size); clear hR3 hb4 lp3; have hN := h0.up hR4; have zN := z0.up hR4; have ownN := own0.up hR4; have hAN := Chain.up hA0 hR4; obtain ⟨cN0, cN1, cN2, cN3, cN4, cN5, cN6, cN7, cN8, cN9, cN10, cN11, cN12, cN13, cN14, cN15, cN16, cN17, cN18⟩ := hN.cells19; have hgN := hN.lt)
        | (refine wpList_ldB (by rfl) _ _ (by rfl) lp4 (by rfl) structRX 4 infoRX (by rfl) ?_)
        | (at_builtin; (refine wpList_appR (by rfl) _ _ _ (by rfl) iE _ _ Tryd.underlying60 e1 e2 e3 e4 rfl (by decide) pxC_len pxC_one [X] (by rfl) (ownN.alloc (.cells #[.int .u8 (X.a.fam : Nat), V64 X.a.hi, V64 X.a.lo, .int .i64 X.bits] 44)) (by simp only [List.length_singleton]; omega) (by decide) _ _ _ (by rfl) (by rfl) (rows_new 4 pxC pxC_len w4 [X] #[.int .u8 (X.a.fam : Nat), V64 X.a.hi, V64 X.a.lo, .int .i64 X.bits] 44 rfl) (by have := hN.lt; simp only [World.size_alloc]; omega) ?_); intro v9 w9 hown9 hb9 hkt9; obtain ⟨a9, c9, hv9, -, -⟩ := hown9.is pxC_len; (rw [List.length_append, List.length_singleton] at hv9); subst hv9; have h9 := hkt9 _ _ _ _ (by decide) (hN.alloc (.cells #[.int .u8 (X.a.fam : Nat), V64 X.a.hi, V64 X.a.lo, .int .i64 X.bits] 44)); have z9 := hkt9 _ _ _ _ (by decide) (zN.alloc (.cells #[.int .u8 (X.a.fam : Nat), V64 X.a.hi, V64 X.a.lo, .int .i64 X.bits] 44)); have hA9 := (hAN.alloc hAN.size (.cells #[.int .u8 (X.a.fam : Nat), V64 X.a.hi, V64 X.a.lo, .int .i64 X.bits] 44)).trans hb9; clear hN zN ownN hAN hb9 hkt9)
        | (refine wpList_stV (by rfl) _ _ _ (by rfl) (show Bx w9 (w.heap.size + 1) 62 #[.int .u8 0, .int .u64 0, .int .u64 0, .int .u8 0, .int .u64 0, .int .u64 0, .string ⟨#[]⟩, .int .u64 0, .int .u8 0, .int .u64 0, .int .u64 0, .int .i64 0, .bool false, .bool false, .bool false, .int .u64 0, .slice none 0 0, .slice none 0 0, .slice a L.length c] from h9) 18 _ (by rfl) (by rfl) (by rfl) (by rfl) 19 (by rfl) (by decide) infoSXD (by rfl) ?_; intro w10 hz' hb10; have h10 : Bx w10 (w.heap.size + 1) 62 #[.int .u8 0, .int .u64 0, .int .u64 0, .int .u8 0, .int .u64 0, .int .u64 0, .string ⟨#[]⟩, .int .u64 0, .int .u8 0, .int .u64 0, .int .u64 0, .int .i64 0, .bool false, .bool false, .bool false, .int .u64 0, .slice none 0 0, .slice none 0 0, .slice a9 (L.length + 1) c9] := hz'; clear hz'; have z10 := (show Bx w9 w.heap.size 62 #[.int .u8 0, .int .u64 0, .int .u64 0, .int .u8 0, .int .u64 0, .int .u64 0, .string ⟨#[]⟩, .int .u64 0, .int .u8 0, .int .u64 0, .int .u64 0, .int .i64 0, .bool false, .bool false, .bool false, .int .u64 0, .slice none 0 0, .slice none 0 0, .slice none 0 0] from z9).but hb10 (by omega); have own10 := hown9.but (show Bx w9 (w.heap.size + 1) 62 #[.int .u8 0, .int .u64 0, .int .u64 0, .int .u8 0, .int .u64 0, .int .u64 0, .string ⟨#[]⟩, .int .u64 0, .int .u8 0, .int .u64 0, .int .u64 0, .int .i64 0, .bool false, .bool false, .bool false, .int .u64 0, .slice none 0 0, .slice none 0 0, .slice a L.length c] from h9) (by decide) hb10; have hA10 := hA9.trans (hb10.below (Nat.le_succ _) hA9.size)))
      go_roundw
      case rel => exact ⟨k + 1, a9, c9, by have := HK.out; omega, by go_num, by rw [Hnx.out], by rw [Hnx.out, List.length_append, List.length_singleton]; exact h10, z10, by rw [Hnx.out, List.length_append, List.length_singleton]; exact own10, hA10⟩
      case measure => simp [intOf]; have := HK.out; omega
    · have hke : k = n := by omega
      subst hke
      generalize P.tkList P.tkX k q0 = y at *
      obtain ⟨L, s2⟩ := y
      simp only at own0 h0 Hr
      have hge : ¬ ((k : Nat) : Int) < ((k : Nat) : Int) := by omega
      clear hkn hk
      go_wp2_with (first
        | (refine wpList_ldB (by rfl) _ _ (by rfl) h0 (by rfl) structRAn 19 infoRAn (by rfl) ?_)
        | (refine wpList_stB (by rfl) _ _ _ (by rfl) z0 _ _ (by rfl) (by rfl) 19 19 (by rfl) (by rfl) (by decide) infoRAn (by rfl) (by rfl) ?_; intro w99 hz' hb99; have z99 : Bx w99 w.heap.size 62 #[.int .u8 0, .int .u64 0, .int .u64 0, .int .u8 0, .int .u64 0, .int .u64 0, .string ⟨#[]⟩, .int .u64 0, .int .u8 0, .int .u64 0, .int .u64 0, .int .i64 0, .bool false, .bool false, .bool false, .int .u64 0, .slice none 0 0, .slice none 0 0, .slice a L.length c] := hz'; clear hz'))
      exact bodyPost_ret (results_box2 rfl (by rfl) (loadB z99 structRAn infoRAn rfl)) rfl ⟨none, 0, none, 0, a, c, by rw [Hr.out]; rfl, by rw [Hr.out]; exact ⟨ownR_nil _ _, ownR_nil _ _, own0.but z0 (by decide) hb99⟩, hA0.trans (hb99.below (Nat.le_refl _) hA0.size)⟩
set_option maxRecDepth 100000 in
set_option maxHeartbeats 4000000 in
theorem heard_12 (op : Nat) (s : List UInt8) (hs : s.length ≤ 1000000000) (hop : op = 12) (w : World) : Calls Tryd.prog 68 #[.int .u8 (op : Nat), S s] w (HeardDid op s w) := by
  obtain ⟨z1, h1, hA1⟩ := two_bx w #[.int .u8 0, .int .u64 0, .int .u64 0, .int .u8 0, .int .u64 0, .int .u64 0, .string ⟨#[]⟩, .int .u64 0, .int .u8 0, .int .u64 0, .int .u64 0, .int .i64 0, .bool false, .bool false, .bool false, .int .u64 0, .slice none 0 0, .slice none 0 0, .slice none 0 0] #[.int .u8 0, .int .u64 0, .int .u64 0, .int .u8 0, .int .u64 0, .int .u64 0, .string ⟨#[]⟩, .int .u64 0, .int .u8 0, .int .u64 0, .int .u64 0, .int .i64 0, .bool false, .bool false, .bool false, .int .u64 0, .slice none 0 0, .slice none 0 0, .slice none 0 0] 62 62
  have HC := Lib.hid (fun wx => tkC_any s hs wx)
  have hq0 : (P.tkC s).2.length ≤ 1000000000 := Nat.le_trans (P.tkC_le s) hs
  have hn0 := P.tkC_lt s
  have Hr := Lib.hid (show P.tkTold op s = ({ P.noAn with events := (P.tkList P.tkEv (P.tkC s).1 (P.tkC s).2).1 }, (P.tkList P.tkEv (P.tkC s).1 (P.tkC s).2).2) by rw [hop]; rfl)
  unfold HeardDid
  generalize P.tkTold op s = res at *
  generalize P.tkC s = y at *
  obtain ⟨n, q0⟩ := y
  simp only at HC hq0 hn0 Hr
  have t5 : ((op : Int) == 5) = false := beq_eq_false_iff_ne.2 (by omega)
  have t6 : ((op : Int) == 6) = false := beq_eq_false_iff_ne.2 (by omega)
  have t7 : ((op : Int) == 7) = false := beq_eq_false_iff_ne.2 (by omega)
  have t10 : ((op : Int) == 10) = false := beq_eq_false_iff_ne.2 (by omega)
  have t11 : ((op : Int) == 11) = false := beq_eq_false_iff_ne.2 (by omega)
  have t12 : ((op : Int) == 12) = true := beq_iff_eq.2 (by omega)
  clear hop
  go_enter Tryd.func68, Tryd.ntmps68
  go_wp2_with (go_at_call 61; (with_reducible refine (HC.out _).mono ?_); rintro e w2 ⟨rfl, hb2⟩; have h2 := h1.up hb2; have z2 := z1.up hb2; have hA2 := Chain.up hA1 hb2; clear h1 z1 hA1 hb2)
  go_loopw [1, 11, 12] (fun s1 i p12 wr => ∃ (k : Nat) (a : Option Addr) (c : Nat), k ≤ n ∧ i = .int .i64 ((k : Nat) : Int) ∧ s1 = S (P.tkList P.tkEv k q0).2 ∧ Bx wr (w.heap.size + 1) 62 #[.int .u8 0, .int .u64 0, .int .u64 0, .int .u8 0, .int .u64 0, .int .u64 0, .string ⟨#[]⟩, .int .u64 0, .int .u8 0, .int .u64 0, .int .u64 0, .int .i64 0, .bool false, .bool false, .bool false, .int .u64 0, .slice none 0 0, .slice a (P.tkList P.tkEv k q0).1.length c, .slice none 0 0] ∧ Bx wr w.heap.size 62 #[.int .u8 0, .int .u64 0, .int .u64 0, .int .u8 0, .int .u64 0, .int .u64 0, .string ⟨#[]⟩, .int .u64 0, .int .u8 0, .int .u64 0, .int .u64 0, .int .i64 0, .bool false, .bool false, .bool false, .int .u64 0, .slice none 0 0, .slice none 0 0, .slice none 0 0] ∧ OwnR 126 7 evD wr w.heap.size (.slice a (P.tkList P.tkEv k q0).1.length c) (P.tkList P.tkEv k q0).1 ∧ Below w.heap.size w wr) (fun _ i _ _ => n - (intOf i).toNat)
  case atStart => exact ⟨0, none, 0, Nat.zero_le _, rfl, rfl, h2, z2, ownR_nil _ _, hA2⟩
  case round =>
    clear h2 z2 hA2
    obtain ⟨k, a, c, hk, rfl, rfl, h0, z0, own0, hA0⟩ := hrel
    have hg := h0.lt
    by_cases hkn : k < n
    · have hki : ((k : Nat) : Int) < ((n : Nat) : Int) := by omega
      have Hlen := Lib.hid (P.tkList_len P.tkEv k q0)
      have hs2 : (P.tkList P.tkEv k q0).2.length ≤ 1000000000 := Nat.le_trans (P.tkList_le P.tkEv P.tkEv_le k q0) hq0
      have Hnx := Lib.hid (show P.tkList P.tkEv (k + 1) q0 = ((P.tkList P.tkEv k q0).1 ++ [(P.tkEv (P.tkList P.tkEv k q0).2).1], (P.tkEv (P.tkList P.tkEv k q0).2).2) from rfl)
      have HK := Lib.hid hkn
      generalize P.tkList P.tkEv k q0 = y at *
      obtain ⟨L, s2⟩ := y
      simp only at Hlen hs2 Hnx own0 h0
      have HT1 := Lib.hid (fun wx => tkC_any s2 hs2 wx)
      have hr1 : (P.tkC s2).2.length ≤ 1000000000 := Nat.le_trans (P.tkC_le s2) hs2
      have HT2 := Lib.hid (fun wx => tkT_any (P.tkC s2).2 hr1 wx)
      have hr2 : (P.tkT (P.tkC s2).2).2.length ≤ 1000000000 := Nat.le_trans (P.tkT_le _) hr1
      have HT3 := Lib.hid (fun wx => tkN_any (P.tkT (P.tkC s2).2).2 hr2 wx)
      have hr3 : (P.tkN (P.tkT (P.tkC s2).2).2).2.length ≤ 1000000000 := Nat.le_trans (P.tkN_le _) hr2
      have HT4 := Lib.hid (fun wx => tkN_any (P.tkN (P.tkT (P.tkC s2).2).2).2 hr3 wx)
      rw [show P.tkEv s2 = (⟨((P.tkC s2).1 : Int), (P.tkT (P.tkC s2).2).1, (P.tkN (P.tkT (P.tkC s2).2).2).1, (P.tkN (P.tkN (P.tkT (P.tkC s2).2).2).2).1⟩, (P.tkN (P.tkN (P.tkT (P.tkC s2).2).2).2).2) from rfl] at Hnx
      generalize P.tkC s2 = y at *
      obtain ⟨hw, s3⟩ := y
      simp only at HT1 HT2 HT3 HT4 Hnx hr1 hr2 hr3
      generalize P.tkT s3 = y at *
      obtain ⟨ow, s4⟩ := y
      simp only at HT2 HT3 HT4 Hnx hr2 hr3
      generalize P.tkN s4 = y at *
      obtain ⟨at', s5⟩ := y
      simp only at HT3 HT4 Hnx hr3
      generalize P.tkN s5 = y at *
      obtain ⟨ti, s6⟩ := y
      simp only at HT4 Hnx
      have hR0 := Below.refl wr.heap.size wr
      have lp1 := Bx.fresh wr 126 #[.int .u8 0, .int .u64 0, .int .u64 0, .int .i64 0, .string ⟨#[]⟩, .int .u64 0, .int .u64 0]
      have hllp := hR0.size
      have hR1 := hR0.alloc hR0.size (.cells #[.int .u8 0, .int .u64 0, .int .u64 0, .int .i64 0, .string ⟨#[]⟩, .int .u64 0, .int .u64 0] 126)
      obtain ⟨iE, e1, e2, e3, e4⟩ := info_parts infoRE3
      have hL1 : L.length ≤ 255 := by have := Hlen.out; omega
      go_wp2_with (first
        | (refine wpList_stB (by rfl) _ _ _ (by rfl) lp1 0 _ (by rfl) (by rfl) 7 7 (by rfl) (by rfl) (by decide) infoRE (by rfl) (by rfl) ?_; intro w2 hz' hb2; have lp2 : Bx w2 wr.heap.size 126 #[.int .u8 0, .int .u64 0, .int .u64 0, .int .i64 0, .string ⟨#[]⟩, .int .u64 0, .int .u64 0] := hz'; clear hz'; have hR2 := hR1.trans (hb2.below hllp hR1.size); clear hR1 hb2 lp1)
        | (go_at_call 61; (with_reducible refine (HT1.out _).mono ?_); rintro e w3 ⟨rfl, hb3⟩; have hR3 := Chain.up hR2 hb3; have lp3 := lp2.up hb3; clear hR2 hb3 lp2)
        | (refine wpList_stV (by rfl) _ _ _ (by rfl) lp3 3 _ (by rfl) (by rfl) (by rfl) (by rfl) 7 (by rfl) (by decide) infoInt (by rfl) ?_; intro w4 hz' hb4; have lp4 : Bx w4 wr.heap.size 126 #[.int .u8 0, .int .u64 0, .int .u64 0, .int .i64 (hw : Nat), .string ⟨#[]⟩, .int .u64 0, .int .u64 0] := hz'; clear hz'; have hR4 := hR3.trans (hb4.below hllp hR3.size); clear hR3 hb4 lp3)
        | (go_at_call 59; (with_reducible refine (HT2.out _).mono ?_); rintro e w5 ⟨rfl, hb5⟩; have hR5 := Chain.up hR4 hb5; have lp5 := lp4.up hb5; clear hR4 hb5 lp4)
        | (refine wpList_stV (by rfl) _ _ _ (by rfl) lp5 4 _ (by rfl) (by rfl) (by rfl) (by rfl) 7 (by rfl) (by decide) infoStr (by rfl) ?_; intro w6 hz' hb6; have lp6 : Bx w6 wr.heap.size 126 #[.int .u8 0, .int .u64 0, .int .u64 0, .int .i64 (hw : Nat), S ow, .int .u64 0, .int .u64 0] := hz'; clear hz'; have hR6 := hR5.trans (hb6.below hllp hR5.size); clear hR5 hb6 lp5)
        | (go_at_call 60; (with_reducible refine (HT3.out _).mono ?_); rintro e w7 ⟨rfl, hb7⟩; have hR7 := Chain.up hR6 hb7; have lp7 := lp6.up hb7; clear hR6 hb7 lp6)
        | (refine wpList_stV (by rfl) _ _ _ (by rfl) lp7 5 _ (by rfl) (by rfl) (by rfl) (by rfl) 7 (by rfl) (by decide) infoU64 (by rfl) ?_; intro w8 hz' hb8; have lp8 : Bx w8 wr.heap.size 126 #[.int .u8 0, .int .u64 0, .int .u64 0, .int .i64 (hw : Nat), S ow, V64 at', .int .u64 0] := hz'; clear hz'; have hR8 := hR7.trans (hb8.below hllp hR7.size); clear hR7 hb8 lp7)
        | (go_at_call 60; (with_reducible refine (HT4.out _).mono ?_); rintro e w9 ⟨rfl, hb9⟩; have hR9 := Chain.up hR8 hb9; have lp9 := lp8.up hb9; clear hR8 hb9 lp8)
        | (refine wpList_stV (by rfl) _ _ _ (by rfl) lp9 6 _ (by rfl) (by rfl) (by rfl) (by rfl) 7 (by rfl) (by decide) infoU64 (by rfl) ?_; intro w10 hz' hb10; have lp10 : Bx w10 wr.heap.size 126 #[.int .u8 0, .int .u64 0, .int .u64 0, .int .i64 (hw : Nat), S ow, V64 at', V64 ti] := hz'; clear hz'; have hR10 := hR9.trans (hb10.below hllp hR9.size); clear hR9 hb10 lp9; have hN := h0.up hR10; have zN := z0.up hR10; have ownN := own0.up hR10; have hAN := Chain.up hA0 hR10; obtain ⟨cN0, cN1, cN2, cN3, cN4, cN5, cN6, cN7, cN8, cN9, cN10, cN11, cN12, cN13, cN14, cN15, cN16, cN17, cN18⟩ := hN.cells19; have hgN := hN.lt)
        | (refine wpList_ldB (by rfl) _ _ (by rfl) lp10 (by rfl) structRE 7 infoRE (by rfl) ?_)
        | (at_builtin; (refine wpList_appR (by rfl) _ _ _ (by rfl) iE _ _ Tryd.underlying59 e1 e2 e3 e4 rfl (by decide) evD_len evD_one [(⟨(hw : Int), ow, at', ti⟩ : P.Ev)] (by rfl) (ownN.alloc (.cells #[.int .u8 0, .int .u64 0, .int .u64 0, .int .i64 (hw : Nat), S ow, V64 at', V64 ti] 126)) (by simp only [List.length_singleton]; omega) (by decide) _ _ _ (by rfl) (by rfl) (rows_new 7 evD evD_len w10 [(⟨(hw : Int), ow, at', ti⟩ : P.Ev)] #[.int .u8 0, .int .u64 0, .int .u64 0, .int .i64 (hw : Nat), S ow, V64 at', V64 ti] 126 rfl) (by have := hN.lt; simp only [World.size_alloc]; omega) ?_); intro v9 w9 hown9 hb9 hkt9; obtain ⟨a9, c9, hv9, -, -⟩ := hown9.is evD_len; (rw [List.length_append, List.length_singleton] at hv9); subst hv9; have h9 := hkt9 _ _ _ _ (by decide) (hN.alloc (.cells #[.int .u8 0, .int .u64 0, .int .u64 0, .int .i64 (hw : Nat), S ow, V64 at', V64 ti] 126)); have z9 := hkt9 _ _ _ _ (by decide) (zN.alloc (.cells #[.int .u8 0, .int .u64 0, .int .u64 0, .int .i64 (hw : Nat), S ow, V64 at', V64 ti] 126)); have hA9 := (hAN.alloc hAN.size (.cells #[.int .u8 0, .int .u64 0, .int .u64 0, .int .i64 (hw : Nat), S ow, V64 at', V64 ti] 126)).trans hb9; clear hN zN ownN hAN hb9 hkt9)
        | (refine wpList_stV (by rfl) _ _ _ (by rfl) (show Bx w9 (w.heap.size + 1) 62 #[.int .u8 0, .int .u64 0, .int .u64 0, .int .u8 0, .int .u64 0, .int .u64 0, .string ⟨#[]⟩, .int .u64 0, .int .u8 0, .int .u64 0, .int .u64 0, .int .i64 0, .bool false, .bool false, .bool false, .int .u64 0, .slice none 0 0, .slice a L.length c, .slice none 0 0] from h9) 17 _ (by rfl) (by rfl) (by rfl) (by rfl) 19 (by rfl) (by decide) infoSED (by rfl) ?_; intro w10 hz' hb10; have h10 : Bx w10 (w.heap.size + 1) 62 #[.int .u8 0, .int .u64 0, .int .u64 0, .int .u8 0, .int .u64 0, .int .u64 0, .string ⟨#[]⟩, .int .u64 0, .int .u8 0, .int .u64 0, .int .u64 0, .int .i64 0, .bool false, .bool false, .bool false, .int .u64 0, .slice none 0 0, .slice a9 (L.length + 1) c9, .slice none 0 0] := hz'; clear hz'; have z10 := (show Bx w9 w.heap.size 62 #[.int .u8 0, .int .u64 0, .int .u64 0, .int .u8 0, .int .u64 0, .int .u64 0, .string ⟨#[]⟩, .int .u64 0, .int .u8 0, .int .u64 0, .int .u64 0, .int .i64 0, .bool false, .bool false, .bool false, .int .u64 0, .slice none 0 0, .slice none 0 0, .slice none 0 0] from z9).but hb10 (by omega); have own10 := hown9.but (show Bx w9 (w.heap.size + 1) 62 #[.int .u8 0, .int .u64 0, .int .u64 0, .int .u8 0, .int .u64 0, .int .u64 0, .string ⟨#[]⟩, .int .u64 0, .int .u8 0, .int .u64 0, .int .u64 0, .int .i64 0, .bool false, .bool false, .bool false, .int .u64 0, .slice none 0 0, .slice a L.length c, .slice none 0 0] from h9) (by decide) hb10; have hA10 := hA9.trans (hb10.below (Nat.le_succ _) hA9.size)))
      go_roundw
      case rel => exact ⟨k + 1, a9, c9, by have := HK.out; omega, by go_num, by rw [Hnx.out], by rw [Hnx.out, List.length_append, List.length_singleton]; exact h10, z10, by rw [Hnx.out, List.length_append, List.length_singleton]; exact own10, hA10⟩
      case measure => simp [intOf]; have := HK.out; omega
    · have hke : k = n := by omega
      subst hke
      generalize P.tkList P.tkEv k q0 = y at *
      obtain ⟨L, s2⟩ := y
      simp only at own0 h0 Hr
      have hge : ¬ ((k : Nat) : Int) < ((k : Nat) : Int) := by omega
      clear hkn hk
      go_wp2_with (first
        | (refine wpList_ldB (by rfl) _ _ (by rfl) h0 (by rfl) structRAn 19 infoRAn (by rfl) ?_)
        | (refine wpList_stB (by rfl) _ _ _ (by rfl) z0 _ _ (by rfl) (by rfl) 19 19 (by rfl) (by rfl) (by decide) infoRAn (by rfl) (by rfl) ?_; intro w99 hz' hb99; have z99 : Bx w99 w.heap.size 62 #[.int .u8 0, .int .u64 0, .int .u64 0, .int .u8 0, .int .u64 0, .int .u64 0, .string ⟨#[]⟩, .int .u64 0, .int .u8 0, .int .u64 0, .int .u64 0, .int .i64 0, .bool false, .bool false, .bool false, .int .u64 0, .slice none 0 0, .slice a L.length c, .slice none 0 0] := hz'; clear hz'))
      exact bodyPost_ret (results_box2 rfl (by rfl) (loadB z99 structRAn infoRAn rfl)) rfl ⟨none, 0, a, c, none, 0, by rw [Hr.out]; rfl, by rw [Hr.out]; exact ⟨ownR_nil _ _, own0.but z0 (by decide) hb99, ownR_nil _ _⟩, hA0.trans (hb99.below (Nat.le_refl _) hA0.size)⟩
set_option maxRecDepth 100000 in
set_option maxHeartbeats 4000000 in
theorem heard_11 (op : Nat) (s : List UInt8) (hs : s.length ≤ 1000000000) (hop : op = 11) (w : World) : Calls Tryd.prog 68 #[.int .u8 (op : Nat), S s] w (HeardDid op s w) := by
  obtain ⟨z1, h1, hA1⟩ := two_bx w #[.int .u8 0, .int .u64 0, .int .u64 0, .int .u8 0, .int .u64 0, .int .u64 0, .string ⟨#[]⟩, .int .u64 0, .int .u8 0, .int .u64 0, .int .u64 0, .int .i64 0, .bool false, .bool false, .bool false, .int .u64 0, .slice none 0 0, .slice none 0 0, .slice none 0 0] #[.int .u8 0, .int .u64 0, .int .u64 0, .int .u8 0, .int .u64 0, .int .u64 0, .string ⟨#[]⟩, .int .u64 0, .int .u8 0, .int .u64 0, .int .u64 0, .int .i64 0, .bool false, .bool false, .bool false, .int .u64 0, .slice none 0 0, .slice none 0 0, .slice none 0 0] 62 62
  have HC := Lib.hid (fun wx => tkC_any s hs wx)
  have hq0 : (P.tkC s).2.length ≤ 1000000000 := Nat.le_trans (P.tkC_le s) hs
  have hn0 := P.tkC_lt s
  have Hr := Lib.hid (show P.tkTold op s = ({ P.noAn with rows := (P.tkList P.tkRw (P.tkC s).1 (P.tkC s).2).1 }, (P.tkList P.tkRw (P.tkC s).1 (P.tkC s).2).2) by rw [hop]; rfl)
  unfold HeardDid
  generalize P.tkTold op s = res at *
  generalize P.tkC s = y at *
  obtain ⟨n, q0⟩ := y
  simp only at HC hq0 hn0 Hr
  have t5 : ((op : Int) == 5) = false := beq_eq_false_iff_ne.2 (by omega)
  have t6 : ((op : Int) == 6) = false := beq_eq_false_iff_ne.2 (by omega)
  have t7 : ((op : Int) == 7) = false := beq_eq_false_iff_ne.2 (by omega)
  have t10 : ((op : Int) == 10) = false := beq_eq_false_iff_ne.2 (by omega)
  have t11 : ((op : Int) == 11) = true := beq_iff_eq.2 (by omega)
  clear hop
  go_enter Tryd.func68, Tryd.ntmps68
  go_wp2_with (go_at_call 61; (with_reducible refine (HC.out _).mono ?_); rintro e w2 ⟨rfl, hb2⟩; have h2 := h1.up hb2; have z2 := z1.up hb2; have hA2 := Chain.up hA1 hb2; clear h1 z1 hA1 hb2)
  go_loopw [1, 8, 9, 10] (fun s1 i p9 p10 wr => ∃ (k : Nat) (a : Option Addr) (c : Nat), k ≤ n ∧ i = .int .i64 ((k : Nat) : Int) ∧ s1 = S (P.tkList P.tkRw k q0).2 ∧ Bx wr (w.heap.size + 1) 62 #[.int .u8 0, .int .u64 0, .int .u64 0, .int .u8 0, .int .u64 0, .int .u64 0, .string ⟨#[]⟩, .int .u64 0, .int .u8 0, .int .u64 0, .int .u64 0, .int .i64 0, .bool false, .bool false, .bool false, .int .u64 0, .slice a (P.tkList P.tkRw k q0).1.length c, .slice none 0 0, .slice none 0 0] ∧ Bx wr w.heap.size 62 #[.int .u8 0, .int .u64 0, .int .u64 0, .int .u8 0, .int .u64 0, .int .u64 0, .string ⟨#[]⟩, .int .u64 0, .int .u8 0, .int .u64 0, .int .u64 0, .int .i64 0, .bool false, .bool false, .bool false, .int .u64 0, .slice none 0 0, .slice none 0 0, .slice none 0 0] ∧ OwnR 57 5 rwC wr w.heap.size (.slice a (P.tkList P.tkRw k q0).1.length c) (P.tkList P.tkRw k q0).1 ∧ Below w.heap.size w wr) (fun _ i _ _ _ => n - (intOf i).toNat)
  case atStart => exact ⟨0, none, 0, Nat.zero_le _, rfl, rfl, h2, z2, ownR_nil _ _, hA2⟩
  case round =>
    clear h2 z2 hA2
    obtain ⟨k, a, c, hk, rfl, rfl, h0, z0, own0, hA0⟩ := hrel
    have hg := h0.lt
    by_cases hkn : k < n
    · have hki : ((k : Nat) : Int) < ((n : Nat) : Int) := by omega
      have Hlen := Lib.hid (P.tkList_len P.tkRw k q0)
      have hs2 : (P.tkList P.tkRw k q0).2.length ≤ 1000000000 := Nat.le_trans (P.tkList_le P.tkRw P.tkRw_le k q0) hq0
      have Hnx := Lib.hid (show P.tkList P.tkRw (k + 1) q0 = ((P.tkList P.tkRw k q0).1 ++ [(P.tkRw (P.tkList P.tkRw k q0).2).1], (P.tkRw (P.tkList P.tkRw k q0).2).2) from rfl)
      have HK := Lib.hid hkn
      generalize P.tkList P.tkRw k q0 = y at *
      obtain ⟨L, s2⟩ := y
      simp only at Hlen hs2 Hnx own0 h0
      have HT1 := Lib.hid (fun wx => tkA_any s2 hs2 wx)
      have hr1 : (P.tkA s2).2.length ≤ 1000000000 := Nat.le_trans (P.tkA_le s2) hs2
      have HT2 := Lib.hid (fun wx => tkLease_any (P.tkA s2).1 (P.tkA s2).2 hr1 wx)
      rw [show P.tkRw s2 = (⟨(P.tkA s2).1, (P.tkL (P.tkA s2).2).1.1, (P.tkL (P.tkA s2).2).1.2⟩, (P.tkL (P.tkA s2).2).2) from rfl] at Hnx
      generalize P.tkA s2 = y at *
      obtain ⟨A, s3⟩ := y
      simp only at HT1 HT2 Hnx hr1
      generalize P.tkL s3 = y at *
      obtain ⟨⟨ow, ti⟩, s4⟩ := y
      simp only at HT2 Hnx
      have hR0 := Below.refl wr.heap.size wr
      have la1 := Bx.fresh wr 42 #[.int .u8 0, .int .u64 0, .int .u64 0]
      have hlla := hR0.size
      have hR1 := hR0.alloc hR0.size (.cells #[.int .u8 0, .int .u64 0, .int .u64 0] 42)
      obtain ⟨iE, e1, e2, e3, e4⟩ := info_parts infoRL3
      have hL1 : L.length ≤ 255 := by have := Hlen.out; omega
      go_wp2_with (first
        | (refine wpList_stB (by rfl) _ _ _ (by rfl) la1 0 _ (by rfl) (by rfl) 3 3 (by rfl) (by rfl) (by decide) infoRA (by rfl) (by rfl) ?_; intro w2 hz' hb2; have la2 : Bx w2 wr.heap.size 42 #[.int .u8 0, .int .u64 0, .int .u64 0] := hz'; clear hz'; have hR2 := hR1.trans (hb2.below hlla hR1.size); clear hR1 hb2 la1; have lp3 := Bx.fresh w2 57 #[.int .u8 0, .int .u64 0, .int .u64 0, .string ⟨#[]⟩, .int .u64 0]; have hllp := hR2.size; have hR3 := hR2.alloc hR2.size (.cells #[.int .u8 0, .int .u64 0, .int .u64 0, .string ⟨#[]⟩, .int .u64 0] 57); have la3 := la2.alloc (.cells #[.int .u8 0, .int .u64 0, .int .u64 0, .string ⟨#[]⟩, .int .u64 0] 57); have hltlp := la2.lt)
        | (refine wpList_stB (by rfl) _ _ _ (by rfl) lp3 0 _ (by rfl) (by rfl) 5 5 (by rfl) (by rfl) (by decide) infoRL (by rfl) (by rfl) ?_; intro w4 hz' hb4; have lp4 : Bx w4 w2.heap.size 57 #[.int .u8 0, .int .u64 0, .int .u64 0, .string ⟨#[]⟩, .int .u64 0] := hz'; clear hz'; have hR4 := hR3.trans (hb4.below hllp hR3.size); have la4 := la3.but hb4 (by omega); clear hR3 hb4 la3 lp3)
        | (go_at_call 58; (with_reducible refine (HT1.out _).mono ?_); rintro e w5 ⟨rfl, hb5⟩; have hR5 := Chain.up hR4 hb5; have la5 := la4.up hb5; have lp5 := lp4.up hb5; clear hR4 hb5 la4 lp4)
        | (refine wpList_stB (by rfl) _ _ _ (by rfl) la5 0 _ (by rfl) (by rfl) 3 3 (by rfl) (by rfl) (by decide) infoRA (by rfl) (by rfl) ?_; intro w6 hz' hb6; have la6 : Bx w6 wr.heap.size 42 #[.int .u8 (A.fam : Nat), V64 A.hi, V64 A.lo] := hz'; clear hz'; have hR6 := hR5.trans (hb6.below hlla hR5.size); have lp6 := lp5.but hb6 (by omega); clear hR5 hb6 la5 lp5)
        | (refine wpList_ldB (by rfl) _ _ (by rfl) la6 (by rfl) structRA 3 infoRA (by rfl) ?_)
        | (go_at_call 91; (with_reducible refine (HT2.out _).mono ?_); rintro e w7 ⟨rfl, hb7⟩; have hR7 := Chain.up hR6 hb7; have la7 := la6.up hb7; have lp7 := lp6.up hb7; clear hR6 hb7 la6 lp6)
        | (refine wpList_stB (by rfl) _ _ _ (by rfl) lp7 0 _ (by rfl) (by rfl) 5 5 (by rfl) (by rfl) (by decide) infoRL (by rfl) (by rfl) ?_; intro w8 hz' hb8; have lp8 : Bx w8 w2.heap.size 57 #[.int .u8 (A.fam : Nat), V64 A.hi, V64 A.lo, S ow, V64 ti] := hz'; clear hz'; have hR8 := hR7.trans (hb8.below hllp hR7.size); have la8 := la7.but hb8 (by omega); clear hR7 hb8 la7 lp7; have hN := h0.up hR8; have zN := z0.up hR8; have ownN := own0.up hR8; have hAN := Chain.up hA0 hR8; obtain ⟨cN0, cN1, cN2, cN3, cN4, cN5, cN6, cN7, cN8, cN9, cN10, cN11, cN12, cN13, cN14, cN15, cN16, cN17, cN18⟩ := hN.cells19; have hgN := hN.lt)
        | (refine wpList_ldB (by rfl) _ _ (by rfl) lp8 (by rfl) structRL 5 infoRL (by rfl) ?_)
        | (at_builtin; (refine wpList_appR (by rfl) _ _ _ (by rfl) iE _ _ Tryd.underlying58 e1 e2 e3 e4 rfl (by decide) rwC_len rwC_one [(⟨A, ow, ti⟩ : P.Rw)] (by rfl) (ownN.alloc (.cells #[.int .u8 (A.fam : Nat), V64 A.hi, V64 A.lo, S ow, V64 ti] 57)) (by simp only [List.length_singleton]; omega) (by decide) _ _ _ (by rfl) (by rfl) (rows_new 5 rwC rwC_len w8 [(⟨A, ow, ti⟩ : P.Rw)] #[.int .u8 (A.fam : Nat), V64 A.hi, V64 A.lo, S ow, V64 ti] 57 rfl) (by have := hN.lt; simp only [World.size_alloc]; omega) ?_); intro v9 w9 hown9 hb9 hkt9; obtain ⟨a9, c9, hv9, -, -⟩ := hown9.is rwC_len; (rw [List.length_append, List.length_singleton] at hv9); subst hv9; have h9 := hkt9 _ _ _ _ (by decide) (hN.alloc (.cells #[.int .u8 (A.fam : Nat), V64 A.hi, V64 A.lo, S ow, V64 ti] 57)); have z9 := hkt9 _ _ _ _ (by decide) (zN.alloc (.cells #[.int .u8 (A.fam : Nat), V64 A.hi, V64 A.lo, S ow, V64 ti] 57)); have hA9 := (hAN.alloc hAN.size (.cells #[.int .u8 (A.fam : Nat), V64 A.hi, V64 A.lo, S ow, V64 ti] 57)).trans hb9; clear hN zN ownN hAN hb9 hkt9)
        | (refine wpList_stV (by rfl) _ _ _ (by rfl) (show Bx w9 (w.heap.size + 1) 62 #[.int .u8 0, .int .u64 0, .int .u64 0, .int .u8 0, .int .u64 0, .int .u64 0, .string ⟨#[]⟩, .int .u64 0, .int .u8 0, .int .u64 0, .int .u64 0, .int .i64 0, .bool false, .bool false, .bool false, .int .u64 0, .slice a L.length c, .slice none 0 0, .slice none 0 0] from h9) 16 _ (by rfl) (by rfl) (by rfl) (by rfl) 19 (by rfl) (by decide) infoSLD (by rfl) ?_; intro w10 hz' hb10; have h10 : Bx w10 (w.heap.size + 1) 62 #[.int .u8 0, .int .u64 0, .int .u64 0, .int .u8 0, .int .u64 0, .int .u64 0, .string ⟨#[]⟩, .int .u64 0, .int .u8 0, .int .u64 0, .int .u64 0, .int .i64 0, .bool false, .bool false, .bool false, .int .u64 0, .slice a9 (L.length + 1) c9, .slice none 0 0, .slice none 0 0] := hz'; clear hz'; have z10 := (show Bx w9 w.heap.size 62 #[.int .u8 0, .int .u64 0, .int .u64 0, .int .u8 0, .int .u64 0, .int .u64 0, .string ⟨#[]⟩, .int .u64 0, .int .u8 0, .int .u64 0, .int .u64 0, .int .i64 0, .bool false, .bool false, .bool false, .int .u64 0, .slice none 0 0, .slice none 0 0, .slice none 0 0] from z9).but hb10 (by omega); have own10 := hown9.but (show Bx w9 (w.heap.size + 1) 62 #[.int .u8 0, .int .u64 0, .int .u64 0, .int .u8 0, .int .u64 0, .int .u64 0, .string ⟨#[]⟩, .int .u64 0, .int .u8 0, .int .u64 0, .int .u64 0, .int .i64 0, .bool false, .bool false, .bool false, .int .u64 0, .slice a L.length c, .slice none 0 0, .slice none 0 0] from h9) (by decide) hb10; have hA10 := hA9.trans (hb10.below (Nat.le_succ _) hA9.size)))
      go_roundw
      case rel => exact ⟨k + 1, a9, c9, by have := HK.out; omega, by go_num, by rw [Hnx.out], by rw [Hnx.out, List.length_append, List.length_singleton]; exact h10, z10, by rw [Hnx.out, List.length_append, List.length_singleton]; exact own10, hA10⟩
      case measure => simp [intOf]; have := HK.out; omega
    · have hke : k = n := by omega
      subst hke
      generalize P.tkList P.tkRw k q0 = y at *
      obtain ⟨L, s2⟩ := y
      simp only at own0 h0 Hr
      have hge : ¬ ((k : Nat) : Int) < ((k : Nat) : Int) := by omega
      clear hkn hk
      go_wp2_with (first
        | (refine wpList_ldB (by rfl) _ _ (by rfl) h0 (by rfl) structRAn 19 infoRAn (by rfl) ?_)
        | (refine wpList_stB (by rfl) _ _ _ (by rfl) z0 _ _ (by rfl) (by rfl) 19 19 (by rfl) (by rfl) (by decide) infoRAn (by rfl) (by rfl) ?_; intro w99 hz' hb99; have z99 : Bx w99 w.heap.size 62 #[.int .u8 0, .int .u64 0, .int .u64 0, .int .u8 0, .int .u64 0, .int .u64 0, .string ⟨#[]⟩, .int .u64 0, .int .u8 0, .int .u64 0, .int .u64 0, .int .i64 0, .bool false, .bool false, .bool false, .int .u64 0, .slice a L.length c, .slice none 0 0, .slice none 0 0] := hz'; clear hz'))
      exact bodyPost_ret (results_box2 rfl (by rfl) (loadB z99 structRAn infoRAn rfl)) rfl ⟨a, c, none, 0, none, 0, by rw [Hr.out]; rfl, by rw [Hr.out]; exact ⟨own0.but z0 (by decide) hb99, ownR_nil _ _, ownR_nil _ _⟩, hA0.trans (hb99.below (Nat.le_refl _) hA0.size)⟩
theorem heard_any (op : Nat) (s : List UInt8) (hs : s.length ≤ 1000000000) (w : World) : Calls Tryd.prog 68 #[.int .u8 (op : Nat), S s] w (HeardDid op s w) := by
  by_cases ho : ¬ (5 ≤ op ∧ op ≤ 7) ∧ ¬ (10 ≤ op ∧ op ≤ 15)
  · exact heard_other op s hs ho w
  · rcases (show op = 5 ∨ op = 6 ∨ op = 7 ∨ op = 10 ∨ op = 11 ∨ op = 12 ∨ op = 13 ∨ op = 14 ∨ op = 15 by omega) with h | h | h | h | h | h | h | h | h
    · exact heard_5 op s hs h w
    · exact heard_6 op s hs h w
    · exact heard_7 op s hs h w
    · exact heard_10 op s hs h w
    · exact heard_11 op s hs h w
    · exact heard_12 op s hs h w
    · exact heard_13 op s hs h w
    · exact heard_14 op s hs h w
    · exact heard_15 op s hs h w
end Go.Proofs.YtcobfoiajdbahaaDoor
