/- The walk of what the document hears of an answer without lists. -/
import Derived.Test.YtcobfoiajdbahaaDoorWQMay26
namespace Go.Proofs.YtcobfoiajdbahaaDoor
open Go.RowKit
set_option linter.unusedVariables false
set_option linter.unusedSimpArgs false
/-- A document's lists, owned. -/
structure OwnD (w : World) (B : Nat) (a : P.An) (r : Option Addr) (rc : Nat) (v : Option Addr) (vc : Nat) (p : Option Addr) (pc : Nat) : Prop where
  rows : OwnR 57 5 rwC w B (.slice r a.rows.length rc) a.rows
  events : OwnR 126 7 evD w B (.slice v a.events.length vc) a.events
  pools : OwnR 44 4 pxC w B (.slice p a.pools.length pc) a.pools
theorem OwnD.none (w : World) (B : Nat) (a : P.An) (h1 : a.rows = []) (h2 : a.events = []) (h3 : a.pools = []) : OwnD w B a none 0 none 0 none 0 :=
  ⟨by rw [h1]; exact ownR_nil w B, by rw [h2]; exact ownR_nil w B, by rw [h3]; exact ownR_nil w B⟩
theorem OwnD.up {w w' : World} {B : Nat} {a : P.An} {r v p : Option Addr} {rc vc pc : Nat} (h : OwnD w B a r rc v vc p pc) (hb : Below w.heap.size w w') : OwnD w' B a r rc v vc p pc := ⟨h.1.up hb, h.2.up hb, h.3.up hb⟩
theorem OwnD.at {w : World} {B : Nat} {a : P.An} {r v p : Option Addr} {rc vc pc : Nat} (h : OwnD w B a r rc v vc p pc) : AnsD w a r v p := ⟨h.1.at rwC_len, h.2.at evD_len, h.3.at pxC_len⟩
def HeardDid (op : Nat) (s : List UInt8) (w : World) (e : Ending) (w' : World) : Prop := ∃ r rc v vc p pc, e = .returned (.tuple #[raV (P.tkTold op s).1 r rc v vc p pc, S (P.tkTold op s).2]) ∧ OwnD w' w.heap.size (P.tkTold op s).1 r rc v vc p pc ∧ Below w.heap.size w w'
theorem tkLease0_any (s : List UInt8) (hs : s.length ≤ 1000000000) (w : World) : Calls Tryd.prog 91 #[.agg #[.int .u8 0, .int .u64 0, .int .u64 0], S s] w fun e w' => e = .returned (.tuple #[.agg #[.int .u8 0, .int .u64 0, .int .u64 0, S (P.tkL s).1.1, V64 (P.tkL s).1.2], S (P.tkL s).2]) ∧ Below w.heap.size w w' := tkLease_any P.noA s hs w
theorem P.tkL_le (s : List UInt8) : (P.tkL s).2.length ≤ s.length := Nat.le_trans (P.tkN_le _) (P.tkT_le s)
set_option maxRecDepth 100000 in
set_option maxHeartbeats 4000000 in
theorem heard_15 (op : Nat) (s : List UInt8) (hs : s.length ≤ 1000000000) (hop : op = 15) (w : World) : Calls Tryd.prog 68 #[.int .u8 (op : Nat), S s] w (HeardDid op s w) := by
  obtain ⟨z1, h1, hA1⟩ := two_bx w #[.int .u8 0, .int .u64 0, .int .u64 0, .int .u8 0, .int .u64 0, .int .u64 0, .string ⟨#[]⟩, .int .u64 0, .int .u8 0, .int .u64 0, .int .u64 0, .int .i64 0, .bool false, .bool false, .bool false, .int .u64 0, .slice none 0 0, .slice none 0 0, .slice none 0 0] #[.int .u8 0, .int .u64 0, .int .u64 0, .int .u8 0, .int .u64 0, .int .u64 0, .string ⟨#[]⟩, .int .u64 0, .int .u8 0, .int .u64 0, .int .u64 0, .int .i64 0, .bool false, .bool false, .bool false, .int .u64 0, .slice none 0 0, .slice none 0 0, .slice none 0 0] 62 62
  have HT := Lib.hid (fun wx => tkN_any s hs wx)
  have Hr := Lib.hid (show P.tkTold op s = ({ P.noAn with clock := (P.tkN s).1 }, (P.tkN s).2) by rw [hop]; rfl)
  unfold HeardDid
  generalize P.tkTold op s = res at *
  generalize P.tkN s = q at *
  obtain ⟨t, s1⟩ := q
  simp only at HT Hr
  have t5 : ((op : Int) == 5) = false := beq_eq_false_iff_ne.2 (by omega)
  have t6 : ((op : Int) == 6) = false := beq_eq_false_iff_ne.2 (by omega)
  have t7 : ((op : Int) == 7) = false := beq_eq_false_iff_ne.2 (by omega)
  have t10 : ((op : Int) == 10) = false := beq_eq_false_iff_ne.2 (by omega)
  have t11 : ((op : Int) == 11) = false := beq_eq_false_iff_ne.2 (by omega)
  have t12 : ((op : Int) == 12) = false := beq_eq_false_iff_ne.2 (by omega)
  have t13 : ((op : Int) == 13) = false := beq_eq_false_iff_ne.2 (by omega)
  have t14 : ((op : Int) == 14) = false := beq_eq_false_iff_ne.2 (by omega)
  have t15 : ((op : Int) == 15) = true := beq_iff_eq.2 (by omega)
  clear hop
  go_enter Tryd.func68, Tryd.ntmps68
  go_wp2_with (first
    | (go_at_call 60; (with_reducible refine (HT.out _).mono ?_); rintro e w2 ⟨rfl, hb2⟩; have h2 := h1.up hb2; have z2 := z1.up hb2; have hA2 := Chain.up hA1 hb2; clear h1 z1 hA1 hb2)
    | (refine wpList_stV (by rfl) _ _ _ (by rfl) h2 15 _ (by rfl) (by rfl) (by rfl) (by rfl) 19 (by rfl) (by decide) infoU64 (by rfl) ?_; intro w3 hz' hb3; have h3 : Bx w3 (w.heap.size + 1) 62 #[.int .u8 0, .int .u64 0, .int .u64 0, .int .u8 0, .int .u64 0, .int .u64 0, .string ⟨#[]⟩, .int .u64 0, .int .u8 0, .int .u64 0, .int .u64 0, .int .i64 0, .bool false, .bool false, .bool false, V64 t, .slice none 0 0, .slice none 0 0, .slice none 0 0] := hz'; clear hz'; have z3 := z2.but hb3 (by omega); have hA3 := hA2.trans (hb3.below (Nat.le_succ _) hA2.size); clear h2 z2 hA2 hb3)
    | (refine wpList_ldB (by rfl) _ _ (by rfl) h3 (by rfl) structRAn 19 infoRAn (by rfl) ?_)
    | (refine wpList_stB (by rfl) _ _ _ (by rfl) z3 _ _ (by rfl) (by rfl) 19 19 (by rfl) (by rfl) (by decide) infoRAn (by rfl) (by rfl) ?_; intro w99 hz' hb99; have z99 : Bx w99 w.heap.size 62 #[.int .u8 0, .int .u64 0, .int .u64 0, .int .u8 0, .int .u64 0, .int .u64 0, .string ⟨#[]⟩, .int .u64 0, .int .u8 0, .int .u64 0, .int .u64 0, .int .i64 0, .bool false, .bool false, .bool false, V64 t, .slice none 0 0, .slice none 0 0, .slice none 0 0] := hz'; clear hz'))
  exact bodyPost_ret (results_box2 rfl (by rfl) (loadB z99 structRAn infoRAn rfl)) rfl ⟨none, 0, none, 0, none, 0, by rw [Hr.out]; rfl, by rw [Hr.out]; exact OwnD.none _ _ _ rfl rfl rfl, hA3.trans (hb99.below (Nat.le_refl _) hA3.size)⟩
set_option maxRecDepth 100000 in
set_option maxHeartbeats 4000000 in
theorem heard_other (op : Nat) (s : List UInt8) (hs : s.length ≤ 1000000000) (hop : ¬ (5 ≤ op ∧ op ≤ 7) ∧ ¬ (10 ≤ op ∧ op ≤ 15)) (w : World) : Calls Tryd.prog 68 #[.int .u8 (op : Nat), S s] w (HeardDid op s w) := by
  obtain ⟨z1, h1, hA1⟩ := two_bx w #[.int .u8 0, .int .u64 0, .int .u64 0, .int .u8 0, .int .u64 0, .int .u64 0, .string ⟨#[]⟩, .int .u64 0, .int .u8 0, .int .u64 0, .int .u64 0, .int .i64 0, .bool false, .bool false, .bool false, .int .u64 0, .slice none 0 0, .slice none 0 0, .slice none 0 0] #[.int .u8 0, .int .u64 0, .int .u64 0, .int .u8 0, .int .u64 0, .int .u64 0, .string ⟨#[]⟩, .int .u64 0, .int .u8 0, .int .u64 0, .int .u64 0, .int .i64 0, .bool false, .bool false, .bool false, .int .u64 0, .slice none 0 0, .slice none 0 0, .slice none 0 0] 62 62
  have Hr := Lib.hid (show P.tkTold op s = (P.noAn, s) by unfold P.tkTold; rw [if_neg hop.1, if_neg (by omega), if_neg (by omega), if_neg (by omega), if_neg (by omega), if_neg (by omega)])
  unfold HeardDid
  generalize P.tkTold op s = res at *
  have t5 : ((op : Int) == 5) = false := beq_eq_false_iff_ne.2 (by omega)
  have t6 : ((op : Int) == 6) = false := beq_eq_false_iff_ne.2 (by omega)
  have t7 : ((op : Int) == 7) = false := beq_eq_false_iff_ne.2 (by omega)
  have t10 : ((op : Int) == 10) = false := beq_eq_false_iff_ne.2 (by omega)
  have t11 : ((op : Int) == 11) = false := beq_eq_false_iff_ne.2 (by omega)
  have t12 : ((op : Int) == 12) = false := beq_eq_false_iff_ne.2 (by omega)
  have t13 : ((op : Int) == 13) = false := beq_eq_false_iff_ne.2 (by omega)
  have t14 : ((op : Int) == 14) = false := beq_eq_false_iff_ne.2 (by omega)
  have t15 : ((op : Int) == 15) = false := beq_eq_false_iff_ne.2 (by omega)
  clear hop
  go_enter Tryd.func68, Tryd.ntmps68
  go_wp2_with (first
    | (refine wpList_ldB (by rfl) _ _ (by rfl) h1 (by rfl) structRAn 19 infoRAn (by rfl) ?_)
    | (refine wpList_stB (by rfl) _ _ _ (by rfl) z1 _ _ (by rfl) (by rfl) 19 19 (by rfl) (by rfl) (by decide) infoRAn (by rfl) (by rfl) ?_; intro w99 hz' hb99; have z99 : Bx w99 w.heap.size 62 #[.int .u8 0, .int .u64 0, .int .u64 0, .int .u8 0, .int .u64 0, .int .u64 0, .string ⟨#[]⟩, .int .u64 0, .int .u8 0, .int .u64 0, .int .u64 0, .int .i64 0, .bool false, .bool false, .bool false, .int .u64 0, .slice none 0 0, .slice none 0 0, .slice none 0 0] := hz'; clear hz'))
  exact bodyPost_ret (results_box2 rfl (by rfl) (loadB z99 structRAn infoRAn rfl)) rfl ⟨none, 0, none, 0, none, 0, by rw [Hr.out]; rfl, by rw [Hr.out]; exact OwnD.none _ _ _ rfl rfl rfl, hA1.trans (hb99.below (Nat.le_refl _) hA1.size)⟩
set_option maxRecDepth 100000 in
set_option maxHeartbeats 4000000 in
theorem heard_5 (op : Nat) (s : List UInt8) (hs : s.length ≤ 1000000000) (hop : op = 5) (w : World) : Calls Tryd.prog 68 #[.int .u8 (op : Nat), S s] w (HeardDid op s w) := by
  obtain ⟨z1, h1, hA1⟩ := two_bx w #[.int .u8 0, .int .u64 0, .int .u64 0, .int .u8 0, .int .u64 0, .int .u64 0, .string ⟨#[]⟩, .int .u64 0, .int .u8 0, .int .u64 0, .int .u64 0, .int .i64 0, .bool false, .bool false, .bool false, .int .u64 0, .slice none 0 0, .slice none 0 0, .slice none 0 0] #[.int .u8 0, .int .u64 0, .int .u64 0, .int .u8 0, .int .u64 0, .int .u64 0, .string ⟨#[]⟩, .int .u64 0, .int .u8 0, .int .u64 0, .int .u64 0, .int .i64 0, .bool false, .bool false, .bool false, .int .u64 0, .slice none 0 0, .slice none 0 0, .slice none 0 0] 62 62
  have HT := Lib.hid (fun wx => tkA_any s hs wx)
  have hr : (P.tkA s).2.length ≤ 1000000000 := Nat.le_trans (P.tkA_le s) hs
  have HL := Lib.hid (fun wx => tkLease0_any (P.tkA s).2 hr wx)
  have Hr := Lib.hid (show P.tkTold op s = ({ P.noAn with a := (P.tkA s).1, owner := (P.tkL (P.tkA s).2).1.1, til := (P.tkL (P.tkA s).2).1.2 }, (P.tkL (P.tkA s).2).2) by unfold P.tkTold; rw [if_pos (by omega)])
  unfold HeardDid
  generalize P.tkTold op s = res at *
  generalize P.tkA s = q at *
  obtain ⟨A, s1⟩ := q
  simp only at HT hr HL Hr
  generalize P.tkL s1 = q at *
  obtain ⟨⟨o, t⟩, s2⟩ := q
  simp only at HL Hr
  have t5 : ((op : Int) == 5) = true := beq_iff_eq.2 (by omega)
  clear hop
  go_enter Tryd.func68, Tryd.ntmps68
  go_wp2_with (first
    | (go_at_call 58; (with_reducible refine (HT.out _).mono ?_); rintro e w2 ⟨rfl, hb2⟩; have h2 := h1.up hb2; have z2 := z1.up hb2; have hA2 := Chain.up hA1 hb2; clear h1 z1 hA1 hb2)
    | (refine wpList_stB (by rfl) _ _ _ (by rfl) h2 0 _ (by rfl) (by rfl) 3 19 (by rfl) (by rfl) (by decide) infoRA (by rfl) (by rfl) ?_; intro w3 hz' hb3; have h3 : Bx w3 (w.heap.size + 1) 62 #[.int .u8 (A.fam : Nat), V64 A.hi, V64 A.lo, .int .u8 0, .int .u64 0, .int .u64 0, .string ⟨#[]⟩, .int .u64 0, .int .u8 0, .int .u64 0, .int .u64 0, .int .i64 0, .bool false, .bool false, .bool false, .int .u64 0, .slice none 0 0, .slice none 0 0, .slice none 0 0] := hz'; clear hz'; have z3 := z2.but hb3 (by omega); have hA3 := hA2.trans (hb3.below (Nat.le_succ _) hA2.size); clear h2 z2 hA2 hb3)
    | (go_at_call 91; (with_reducible refine (HL.out _).mono ?_); rintro e w4 ⟨rfl, hb4⟩; have h4 := h3.up hb4; have z4 := z3.up hb4; have hA4 := Chain.up hA3 hb4; clear h3 z3 hA3 hb4)
    | (refine wpList_stB (by rfl) _ _ _ (by rfl) h4 3 _ (by rfl) (by rfl) 5 19 (by rfl) (by rfl) (by decide) infoRL (by rfl) (by rfl) ?_; intro w5 hz' hb5; have h5 : Bx w5 (w.heap.size + 1) 62 #[.int .u8 (A.fam : Nat), V64 A.hi, V64 A.lo, .int .u8 0, .int .u64 0, .int .u64 0, S o, V64 t, .int .u8 0, .int .u64 0, .int .u64 0, .int .i64 0, .bool false, .bool false, .bool false, .int .u64 0, .slice none 0 0, .slice none 0 0, .slice none 0 0] := hz'; clear hz'; have z5 := z4.but hb5 (by omega); have hA5 := hA4.trans (hb5.below (Nat.le_succ _) hA4.size); clear h4 z4 hA4 hb5)
    | (refine wpList_ldB (by rfl) _ _ (by rfl) h5 (by rfl) structRAn 19 infoRAn (by rfl) ?_)
    | (refine wpList_stB (by rfl) _ _ _ (by rfl) z5 _ _ (by rfl) (by rfl) 19 19 (by rfl) (by rfl) (by decide) infoRAn (by rfl) (by rfl) ?_; intro w99 hz' hb99; have z99 : Bx w99 w.heap.size 62 #[.int .u8 (A.fam : Nat), V64 A.hi, V64 A.lo, .int .u8 0, .int .u64 0, .int .u64 0, S o, V64 t, .int .u8 0, .int .u64 0, .int .u64 0, .int .i64 0, .bool false, .bool false, .bool false, .int .u64 0, .slice none 0 0, .slice none 0 0, .slice none 0 0] := hz'; clear hz'))
  exact bodyPost_ret (results_box2 rfl (by rfl) (loadB z99 structRAn infoRAn rfl)) rfl ⟨none, 0, none, 0, none, 0, by rw [Hr.out]; rfl, by rw [Hr.out]; exact OwnD.none _ _ _ rfl rfl rfl, hA5.trans (hb99.below (Nat.le_refl _) hA5.size)⟩
set_option maxRecDepth 100000 in
set_option maxHeartbeats 4000000 in
theorem heard_6 (op : Nat) (s : List UInt8) (hs : s.length ≤ 1000000000) (hop : op = 6) (w : World) : Calls Tryd.prog 68 #[.int .u8 (op : Nat), S s] w (HeardDid op s w) := by
  obtain ⟨z1, h1, hA1⟩ := two_bx w #[.int .u8 0, .int .u64 0, .int .u64 0, .int .u8 0, .int .u64 0, .int .u64 0, .string ⟨#[]⟩, .int .u64 0, .int .u8 0, .int .u64 0, .int .u64 0, .int .i64 0, .bool false, .bool false, .bool false, .int .u64 0, .slice none 0 0, .slice none 0 0, .slice none 0 0] #[.int .u8 0, .int .u64 0, .int .u64 0, .int .u8 0, .int .u64 0, .int .u64 0, .string ⟨#[]⟩, .int .u64 0, .int .u8 0, .int .u64 0, .int .u64 0, .int .i64 0, .bool false, .bool false, .bool false, .int .u64 0, .slice none 0 0, .slice none 0 0, .slice none 0 0] 62 62
  have HT := Lib.hid (fun wx => tkA_any s hs wx)
  have hr : (P.tkA s).2.length ≤ 1000000000 := Nat.le_trans (P.tkA_le s) hs
  have HL := Lib.hid (fun wx => tkLease0_any (P.tkA s).2 hr wx)
  have Hr := Lib.hid (show P.tkTold op s = ({ P.noAn with a := (P.tkA s).1, owner := (P.tkL (P.tkA s).2).1.1, til := (P.tkL (P.tkA s).2).1.2 }, (P.tkL (P.tkA s).2).2) by unfold P.tkTold; rw [if_pos (by omega)])
  unfold HeardDid
  generalize P.tkTold op s = res at *
  generalize P.tkA s = q at *
  obtain ⟨A, s1⟩ := q
  simp only at HT hr HL Hr
  generalize P.tkL s1 = q at *
  obtain ⟨⟨o, t⟩, s2⟩ := q
  simp only at HL Hr
  have t5 : ((op : Int) == 5) = false := beq_eq_false_iff_ne.2 (by omega)
  have t6 : ((op : Int) == 6) = true := beq_iff_eq.2 (by omega)
  clear hop
  go_enter Tryd.func68, Tryd.ntmps68
  go_wp2_with (first
    | (go_at_call 58; (with_reducible refine (HT.out _).mono ?_); rintro e w2 ⟨rfl, hb2⟩; have h2 := h1.up hb2; have z2 := z1.up hb2; have hA2 := Chain.up hA1 hb2; clear h1 z1 hA1 hb2)
    | (refine wpList_stB (by rfl) _ _ _ (by rfl) h2 0 _ (by rfl) (by rfl) 3 19 (by rfl) (by rfl) (by decide) infoRA (by rfl) (by rfl) ?_; intro w3 hz' hb3; have h3 : Bx w3 (w.heap.size + 1) 62 #[.int .u8 (A.fam : Nat), V64 A.hi, V64 A.lo, .int .u8 0, .int .u64 0, .int .u64 0, .string ⟨#[]⟩, .int .u64 0, .int .u8 0, .int .u64 0, .int .u64 0, .int .i64 0, .bool false, .bool false, .bool false, .int .u64 0, .slice none 0 0, .slice none 0 0, .slice none 0 0] := hz'; clear hz'; have z3 := z2.but hb3 (by omega); have hA3 := hA2.trans (hb3.below (Nat.le_succ _) hA2.size); clear h2 z2 hA2 hb3)
    | (go_at_call 91; (with_reducible refine (HL.out _).mono ?_); rintro e w4 ⟨rfl, hb4⟩; have h4 := h3.up hb4; have z4 := z3.up hb4; have hA4 := Chain.up hA3 hb4; clear h3 z3 hA3 hb4)
    | (refine wpList_stB (by rfl) _ _ _ (by rfl) h4 3 _ (by rfl) (by rfl) 5 19 (by rfl) (by rfl) (by decide) infoRL (by rfl) (by rfl) ?_; intro w5 hz' hb5; have h5 : Bx w5 (w.heap.size + 1) 62 #[.int .u8 (A.fam : Nat), V64 A.hi, V64 A.lo, .int .u8 0, .int .u64 0, .int .u64 0, S o, V64 t, .int .u8 0, .int .u64 0, .int .u64 0, .int .i64 0, .bool false, .bool false, .bool false, .int .u64 0, .slice none 0 0, .slice none 0 0, .slice none 0 0] := hz'; clear hz'; have z5 := z4.but hb5 (by omega); have hA5 := hA4.trans (hb5.below (Nat.le_succ _) hA4.size); clear h4 z4 hA4 hb5)
    | (refine wpList_ldB (by rfl) _ _ (by rfl) h5 (by rfl) structRAn 19 infoRAn (by rfl) ?_)
    | (refine wpList_stB (by rfl) _ _ _ (by rfl) z5 _ _ (by rfl) (by rfl) 19 19 (by rfl) (by rfl) (by decide) infoRAn (by rfl) (by rfl) ?_; intro w99 hz' hb99; have z99 : Bx w99 w.heap.size 62 #[.int .u8 (A.fam : Nat), V64 A.hi, V64 A.lo, .int .u8 0, .int .u64 0, .int .u64 0, S o, V64 t, .int .u8 0, .int .u64 0, .int .u64 0, .int .i64 0, .bool false, .bool false, .bool false, .int .u64 0, .slice none 0 0, .slice none 0 0, .slice none 0 0] := hz'; clear hz'))
  exact bodyPost_ret (results_box2 rfl (by rfl) (loadB z99 structRAn infoRAn rfl)) rfl ⟨none, 0, none, 0, none, 0, by rw [Hr.out]; rfl, by rw [Hr.out]; exact OwnD.none _ _ _ rfl rfl rfl, hA5.trans (hb99.below (Nat.le_refl _) hA5.size)⟩
set_option maxRecDepth 100000 in
set_option maxHeartbeats 4000000 in
theorem heard_7 (op : Nat) (s : List UInt8) (hs : s.length ≤ 1000000000) (hop : op = 7) (w : World) : Calls Tryd.prog 68 #[.int .u8 (op : Nat), S s] w (HeardDid op s w) := by
  obtain ⟨z1, h1, hA1⟩ := two_bx w #[.int .u8 0, .int .u64 0, .int .u64 0, .int .u8 0, .int .u64 0, .int .u64 0, .string ⟨#[]⟩, .int .u64 0, .int .u8 0, .int .u64 0, .int .u64 0, .int .i64 0, .bool false, .bool false, .bool false, .int .u64 0, .slice none 0 0, .slice none 0 0, .slice none 0 0] #[.int .u8 0, .int .u64 0, .int .u64 0, .int .u8 0, .int .u64 0, .int .u64 0, .string ⟨#[]⟩, .int .u64 0, .int .u8 0, .int .u64 0, .int .u64 0, .int .i64 0, .bool false, .bool false, .bool false, .int .u64 0, .slice none 0 0, .slice none 0 0, .slice none 0 0] 62 62
  have HT := Lib.hid (fun wx => tkA_any s hs wx)
  have hr : (P.tkA s).2.length ≤ 1000000000 := Nat.le_trans (P.tkA_le s) hs
  have HL := Lib.hid (fun wx => tkLease0_any (P.tkA s).2 hr wx)
  have Hr := Lib.hid (show P.tkTold op s = ({ P.noAn with a := (P.tkA s).1, owner := (P.tkL (P.tkA s).2).1.1, til := (P.tkL (P.tkA s).2).1.2 }, (P.tkL (P.tkA s).2).2) by unfold P.tkTold; rw [if_pos (by omega)])
  unfold HeardDid
  generalize P.tkTold op s = res at *
  generalize P.tkA s = q at *
  obtain ⟨A, s1⟩ := q
  simp only at HT hr HL Hr
  generalize P.tkL s1 = q at *
  obtain ⟨⟨o, t⟩, s2⟩ := q
  simp only at HL Hr
  have t5 : ((op : Int) == 5) = false := beq_eq_false_iff_ne.2 (by omega)
  have t6 : ((op : Int) == 6) = false := beq_eq_false_iff_ne.2 (by omega)
  have t7 : ((op : Int) == 7) = true := beq_iff_eq.2 (by omega)
  clear hop
  go_enter Tryd.func68, Tryd.ntmps68
  go_wp2_with (first
    | (go_at_call 58; (with_reducible refine (HT.out _).mono ?_); rintro e w2 ⟨rfl, hb2⟩; have h2 := h1.up hb2; have z2 := z1.up hb2; have hA2 := Chain.up hA1 hb2; clear h1 z1 hA1 hb2)
    | (refine wpList_stB (by rfl) _ _ _ (by rfl) h2 0 _ (by rfl) (by rfl) 3 19 (by rfl) (by rfl) (by decide) infoRA (by rfl) (by rfl) ?_; intro w3 hz' hb3; have h3 : Bx w3 (w.heap.size + 1) 62 #[.int .u8 (A.fam : Nat), V64 A.hi, V64 A.lo, .int .u8 0, .int .u64 0, .int .u64 0, .string ⟨#[]⟩, .int .u64 0, .int .u8 0, .int .u64 0, .int .u64 0, .int .i64 0, .bool false, .bool false, .bool false, .int .u64 0, .slice none 0 0, .slice none 0 0, .slice none 0 0] := hz'; clear hz'; have z3 := z2.but hb3 (by omega); have hA3 := hA2.trans (hb3.below (Nat.le_succ _) hA2.size); clear h2 z2 hA2 hb3)
    | (go_at_call 91; (with_reducible refine (HL.out _).mono ?_); rintro e w4 ⟨rfl, hb4⟩; have h4 := h3.up hb4; have z4 := z3.up hb4; have hA4 := Chain.up hA3 hb4; clear h3 z3 hA3 hb4)
    | (refine wpList_stB (by rfl) _ _ _ (by rfl) h4 3 _ (by rfl) (by rfl) 5 19 (by rfl) (by rfl) (by decide) infoRL (by rfl) (by rfl) ?_; intro w5 hz' hb5; have h5 : Bx w5 (w.heap.size + 1) 62 #[.int .u8 (A.fam : Nat), V64 A.hi, V64 A.lo, .int .u8 0, .int .u64 0, .int .u64 0, S o, V64 t, .int .u8 0, .int .u64 0, .int .u64 0, .int .i64 0, .bool false, .bool false, .bool false, .int .u64 0, .slice none 0 0, .slice none 0 0, .slice none 0 0] := hz'; clear hz'; have z5 := z4.but hb5 (by omega); have hA5 := hA4.trans (hb5.below (Nat.le_succ _) hA4.size); clear h4 z4 hA4 hb5)
    | (refine wpList_ldB (by rfl) _ _ (by rfl) h5 (by rfl) structRAn 19 infoRAn (by rfl) ?_)
    | (refine wpList_stB (by rfl) _ _ _ (by rfl) z5 _ _ (by rfl) (by rfl) 19 19 (by rfl) (by rfl) (by decide) infoRAn (by rfl) (by rfl) ?_; intro w99 hz' hb99; have z99 : Bx w99 w.heap.size 62 #[.int .u8 (A.fam : Nat), V64 A.hi, V64 A.lo, .int .u8 0, .int .u64 0, .int .u64 0, S o, V64 t, .int .u8 0, .int .u64 0, .int .u64 0, .int .i64 0, .bool false, .bool false, .bool false, .int .u64 0, .slice none 0 0, .slice none 0 0, .slice none 0 0] := hz'; clear hz'))
  exact bodyPost_ret (results_box2 rfl (by rfl) (loadB z99 structRAn infoRAn rfl)) rfl ⟨none, 0, none, 0, none, 0, by rw [Hr.out]; rfl, by rw [Hr.out]; exact OwnD.none _ _ _ rfl rfl rfl, hA5.trans (hb99.below (Nat.le_refl _) hA5.size)⟩
end Go.Proofs.YtcobfoiajdbahaaDoor
