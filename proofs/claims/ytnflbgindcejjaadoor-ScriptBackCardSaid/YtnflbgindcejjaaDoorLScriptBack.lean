/- ScriptBack: what is encoded is decoded as it was; a beginning of a script says a beginning of its acts; and acts put behind others are decoded behind them. The walk of the law. -/
import Derived.Test.YtnflbgindcejjaaDoorWSLaw
import Derived.Test.YtnflbgindcejjaaDoorWSGreat
import Derived.Test.YtnflbgindcejjaaDoorWOwnA
import Derived.Test.YtnflbgindcejjaaDoorWInv
namespace Go.Proofs.YtnflbgindcejjaaDoor
open Go.RowKit
set_option linter.unusedVariables false
set_option linter.unusedSimpArgs false

theorem P.encS_not {l : List P.Ac} (hl : l.length ≤ 4096) (h : ¬ l.all P.rightB = true) : P.encS l = ([], 1) := by
  unfold P.encS
  rw [if_neg (by omega), if_neg h]
theorem P.encS_yes {l : List P.Ac} (hl : l.length ≤ 4096) (h : l.all P.rightB = true) : P.encS l = (P.scriptB l, 0) := by
  unfold P.encS
  rw [if_neg (by omega), if_pos h]
theorem ActsAt.takeP {w : World} {a : Option Addr} {rs : List AcR} (h : ActsAt w a rs) (j : Nat) : ActsAt w a (rs.take j) := by
  refine ⟨fun i hi => ?_, fun r hr => h.acts r (List.mem_of_mem_take hr), fun r hr => h.ty r (List.mem_of_mem_take hr)⟩
  rw [List.length_take] at hi
  have := h.rows i (by omega)
  rwa [List.getElem_take]
/-- A guarded operation that is wanted goes as one without a guard. -/
theorem wpList_unguardA {P : Program} {ops : Array Oper} {rest : List Oper} {o : Oper} {a : Act} {w : World} {Q : Exit → Act → World → Prop} (hw : Region.wanted o (yielded ops a.tmps) = true)
    (h : wpList P ops Q ({ o with guard := none } :: rest) a w) : wpList P ops Q (o :: rest) a w := by
  unfold wpList at h ⊢
  rw [if_pos hw]
  have h1 : Region.wanted { o with guard := none } (yielded ops a.tmps) = true := rfl
  rw [if_pos h1] at h
  exact h
/-- A byte's cell. -/
def byC (b : UInt8) : List Value := [u8V b]
theorem byC_len (b : UInt8) : (byC b).length = 1 := rfl
theorem byC_one (b : UInt8) : ∀ u ∈ byC b, u.oneCell' = true := by
  intro u hu
  obtain rfl := List.mem_singleton.1 hu
  rfl
theorem own_rows {w : World} {B : Nat} {v : Value} {l : List UInt8} : Own w B v l ↔ OwnR 5 1 byC w B v l := by
  unfold Own OwnR
  rw [show l.flatMap byC = l.map u8V by induction l with | nil => rfl | cons b l ih => simp [List.flatMap_cons, ih, byC]]
/-- 'append(b, c...)' of bytes. -/
theorem wpList_appB {ops : Array Oper} {rest : List Oper} {o : Oper} {a : Act} {w : World} {Q : Exit → Act → World → Prop} (hgd : o.guard = none) (s x : Operand)
    (ho : o.op = .call { callee := .builtin .append, args := #[s, x], argTypes := #[30, 30] }) (B : Nat) (v : Value) (l m : List UInt8) (hs : a.eval s = v) (hown : OwnR 5 1 byC w B v l) (hl : l.length + m.length ≤ 1000000)
    (b : Option Addr) (n c : Nat) (hx : a.eval x = .slice b n c) (hn : n = m.length) (hm : RowsAt 1 byC w b m) (hB : B ≤ w.heap.size)
    (h : ∀ v' w', OwnR 5 1 byC w' B v' (l ++ m) → Below B w w' → KeptT 5 w w' → wpList Tryd.prog ops Q rest (a.put o.dst v') w') :
    wpList Tryd.prog ops Q (o :: rest) a w := by
  obtain ⟨i, hq, h1, h2, h3⟩ := info_parts info8
  exact wpList_appR hgd s x 30 ho i _ 1 Tryd.underlying30 hq h1 h2 h3 rfl (by decide) byC_len byC_one m hs hown hl (by decide) b n c hx hn hm hB h
/-- 'append(l, m...)' of acts. -/
theorem wpList_appActs {ops : Array Oper} {rest : List Oper} {o : Oper} {a : Act} {w : World} {Q : Exit → Act → World → Prop} (hgd : o.guard = none) (s x : Operand)
    (ho : o.op = .call { callee := .builtin .append, args := #[s, x], argTypes := #[36, 36] }) (B : Nat) (v : Value) (l m : List AcR) (hs : a.eval s = v) (hown : OwnActs w B v l) (hl : l.length + m.length ≤ 1000000)
    (b : Option Addr) (n c : Nat) (hx : a.eval x = .slice b n c) (hn : n = m.length) (hm : RowsAt 7 acCells w b m) (hB : B ≤ w.heap.size)
    (h : ∀ v' w', OwnActs w' B v' (l ++ m) → Below B w w' → KeptT 32 w w' → wpList Tryd.prog ops Q rest (a.put o.dst v') w') :
    wpList Tryd.prog ops Q (o :: rest) a w := by
  obtain ⟨i, hq, h1, h2, h3⟩ := info_parts infoAct
  exact wpList_appR hgd s x 36 ho i _ 112 Tryd.underlying36 hq h1 h2 h3 rfl (by decide) acCells_len acCells_one m hs hown hl (by decide) b n c hx hn hm hB h
theorem P.actB_size (a : P.Ac) (h : P.rightB a = true) : (P.actB a).length ≤ 60 + 13 * P.sizeA a := by
  have h1 := P.row_len9 a.n
  have h2 := P.row_len9 a.text.length
  have h3 := P.row_len9 a.cr.names.toNat
  have h4 := P.keepB_le a.cr.keep
  have h5 := P.spoilB_le a.cr.spoil
  unfold P.actB P.crashB P.sizeA
  simp only [List.length_append, List.length_cons]
  repeat' split
  all_goals (simp only [List.length_append, List.length_cons, List.length_nil]; omega)
theorem P.scriptB_size (l : List P.Ac) (h : P.RightL l) : (P.scriptB l).length ≤ 60 * l.length + 13 * P.sumA l := by
  induction l with
  | nil => simp [P.scriptB]
  | cons a l ih =>
    have h1 := P.actB_size a (h a (List.mem_cons_self ..)).1
    have h2 := ih (fun b hb => h b (List.mem_cons_of_mem _ hb))
    have h3 : P.sumA (a :: l) = P.sizeA a + P.sumA l := rfl
    rw [P.scriptB_cons, List.length_append, List.length_cons, h3]
    omega
set_option maxRecDepth 100000 in
set_option maxHeartbeats 8000000 in
theorem law_back (rs : List AcR) (a : Option Addr) (n c : Nat) (qs : List AcR) (a' : Option Addr) (n' c' : Nat) (cut : Nat) (w : World) (hn : n = rs.length) (hl : n ≤ 9223372036854775807) (hat : ActsAt w a rs) (hnc : n ≤ c) (hn' : n' = qs.length) (hl' : n' ≤ 9223372036854775807) (hat' : ActsAt w a' qs) (hnc' : n' ≤ c') (hcut : cut < 65536) :
    Calls Tryd.prog 6 #[.slice a n c, .slice a' n' c', .int .u16 cut] w fun e w' => e = .returned (.bool true) ∧ Below w.heap.size w w' := by
  have Hat := Lib.hid hat
  have Hat' := Lib.hid hat'
  have Hn := Lib.hid hn
  have Hn' := Lib.hid hn'
  have HG := Lib.hid (great_any a rs c n w hn hl hat)
  have HG' := Lib.hid (fun wx (hx : Below w.heap.size w wx) => great_any a' qs c' n' wx hn' hl' (hat'.up hx))
  clear hat hn hat' hn'
  go_enter Tryd.func6, Tryd.ntmps6
  go_wp2_with fail
  go_at_call 15
  (with_reducible refine HG.out.mono ?_)
  rintro e w1 ⟨⟨b, rfl, hgr⟩, hb1⟩
  cases b with
  | true =>
    go_wp2_with (go_at_call 14; (with_reducible refine (awake_any _).mono ?_); rintro e w2 ⟨rfl, hb2⟩)
    go_ret
    exact ⟨rfl, Chain.up hb1 hb2⟩
  | false =>
    obtain ⟨hn120, hts, hsum⟩ := hgr rfl
    have hst : SmallT rs := fun r hr _ => by have := hts r hr; omega
    go_wp2_with fail
    go_at_call 15
    (with_reducible refine (HG'.out _ hb1).mono ?_)
    rintro e w2 ⟨⟨b, rfl, hgr'⟩, hb2⟩
    have hb12 := Chain.up hb1 hb2
    cases b with
    | true =>
      go_wp2_with (go_at_call 14; (with_reducible refine (awake_any _).mono ?_); rintro e w3 ⟨rfl, hb3⟩)
      go_ret
      exact ⟨rfl, Chain.up hb12 hb3⟩
    | false =>
      obtain ⟨hn120', hts', hsum'⟩ := hgr' rfl
      have hst' : SmallT qs := fun r hr _ => by have := hts' r hr; omega
      have hlR : (rs.map AcR.x).length ≤ 4096 := by rw [List.length_map]; have := Hn.out; omega
      have hlQ : (qs.map AcR.x).length ≤ 4096 := by rw [List.length_map]; have := Hn'.out; omega
      by_cases hall : (rs.map AcR.x).all P.rightB = true
      case neg =>
        have He := Lib.hid (P.encS_not hlR hall)
        clear hall
        go_wp2_with (first
          | (go_at_call 9; (with_reducible refine (encode_any a rs c n w2 ?h1 ?h2 (Hat.out.up hb12) hst).mono ?_); (case h1 => exact Hn.out); (case h2 => omega); rintro e w3 ⟨v3, rfl, hown3, hb3⟩; rw [He.out] at hown3 ⊢; have hb13 := Chain.up hb12 hb3; obtain ⟨a3, c3, hv3⟩ := Own.isS hown3; subst hv3)
          | (go_at_call 9; (with_reducible refine (encode_any a' qs c' n' w3 ?h1 ?h2 (Hat'.out.up hb13) hst').mono ?_); (case h1 => exact Hn'.out); (case h2 => omega); rintro e w4 ⟨v4, rfl, hown4, hb4⟩; have hb14 := Chain.up hb13 hb4)
          | (go_at_call 14; (with_reducible refine (awake_any _).mono ?_); rintro e w5 ⟨rfl, hb5⟩))
        go_ret
        exact ⟨rfl, Chain.up hb14 hb5⟩
      have He := Lib.hid (P.encS_yes hlR hall)
      have hRL : P.RightL (rs.map AcR.x) := fun x hx => by
        obtain ⟨r, hr, rfl⟩ := List.mem_map.1 hx
        exact ⟨List.all_eq_true.1 hall _ hx, Hat.out.ty r hr⟩
      by_cases hall' : (qs.map AcR.x).all P.rightB = true
      case neg =>
        have He' := Lib.hid (P.encS_not hlQ hall')
        clear hall' hall
        go_wp2_with (first
          | (go_at_call 9; (with_reducible refine (encode_any a rs c n w2 ?h1 ?h2 (Hat.out.up hb12) hst).mono ?_); (case h1 => exact Hn.out); (case h2 => omega); rintro e w3 ⟨v3, rfl, hown3, hb3⟩; rw [He.out] at hown3 ⊢; have hb13 := Chain.up hb12 hb3; obtain ⟨a3, c3, hv3⟩ := Own.isS hown3; subst hv3)
          | (go_at_call 9; (with_reducible refine (encode_any a' qs c' n' w3 ?h1 ?h2 (Hat'.out.up hb13) hst').mono ?_); (case h1 => exact Hn'.out); (case h2 => omega); rintro e w4 ⟨v4, rfl, hown4, hb4⟩; rw [He'.out] at hown4 ⊢; have hb14 := Chain.up hb13 hb4)
          | (go_at_call 14; (with_reducible refine (awake_any _).mono ?_); rintro e w5 ⟨rfl, hb5⟩))
        go_ret
        exact ⟨rfl, Chain.up hb14 hb5⟩
      have He' := Lib.hid (P.encS_yes hlQ hall')
      have hRQ : P.RightL (qs.map AcR.x) := fun x hx => by
        obtain ⟨r, hr, rfl⟩ := List.mem_map.1 hx
        exact ⟨List.all_eq_true.1 hall' _ hx, Hat'.out.ty r hr⟩
      clear hall hall'
      have hLb : (P.scriptB (rs.map AcR.x)).length ≤ 200000 := by have := P.scriptB_size _ hRL; rw [List.length_map] at this; have := Hn.out; omega
      have hMb : (P.scriptB (qs.map AcR.x)).length ≤ 200000 := by have := P.scriptB_size _ hRQ; rw [List.length_map] at this; have := Hn'.out; omega
      obtain ⟨j, hj1, hj2, hj3⟩ := P.acts_cut (rs.map AcR.x) 4096 (cut % ((P.scriptB (rs.map AcR.x)).length + 1)) hRL hlR
      have hkL : cut % ((P.scriptB (rs.map AcR.x)).length + 1) ≤ (P.scriptB (rs.map AcR.x)).length := by have := Nat.mod_lt cut (show 0 < (P.scriptB (rs.map AcR.x)).length + 1 by omega); omega
      have HRb := Lib.hid (P.rdActs_all _ 4096 hRL hlR)
      have HRb2 := Lib.hid (P.rdActs_all (rs.map AcR.x ++ qs.map AcR.x) 4096 (fun x hx => (List.mem_append.1 hx).elim (hRL x) (hRQ x)) (by rw [List.length_append, List.length_map, List.length_map]; have := Hn.out; have := Hn'.out; omega))
      rw [P.scriptB_app] at HRb2
      have Hj1 := Lib.hid hj1
      have Hj2 := Lib.hid hj2
      have Hj3 := Lib.hid hj3
      have HkL := Lib.hid hkL
      clear hj1 hj2 hj3 hkL
      generalize hEB : P.scriptB (rs.map AcR.x) = EB at *
      generalize hFB : P.scriptB (qs.map AcR.x) = FB at *
      have HEB := Lib.hid hEB
      have HFB := Lib.hid hFB
      clear hEB hFB
      have hki : (cut : Int) % ((EB.length : Int) + 1) = ((cut % (EB.length + 1) : Nat) : Int) := rfl
      generalize hkk : cut % (EB.length + 1) = k at *
      have Hkk := Lib.hid hkk
      clear hkk
      go_wp2_with (first
        | (go_at_call 9; (with_reducible refine (encode_any a rs c n w2 ?h1 ?h2 (Hat.out.up hb12) hst).mono ?_); (case h1 => exact Hn.out); (case h2 => omega); rintro e w3 ⟨v3, rfl, hown3, hb3⟩; rw [He.out] at hown3 ⊢; have hb13 := Chain.up hb12 hb3; obtain ⟨a3, c3, hv3⟩ := Own.isS hown3; subst hv3)
        | (go_at_call 9; (with_reducible refine (encode_any a' qs c' n' w3 ?h1 ?h2 (Hat'.out.up hb13) hst').mono ?_); (case h1 => exact Hn'.out); (case h2 => omega); rintro e w4 ⟨v4, rfl, hown4, hb4⟩; rw [He'.out] at hown4 ⊢; have hb14 := Chain.up hb13 hb4; obtain ⟨a4, c4, hv4⟩ := Own.isS hown4; subst hv4; have hown34 := hown3.up hb4; have hcap3 := hown34.cap; have hk0 : k ≤ EB.length := HkL.out; have hkc : (k : Int) ≤ (c3 : Int) := (by omega)))
      have hdr3 := hown34.draws
      (with_reducible refine (decode_any (.slice a3 k c3) (EB.take k) w4 ?h1 ((hdr3.1.take k).says ?h2 hdr3.2)).mono ?_)
      case h1 => rw [List.length_take]; omega
      case h2 => rw [List.length_take]; omega
      rintro e w5 ⟨ls, v5, rfl, hld, hown5, hacs5, hb5⟩
      rw [Hj2.out] at hld
      have hRLt : P.RightL ((rs.map AcR.x).take j) := fun x hx => hRL x (List.mem_of_mem_take hx)
      have hok5 := ok_of_map hld hRLt
      have hlen5 : ls.length = j := by have := len_of_map hld; rw [List.length_take] at this; have := Hj1.out; omega
      obtain ⟨a5, c5, hv5, hat5⟩ := acts_own hown5 hacs5 hok5
      subst hv5
      rw [hlen5]
      have hb15 := Chain.up hb14 hb5
      have hown35 := hown34.up hb5
      have hown45 := hown4.up hb5
      have hjn : j ≤ n := by have := Hj1.out; rw [List.length_map] at this; have := Hn.out; omega
      have hjc : j ≤ c := by omega
      have hngt : decide (n < j) = false := decide_eq_false (by omega)
      have hngt2 : decide ((n : Int) < (j : Int)) = false := decide_eq_false (by omega)
      go_wp2_with fail
      (with_reducible refine (same_any a5 a c5 c j j ls (rs.take j) w5 ?s1 ?s2 ?s3 ?s3 hat5 ((Hat.out.up hb15).takeP j) hok5 ?s4).mono ?_)
      case s1 => exact hlen5.symm
      case s2 => rw [List.length_take]; have := Hn.out; omega
      case s3 => omega
      case s4 => exact fun r hr => ⟨(hRL r.x (List.mem_map_of_mem (List.mem_of_mem_take hr))).1, Hat.out.ty r (List.mem_of_mem_take hr)⟩
      rintro e w6 ⟨⟨b6, rfl, hb6e⟩, hb6⟩
      obtain rfl : b6 = true := hb6e.2 (by rw [hld, List.map_take])
      have hb16 := Chain.up hb15 hb6
      have hown36 := hown35.up hb6
      have hown46 := hown45.up hb6
      have Hjk := Lib.hid (show k < EB.length → ¬ j = n from fun h => by have := Hj3.out h; rw [List.length_map] at this; have := Hn.out; omega)
      have hlast : (decide (k < EB.length) && decide (j = n)) = false := by
        by_cases h : k < EB.length
        · simp [h, Hjk.out h]
        · simp [h]
      clear hb6e hat5 hacs5 hown5 hok5 hld hlen5 hRLt hngt hngt2 hown34 hown35 hown45 hdr3 hown3 hown4
      by_cases hkE : k < EB.length
      · have hjn2 : ¬ j = n := Hjk.out hkE
        have hjn3 : ((j : Int) == (n : Int)) = false := beq_eq_false_iff_ne.2 (by omega)
        have hkd : decide (k < EB.length) = true := decide_eq_true hkE
        have hrE := (own_rows.1 hown36).at byC_len
        have hrF := (own_rows.1 hown46).at byC_len
        have hA := (Below.refl w6.heap.size w6).alloc (Nat.le_refl _) (.cells #[] 5)
        have hown0 : OwnR 5 1 byC (w6.alloc (.cells #[] 5)) w6.heap.size (.slice (some ⟨w6.heap.size, 0, none⟩) 0 0) [] := OwnR.lit byC_len [] _ rfl (by simp) (Nat.le_refl _) _ _ _ rfl rfl rfl
        go_wp2_with (first
          | (at_builtin; (refine wpList_appB (by rfl) _ _ (by rfl) w6.heap.size _ [] EB (by rfl) hown0 ?q1 _ _ _ (by rfl) ?q2 (RowsAt.up hrE hA) hA.size ?_); (case q1 => simp; omega); (case q2 => rfl); intro v7 w7 hown7 hb7 hkt7; (rw [List.nil_append] at hown7); obtain ⟨a7, c7, hv7, hr7, _⟩ := hown7.is byC_len; (subst hv7); have hb67 := hA.trans hb7; have hrF7 := RowsAt.up hrF hb67)
          | (at_builtin; (refine wpList_appB (by rfl) _ _ (by rfl) w6.heap.size _ EB FB (by rfl) hown7 ?q3 _ _ _ (by rfl) ?q4 hrF7 hb67.size ?_); (case q3 => omega); (case q4 => rfl); intro v8 w8 hown8 hb8 hkt8; have hb68 := hb67.trans hb8))
        have hs8 := Own.says (own_rows.2 hown8)
        (with_reducible refine (decode_any v8 (EB ++ FB) w8 ?h3 hs8).mono ?_)
        case h3 => rw [List.length_append]; omega
        rintro e w9 ⟨bs, v9, rfl, hbd, hown9, hacs9, hb9⟩
        rw [HRb2.out] at hbd
        have hRLb : P.RightL (rs.map AcR.x ++ qs.map AcR.x) := fun x hx => (List.mem_append.1 hx).elim (hRL x) (hRQ x)
        have hok9 := ok_of_map hbd hRLb
        have hlen9 : bs.length = n + n' := by have := len_of_map hbd; rw [List.length_append, List.length_map, List.length_map] at this; have := Hn.out; have := Hn'.out; omega
        obtain ⟨a9, c9, hv9, hat9⟩ := acts_own hown9 hacs9 hok9
        subst hv9
        have hb19 := Chain.up (Chain.up hb16 hb68) hb9
        have hown39 := (hown36.up hb68).up hb9
        have Hb19 := Lib.hid hb19
        clear hrE hrF hA hown0 hown7 hb7 hkt7 hr7 hrF7 hown8 hb8 hkt8 hs8 hown9 hacs9
        go_wp2_with fail
        (with_reducible refine (decode_any (.slice a3 EB.length c3) EB w9 ?h4 hown39.says).mono ?_)
        case h4 => omega
        rintro e w10 ⟨ds, v10, rfl, hdd, hown10, hacs10, hb10⟩
        rw [HRb.out] at hdd
        have hok10 := ok_of_map hdd hRL
        have hlen10 : ds.length = n := by have := len_of_map hdd; rw [List.length_map] at this; have := Hn.out; omega
        obtain ⟨a10, c10, hv10, hat10⟩ := acts_own hown10 hacs10 hok10
        subst hv10
        rw [hlen10]
        have hb1a := Chain.up hb19 hb10
        have hat9' := hat9.up hb10
        clear hown10 hacs10
        go_wp2_with fail
        (with_reducible refine (same_any a10 a c10 c n n ds rs w10 ?t1 ?t2 ?t3 ?t3 hat10 (Hat.out.up hb1a) hok10 ?t4).mono ?_)
        case t1 => exact hlen10.symm
        case t2 => exact Hn.out
        case t3 => omega
        case t4 => exact ok_of_map rfl hRL
        rintro e w11 ⟨⟨b11, rfl, hb11e⟩, hb11⟩
        obtain rfl : b11 = true := hb11e.2 (by rw [hdd])
        have hb1b := Chain.up hb1a hb11
        have hat9b := hat9'.up hb11
        clear hb11e hat10 hok10 hdd hlen10
        have hrR := (Hat.out.up hb1b).rows
        have hrQ := (Hat'.out.up hb1b).rows
        have hAb := (Below.refl w11.heap.size w11).alloc (Nat.le_refl _) (.cells #[] 32)
        have hownA : OwnActs (w11.alloc (.cells #[] 32)) w11.heap.size (.slice (some ⟨w11.heap.size, 0, none⟩) 0 0) [] := OwnR.lit acCells_len [] _ rfl (by simp) (Nat.le_refl _) _ _ _ rfl rfl rfl
        have hnn : n + n' = (rs ++ qs).length := by have := Hn.out; have := Hn'.out; rw [List.length_append]; omega
        have Hnn := Lib.hid hnn
        clear hnn
        go_wp2_with (first
          | (at_builtin; (refine wpList_unguardA (by rfl) ?_); (refine wpList_appActs (by rfl) _ _ (by rfl) w11.heap.size _ [] rs (by rfl) hownA ?q1 _ _ _ (by rfl) Hn.out (RowsAt.up hrR hAb) hAb.size ?_); (case q1 => have := Hn.out; simp; omega); intro v12 w12 hown12 hb12b hkt12; (rw [List.nil_append] at hown12); obtain ⟨a12, c12, hv12, hr12, _⟩ := hown12.is acCells_len; (subst hv12); have hb112 := hAb.trans hb12b; have hrQ12 := RowsAt.up hrQ hb112)
          | (at_builtin; (refine wpList_unguardA (by rfl) ?_); (refine wpList_appActs (by rfl) _ _ (by rfl) w11.heap.size _ rs qs (by rfl) hown12 ?q3 _ _ _ (by rfl) Hn'.out hrQ12 hb112.size ?_); (case q3 => have := Hn.out; have := Hn'.out; omega); intro v13 w13 hown13 hb13b hkt13; obtain ⟨a13, c13, hv13, hr13, _⟩ := hown13.is acCells_len; (subst hv13); have hb113 := hb112.trans hb13b))
        have hb1d := Chain.up hb1b hb113
        have hat13 : ActsAt w13 a13 (rs ++ qs) := ⟨hr13, fun r hr => (List.mem_append.1 hr).elim (fun h => (Hat.out.up hb1d).acts r h) (fun h => (Hat'.out.up hb1d).acts r h), fun r hr => (List.mem_append.1 hr).elim (fun h => Hat.out.ty r h) (fun h => Hat'.out.ty r h)⟩
        (with_reducible refine (same_any a9 a13 c9 c13 (n + n') (rs.length + qs.length) bs (rs ++ qs) w13 ?u1 ?u2 ?u3 ?u4 (hat9b.up hb113) hat13 hok9 ?u5).mono ?_)
        case u1 => exact hlen9.symm
        case u2 => exact List.length_append.symm
        case u3 => omega
        case u4 => have := Hn.out; have := Hn'.out; omega
        case u5 => exact ok_of_map (l := rs.map AcR.x ++ qs.map AcR.x) (List.map_append ..) hRLb
        rintro e w14 ⟨⟨b14, rfl, hb14e⟩, hb14'⟩
        obtain rfl : b14 = true := hb14e.2 (by rw [hbd, List.map_append])
        have hb1e := Chain.up hb1d hb14'
        clear hb14e hat9b hat13 hok9 hbd hlen9
        go_wp2_with (go_at_call 14; (with_reducible refine (awake_any _).mono ?_); rintro e w15 ⟨rfl, hb15'⟩)
        go_ret
        exact ⟨rfl, Chain.up hb1e hb15'⟩
      · have hkd : decide (k < EB.length) = false := decide_eq_false hkE
        have hrE := (own_rows.1 hown36).at byC_len
        have hrF := (own_rows.1 hown46).at byC_len
        have hA := (Below.refl w6.heap.size w6).alloc (Nat.le_refl _) (.cells #[] 5)
        have hown0 : OwnR 5 1 byC (w6.alloc (.cells #[] 5)) w6.heap.size (.slice (some ⟨w6.heap.size, 0, none⟩) 0 0) [] := OwnR.lit byC_len [] _ rfl (by simp) (Nat.le_refl _) _ _ _ rfl rfl rfl
        go_wp2_with (first
          | (at_builtin; (refine wpList_appB (by rfl) _ _ (by rfl) w6.heap.size _ [] EB (by rfl) hown0 ?q1 _ _ _ (by rfl) ?q2 (RowsAt.up hrE hA) hA.size ?_); (case q1 => simp; omega); (case q2 => rfl); intro v7 w7 hown7 hb7 hkt7; (rw [List.nil_append] at hown7); obtain ⟨a7, c7, hv7, hr7, _⟩ := hown7.is byC_len; (subst hv7); have hb67 := hA.trans hb7; have hrF7 := RowsAt.up hrF hb67)
          | (at_builtin; (refine wpList_appB (by rfl) _ _ (by rfl) w6.heap.size _ EB FB (by rfl) hown7 ?q3 _ _ _ (by rfl) ?q4 hrF7 hb67.size ?_); (case q3 => omega); (case q4 => rfl); intro v8 w8 hown8 hb8 hkt8; have hb68 := hb67.trans hb8))
        have hs8 := Own.says (own_rows.2 hown8)
        (with_reducible refine (decode_any v8 (EB ++ FB) w8 ?h3 hs8).mono ?_)
        case h3 => rw [List.length_append]; omega
        rintro e w9 ⟨bs, v9, rfl, hbd, hown9, hacs9, hb9⟩
        rw [HRb2.out] at hbd
        have hRLb : P.RightL (rs.map AcR.x ++ qs.map AcR.x) := fun x hx => (List.mem_append.1 hx).elim (hRL x) (hRQ x)
        have hok9 := ok_of_map hbd hRLb
        have hlen9 : bs.length = n + n' := by have := len_of_map hbd; rw [List.length_append, List.length_map, List.length_map] at this; have := Hn.out; have := Hn'.out; omega
        obtain ⟨a9, c9, hv9, hat9⟩ := acts_own hown9 hacs9 hok9
        subst hv9
        have hb19 := Chain.up (Chain.up hb16 hb68) hb9
        have hown39 := (hown36.up hb68).up hb9
        have Hb19 := Lib.hid hb19
        clear hrE hrF hA hown0 hown7 hb7 hkt7 hr7 hrF7 hown8 hb8 hkt8 hs8 hown9 hacs9
        go_wp2_with fail
        (with_reducible refine (decode_any (.slice a3 EB.length c3) EB w9 ?h4 hown39.says).mono ?_)
        case h4 => omega
        rintro e w10 ⟨ds, v10, rfl, hdd, hown10, hacs10, hb10⟩
        rw [HRb.out] at hdd
        have hok10 := ok_of_map hdd hRL
        have hlen10 : ds.length = n := by have := len_of_map hdd; rw [List.length_map] at this; have := Hn.out; omega
        obtain ⟨a10, c10, hv10, hat10⟩ := acts_own hown10 hacs10 hok10
        subst hv10
        rw [hlen10]
        have hb1a := Chain.up hb19 hb10
        have hat9' := hat9.up hb10
        clear hown10 hacs10
        go_wp2_with fail
        (with_reducible refine (same_any a10 a c10 c n n ds rs w10 ?t1 ?t2 ?t3 ?t3 hat10 (Hat.out.up hb1a) hok10 ?t4).mono ?_)
        case t1 => exact hlen10.symm
        case t2 => exact Hn.out
        case t3 => omega
        case t4 => exact ok_of_map rfl hRL
        rintro e w11 ⟨⟨b11, rfl, hb11e⟩, hb11⟩
        obtain rfl : b11 = true := hb11e.2 (by rw [hdd])
        have hb1b := Chain.up hb1a hb11
        have hat9b := hat9'.up hb11
        clear hb11e hat10 hok10 hdd hlen10
        have hrR := (Hat.out.up hb1b).rows
        have hrQ := (Hat'.out.up hb1b).rows
        have hAb := (Below.refl w11.heap.size w11).alloc (Nat.le_refl _) (.cells #[] 32)
        have hownA : OwnActs (w11.alloc (.cells #[] 32)) w11.heap.size (.slice (some ⟨w11.heap.size, 0, none⟩) 0 0) [] := OwnR.lit acCells_len [] _ rfl (by simp) (Nat.le_refl _) _ _ _ rfl rfl rfl
        have hnn : n + n' = (rs ++ qs).length := by have := Hn.out; have := Hn'.out; rw [List.length_append]; omega
        have Hnn := Lib.hid hnn
        clear hnn
        go_wp2_with (first
          | (at_builtin; (refine wpList_unguardA (by rfl) ?_); (refine wpList_appActs (by rfl) _ _ (by rfl) w11.heap.size _ [] rs (by rfl) hownA ?q1 _ _ _ (by rfl) Hn.out (RowsAt.up hrR hAb) hAb.size ?_); (case q1 => have := Hn.out; simp; omega); intro v12 w12 hown12 hb12b hkt12; (rw [List.nil_append] at hown12); obtain ⟨a12, c12, hv12, hr12, _⟩ := hown12.is acCells_len; (subst hv12); have hb112 := hAb.trans hb12b; have hrQ12 := RowsAt.up hrQ hb112)
          | (at_builtin; (refine wpList_unguardA (by rfl) ?_); (refine wpList_appActs (by rfl) _ _ (by rfl) w11.heap.size _ rs qs (by rfl) hown12 ?q3 _ _ _ (by rfl) Hn'.out hrQ12 hb112.size ?_); (case q3 => have := Hn.out; have := Hn'.out; omega); intro v13 w13 hown13 hb13b hkt13; obtain ⟨a13, c13, hv13, hr13, _⟩ := hown13.is acCells_len; (subst hv13); have hb113 := hb112.trans hb13b))
        have hb1d := Chain.up hb1b hb113
        have hat13 : ActsAt w13 a13 (rs ++ qs) := ⟨hr13, fun r hr => (List.mem_append.1 hr).elim (fun h => (Hat.out.up hb1d).acts r h) (fun h => (Hat'.out.up hb1d).acts r h), fun r hr => (List.mem_append.1 hr).elim (fun h => Hat.out.ty r h) (fun h => Hat'.out.ty r h)⟩
        (with_reducible refine (same_any a9 a13 c9 c13 (n + n') (rs.length + qs.length) bs (rs ++ qs) w13 ?u1 ?u2 ?u3 ?u4 (hat9b.up hb113) hat13 hok9 ?u5).mono ?_)
        case u1 => exact hlen9.symm
        case u2 => exact List.length_append.symm
        case u3 => omega
        case u4 => have := Hn.out; have := Hn'.out; omega
        case u5 => exact ok_of_map (l := rs.map AcR.x ++ qs.map AcR.x) (List.map_append ..) hRLb
        rintro e w14 ⟨⟨b14, rfl, hb14e⟩, hb14'⟩
        obtain rfl : b14 = true := hb14e.2 (by rw [hbd, List.map_append])
        have hb1e := Chain.up hb1d hb14'
        clear hb14e hat9b hat13 hok9 hbd hlen9
        go_wp2_with (go_at_call 14; (with_reducible refine (awake_any _).mono ?_); rintro e w15 ⟨rfl, hb15'⟩)
        go_ret
        exact ⟨rfl, Chain.up hb1e hb15'⟩
end Go.Proofs.YtnflbgindcejjaaDoor
