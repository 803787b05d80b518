/- The walk of edit's Encode. -/
import Derived.Test.YthpgigjplknomaaWEdOps
import Derived.Test.YthpgigjplknomaaWOwnG
namespace Go.Proofs.Ythpgigjplknomaa
open Go.RowKit
set_option linter.unusedVariables false

theorem var_1 (n : Nat) (hn : n < 18446744073709551616) (w : World) (g : Nat) (hg : g = w.heap.size) :
    Calls Try.prog 27 #[.slice (some ⟨g, 0, none⟩) 1 1] (w.alloc (.cells #[V64 n] 27)) fun e w' => e = .returned (S (P.vars [n])) ∧ Below w.heap.size w w' := by
  subst hg
  have h := var_any (some ⟨w.heap.size, 0, none⟩) 1 [n] (w.alloc (.cells #[V64 n] 27)) (by simp) (by simpa using hn) (nums_new w _ _ _ rfl)
  exact h.mono fun e w' ⟨he, hb⟩ => ⟨he, ((Below.refl _ _).alloc (Nat.le_refl _) _).trans (hb.mono (by simp))⟩
theorem var_3 (a b c : Nat) (ha : a < 18446744073709551616) (hb : b < 18446744073709551616) (hc : c < 18446744073709551616) (w : World) (g : Nat) (hg : g = w.heap.size) :
    Calls Try.prog 27 #[.slice (some ⟨g, 0, none⟩) 3 3] (w.alloc (.cells #[V64 a, V64 b, V64 c] 27)) fun e w' => e = .returned (S (P.vars [a, b, c])) ∧ Below w.heap.size w w' := by
  subst hg
  have h := var_any (some ⟨w.heap.size, 0, none⟩) 3 [a, b, c] (w.alloc (.cells #[V64 a, V64 b, V64 c] 27)) (by simp) (by simpa using ⟨ha, hb, hc⟩) (nums_new w _ _ _ rfl)
  exact h.mono fun e w' ⟨he, hb⟩ => ⟨he, ((Below.refl _ _).alloc (Nat.le_refl _) _).trans (hb.mono (by simp))⟩
theorem var_6 (a b c d e f : Nat) (ha : a < 18446744073709551616) (hb : b < 18446744073709551616) (hc : c < 18446744073709551616) (hd : d < 18446744073709551616) (he : e < 18446744073709551616) (hf : f < 18446744073709551616) (w : World) (g : Nat) (hg : g = w.heap.size) :
    Calls Try.prog 27 #[.slice (some ⟨g, 0, none⟩) 6 6] (w.alloc (.cells #[V64 a, V64 b, V64 c, V64 d, V64 e, V64 f] 27)) fun e' w' => e' = .returned (S (P.vars [a, b, c, d, e, f])) ∧ Below w.heap.size w w' := by
  subst hg
  have h := var_any (some ⟨w.heap.size, 0, none⟩) 6 [a, b, c, d, e, f] (w.alloc (.cells #[V64 a, V64 b, V64 c, V64 d, V64 e, V64 f] 27)) (by simp) (by simpa using ⟨ha, hb, hc, hd, he, hf⟩) (nums_new w _ _ _ rfl)
  exact h.mono fun e w' ⟨he, hb⟩ => ⟨he, ((Below.refl _ _).alloc (Nat.le_refl _) _).trans (hb.mono (by simp))⟩
theorem text_two (k v : List UInt8) (hk : k.length + v.length ≤ 20000) (w : World) (g : Nat) (hg : g = w.heap.size) :
    Calls Try.prog 28 #[.slice (some ⟨g, 0, none⟩) 2 2] (w.alloc (.cells #[S k, S v] 9)) fun e w' => e = .returned (S (P.texts [k, v])) ∧ Below w.heap.size w w' := by
  subst hg
  have h := texts_any (some ⟨w.heap.size, 0, none⟩) 2 [k, v] (w.alloc (.cells #[S k, S v] 9)) (by simp) (by simp [P.total]; omega) (strs_new w _ _ _ rfl)
  exact h.mono fun e w' ⟨he, hb⟩ => ⟨he, ((Below.refl _ _).alloc (Nat.le_refl _) _).trans (hb.mono (by simp))⟩
/-- The bytes and the error's number. -/
def P.resE (e : P.Ed) : List UInt8 × Nat := if P.mayB e = true then (if (P.encE e).length ≤ 524288 then (P.encE e, 0) else ([], 3)) else ([], 1)
theorem P.tabRow_len (t : P.Tab) (h : P.wrongB t = false) : (P.tabRow t).length ≤ 200 := by
  obtain ⟨h1, h2, h3, h4, h5, h6, h7, h8, h9, h10⟩ := P.wrong_no h
  have a := P.vars_len [t.n, t.level.toNat, t.count.toNat, t.size.toNat, t.least, t.most]
  have b := P.texts_len [t.first, t.last]
  simp [P.total] at a b
  unfold P.tabRow
  rw [List.length_append]
  omega
theorem P.tabRows_len : ∀ l : List P.Tab, (∀ t ∈ l, P.wrongB t = false) → (P.tabRows l).length ≤ 200 * l.length
  | [], _ => by simp [P.tabRows]
  | t :: l, h => by
    have h1 := P.tabRow_len t (h t (List.mem_cons_self ..))
    have h2 := P.tabRows_len l (fun q hq => h q (List.mem_cons_of_mem _ hq))
    rw [P.tabRows_cons, List.length_append, List.length_cons]
    omega

set_option maxRecDepth 100000 in
set_option maxHeartbeats 4000000 in
theorem encode_no (e : P.Ed) (a b : Option Addr) (c d lo se ne : Nat) (w : World) (hl : e.add.length ≤ 9223372036854775807) (hk : e.drop.length ≤ 9223372036854775807) (hp : EdAt w a b e) (hno : P.mayB e = false) :
    Calls Try.prog 11 #[edV a e.add.length c b e.drop.length d lo se ne] w fun e w' => e = .returned (.tuple #[S [], .int .i64 1]) ∧ Below w.heap.size w w' := by
  have HC := Lib.hid (fun wx (hx : Below w.heap.size w wx) => check_any e a b _ c _ d rfl rfl wx hl hk (hp.up hx) lo se ne 1 (by unfold P.chkE; rw [hno]; rfl))
  have h0 : Below w.heap.size w (w.alloc (.cells #[.slice a e.add.length c, .slice b e.drop.length d, V64 lo, V64 se, V64 ne] 29)) := (Below.refl _ _).alloc (Nat.le_refl _) _
  clear hp hno
  go_enter Try.func11, Try.ntmps11
  go_wp2_with (go_at_call 13; (with_reducible refine (HC.out _ h0).mono ?_); rintro e w1 ⟨rfl, hb1⟩)
  exact bodyPost_ret (v := .tuple #[S [], .int .i64 1]) (by simp [results, Try.results11, go_sem]) rfl ⟨rfl, Chain.up h0 hb1⟩

theorem OwnG.low {w : World} {B B' : Nat} {v : Value} {l : List UInt8} (h : OwnG w B v l) (hB : B' ≤ B) : OwnG w B' v l := by
  obtain ⟨g, cap, rfl, h1, rest⟩ := h
  exact ⟨g, cap, rfl, Nat.le_trans hB h1, rest⟩
theorem OwnG.len {w : World} {B : Nat} {v : Value} {l : List UInt8} (h : OwnG w B v l) : ∃ a c, v = .slice a l.length c := by
  obtain ⟨g, cap, rfl, _⟩ := h
  exact ⟨_, _, rfl⟩

set_option maxRecDepth 100000 in
set_option maxHeartbeats 8000000 in
theorem encode_ok (e : P.Ed) (a b : Option Addr) (c d : Nat) (w : World) (hl : e.add.length ≤ 100000) (hk : e.drop.length ≤ 100000) (hp : EdAt w a b e) (hyes : P.mayB e = true) (ht : P.tyE e) :
    Calls Try.prog 11 #[edV a e.add.length c b e.drop.length d e.log e.seq e.next] w fun e' w' => e' = .returned (.tuple #[S (P.resE e).1, .int .i64 ((P.resE e).2 : Nat)]) ∧ Below w.heap.size w w' := by
  obtain ⟨add, drop, lo, se, ne⟩ := e
  simp only at hl hk
  have HC := Lib.hid (fun wx (hx : Below w.heap.size w wx) => check_any ⟨add, drop, lo, se, ne⟩ a b _ c _ d rfl rfl wx (by simp only; omega) (by simp only; omega) (hp.up hx) lo se ne 0 (by unfold P.chkE; rw [hyes]; rfl))
  have h0 : Below w.heap.size w (w.alloc (.cells #[.slice a add.length c, .slice b drop.length d, V64 lo, V64 se, V64 ne] 29)) := (Below.refl _ _).alloc (Nat.le_refl _) _
  have hbx := Bx.fresh w 29 #[.slice a add.length c, .slice b drop.length d, V64 lo, V64 se, V64 ne]
  obtain ⟨hm1, hm2⟩ := P.may_iff hyes
  obtain ⟨ht1, ht2, ht3, ht4, ht5, ht6, ht7⟩ := ht
  simp only at hm1 hm2 ht1 ht2 ht3 ht4 ht5 ht6 ht7
  have HV1 := Lib.hid (fun wx g hg => var_1 add.length ht2 wx g hg)
  have HV2 := Lib.hid (fun wx g hg => var_1 drop.length ht3 wx g hg)
  have HV3 := Lib.hid (fun wx g hg => var_3 lo se ne ht5 ht6 ht7 wx g hg)
  have HVD := Lib.hid (fun wx (hx : Below w.heap.size w wx) => var_any b d drop wx hk ht4 (NumsAt.below hp.2 hx))
  have Hta := Lib.hid (show TabsAt w a add from hp.1)
  have Hm1 := Lib.hid hm1
  have Ht1 := Lib.hid ht1
  have Hres := Lib.hid (show P.resE ⟨add, drop, lo, se, ne⟩ = if (P.vars [add.length] ++ P.tabRows add ++ P.vars [drop.length] ++ P.vars drop ++ P.vars [lo, se, ne]).length ≤ 524288 then (P.vars [add.length] ++ P.tabRows add ++ P.vars [drop.length] ++ P.vars drop ++ P.vars [lo, se, ne], 0) else ([], 3) by
    have he : P.encE ⟨add, drop, lo, se, ne⟩ = P.vars [add.length] ++ P.tabRows add ++ P.vars [drop.length] ++ P.vars drop ++ P.vars [lo, se, ne] := by simp [P.encE, P.vars]
    unfold P.resE; rw [if_pos hyes, he])
  have htl := P.tabRows_len add hm1
  have v1 := P.vars_len [add.length]
  have v2 := P.vars_len [drop.length]
  have v3 := P.vars_len [lo, se, ne]
  have v4 := P.vars_len drop
  simp only [List.length_cons, List.length_nil, Nat.zero_add] at v1 v2 v3
  generalize P.vars [add.length] = r1 at *
  generalize P.vars [drop.length] = r2 at *
  generalize P.vars [lo, se, ne] = r3 at *
  generalize P.vars drop = r4 at *
  have hwn : IntKind.u64.wrap (add.length : Int) = (add.length : Int) := by rw [IntKind.wrap_u64]; omega
  have hwm : IntKind.u64.wrap (drop.length : Int) = (drop.length : Int) := by rw [IntKind.wrap_u64]; omega
  clear hp hyes hm1 hm2 ht1 ht2 ht3 ht4 ht5 ht6 ht7
  generalize hln : add.length = n at *
  have Hln := Lib.hid hln
  clear hln
  generalize drop.length = m at *
  go_enter Try.func11, Try.ntmps11
  go_wp2_with (first
    | (go_at_call 13; (with_reducible refine (HC.out _ h0).mono ?_); rintro e w1 ⟨rfl, hb1⟩; have hbx1 := hbx.up hb1; have hc1 := Chain.up h0 hb1; obtain ⟨x0, x1, x2, x3, x4⟩ := hbx1.five)
    | (go_at_call 27; (with_reducible refine (HV1.out _ _ ?hg).mono ?_); (case hg => rfl); rintro e w2 ⟨rfl, hb2⟩; have hbx2 := hbx1.up hb2; have hc2 := Chain.up hc1 hb2)
    | (refine wpList_conv_ownG r1 (by rfl) 5 rfl Try.underlying9 Try.underlying42 Try.underlying5 ?hl ?_; (case hl => omega); intro v3 w3 hown3 hb3; have hbx3 := hbx2.up hb3; have hc3 := Chain.up hc2 hb3; obtain ⟨y0, y1, y2, y3, y4⟩ := hbx3.five))
  have Hw2 := Lib.hid (show w.heap.size ≤ w2.heap.size from hc2.size)
  clear hb1 hb2 hc1 hc2 hbx hbx1 hbx2 x0 x1 x2 x3 x4 y0 y1 y2 y3 y4 h0
  go_loopw [5, 23] (fun v i wr => ∃ k : Nat, k ≤ n ∧ i = .int .i64 k ∧ OwnG wr w2.heap.size v (r1 ++ P.tabRows (add.take k)) ∧ Bx wr w.heap.size 29 #[.slice a n c, .slice b m d, V64 lo, V64 se, V64 ne] ∧ w2.heap.size ≤ wr.heap.size ∧ Below w.heap.size w wr) (fun _ i _ => n - (intOf i).toNat)
  case atStart => exact ⟨0, by omega, rfl, by simpa [P.tabRows] using hown3, hbx3, hb3.size, hc3⟩
  case round =>
    clear hown3 hbx3 hc3 hb3
    obtain ⟨k, hk, rfl, hown, hbx, hsz, hb⟩ := hrel
    obtain ⟨y0, y1, y2, y3, y4⟩ := hbx.five
    by_cases hlt : k < n
    · have hlt' : k < add.length := by have := Hln.out; omega
      obtain ⟨bb, o, rfl, hbb, c0, c1, c2, c3, c4, c5, c6, c7⟩ := tab_at (RowsAt.up Hta.out hb) k hlt'
      have hw := Hm1.out add[k] (List.getElem_mem hlt')
      have hty := Ht1.out add[k] (List.getElem_mem hlt')
      have Hnx := Lib.hid (show P.tabRows (add.take (k + 1)) = P.tabRows (add.take k) ++ P.tabRow add[k] by rw [List.take_succ_eq_append_getElem hlt', P.tabRows_snoc])
      have hrl := P.tabRows_len (add.take k) (fun t ht => Hm1.out t (List.mem_of_mem_take ht))
      rw [List.length_take] at hrl
      have hrl2 : (r1 ++ P.tabRows (add.take k)).length ≤ 30000000 := by rw [List.length_append]; omega
      clear hrl
      generalize hq : r1 ++ P.tabRows (add.take k) = q at *
      generalize P.tabRows (add.take k) = rs at *
      generalize add[k] = t at *
      obtain ⟨tn, tl, tc, ts, tf, tz, te, tm⟩ := t
      simp only at c0 c1 c2 c3 c4 c5 c6 c7
      have hol := P.tabRow_len _ hw
      obtain ⟨h1, h2, h3, h4, h5, h6, h7, h8, h9, h10⟩ := P.wrong_no hw
      obtain ⟨k1, k2, k3, k4, k5, k6⟩ := hty
      simp only at h1 h2 h3 h4 h5 h6 h7 h8 h9 h10 k1 k2 k3 k4 k5 k6
      obtain ⟨lv, rfl⟩ : ∃ lv : Nat, tl = (lv : Int) := ⟨tl.toNat, by omega⟩
      obtain ⟨ct, rfl⟩ : ∃ ct : Nat, tc = (ct : Int) := ⟨tc.toNat, by omega⟩
      obtain ⟨sz, rfl⟩ : ∃ sz : Nat, ts = (sz : Int) := ⟨ts.toNat, by omega⟩
      rw [show P.tabRow ⟨tn, (lv : Int), (ct : Int), (sz : Int), tf, tz, te, tm⟩ = P.vars [tn, lv, ct, sz, te, tm] ++ P.texts [tf, tz] by simp [P.tabRow]] at Hnx hol
      have HV6 := Lib.hid (fun wx g hg => var_6 tn lv ct sz te tm (by omega) (by omega) (by omega) (by omega) (by omega) (by omega) wx g hg)
      have HT2 := Lib.hid (fun wx g hg => text_two tf tz (by omega) wx g hg)
      have hw1 : IntKind.u64.wrap (lv : Int) = (lv : Int) := by rw [IntKind.wrap_u64]; omega
      have hw2 : IntKind.u64.wrap (ct : Int) = (ct : Int) := by rw [IntKind.wrap_u64]; omega
      have hw3 : IntKind.u64.wrap (sz : Int) = (sz : Int) := by rw [IntKind.wrap_u64]; omega
      rw [List.length_append] at hol
      generalize P.vars [tn, lv, ct, sz, te, tm] = s6 at *
      generalize P.texts [tf, tz] = s2 at *
      clear h1 h2 h3 h4 h5 h6 h7 h8 h9 h10 k1 k2 k3 k4 k5 k6 hw
      have hba := (Below.refl wr.heap.size wr).alloc (Nat.le_refl _) (.cells #[V64 tn, .int .i64 (lv : Int), .int .i64 (ct : Int), .int .i64 (sz : Int), S tf, S tz, V64 te, V64 tm] 31)
      have hbt := Bx.fresh wr 31 #[V64 tn, .int .i64 (lv : Int), .int .i64 (ct : Int), .int .i64 (sz : Int), S tf, S tz, V64 te, V64 tm]
      go_wp2_with (first
        | (go_at_call 27; (with_reducible refine (HV6.out _ _ ?hg).mono ?_); (case hg => simp); rintro e w4 ⟨rfl, hb4⟩; have hown4 := (hown.up hba).up hb4; have hbt4 := hbt.up hb4; have hbx4 := (hbx.up hba).up hb4; have hc4 := Chain.up hba hb4; have hs4 := Nat.le_trans hsz hc4.size)
        | (at_builtin; (refine wpList_appG (by rfl) _ _ (by rfl) w2.heap.size _ q s6 (by rfl) hown4 (by rfl) ?hl hs4 ?_; (case hl => omega); intro v5 w5 hown5 hb5 hk5; have hbt5 := hk5 _ _ _ (by decide) hbt4; have hbx5 := hk5 _ _ _ (by decide) hbx4; have hs5 := Nat.le_trans hs4 hb5.size; have z4 := hbt5.cell 4; have z5 := hbt5.cell 5; simp only [List.getElem?_toArray, List.getElem?_cons_succ, List.getElem?_cons_zero] at z4 z5))
        | (go_at_call 28; (with_reducible refine (HT2.out _ _ ?hg2).mono ?_); (case hg2 => simp); rintro e w6 ⟨rfl, hb6⟩; have hown6 := hown5.up hb6; have hbx6 := hbx5.up hb6; have hs6 := Nat.le_trans hs5 hb6.size)
        | (at_builtin; (refine wpList_appG (by rfl) _ _ (by rfl) w2.heap.size _ (q ++ s6) s2 (by rfl) hown6 (by rfl) ?hl2 hs6 ?_; (case hl2 => rw [List.length_append]; omega); intro v7 w7 hown7 hb7 hk7; have hbx7 := hk7 _ _ _ (by decide) hbx6; have hs7 := Nat.le_trans hs6 hb7.size)))
      go_roundw
      case rel => exact ⟨k + 1, by omega, by go_num, by rw [Hnx.out, ← List.append_assoc, hq, ← List.append_assoc]; exact hown7, hbx7, hs7, (((hb.trans (hc4.mono hb.size)).trans (hb5.mono Hw2.out)).trans (hb6.mono (by have := hb.size; have := hc4.size; have := hb5.size; omega))).trans (hb7.mono Hw2.out)⟩
      case measure => simp [intOf]; omega
    · obtain rfl : k = n := by omega
      have Hk := Lib.hid (show add.take k = add by have := Hln.out; rw [← this, List.take_length])
      rw [Hk.out] at hown
      generalize hq : r1 ++ P.tabRows add = q at *
      have hql : q.length ≤ 30000000 := by rw [← hq, List.length_append]; omega
      clear hlt htl
      obtain ⟨z, hz⟩ : ∃ z, z = q ++ r2 ++ r4 ++ r3 := ⟨_, rfl⟩
      rw [← hz] at Hres
      have Hz := Lib.hid hz
      clear hz
      by_cases hbig : z.length ≤ 524288
      · have Hr := Lib.hid (Hres.out.trans (if_pos hbig))
        have hbi : (z.length : Int) ≤ 524288 := by omega
        clear hbig
        go_wp2_with (first
        | (go_at_call 27; (with_reducible refine (HV2.out _ _ ?hg).mono ?_); (case hg => rfl); rintro e w4 ⟨rfl, hb4⟩; have hown4 := hown.up hb4; have hbx4 := hbx.up hb4; have hs4 := Nat.le_trans hsz hb4.size; have hc4 := Chain.up hb hb4)
        | (at_builtin; (refine wpList_appG (by rfl) _ _ (by rfl) w2.heap.size _ q r2 (by rfl) hown4 (by rfl) ?hl1 hs4 ?_; (case hl1 => omega); intro v5 w5 hown5 hb5 hk5; have hbx5 := hk5 _ _ _ (by decide) hbx4; have hs5 := Nat.le_trans hs4 hb5.size; have hc5 := hc4.trans (hb5.mono Hw2.out); have p1 := hbx5.cell 1; simp only [List.getElem?_toArray, List.getElem?_cons_succ, List.getElem?_cons_zero] at p1))
        | (go_at_call 27; (with_reducible refine (HVD.out _ hc5).mono ?_); rintro e w6 ⟨rfl, hb6⟩; have hown6 := hown5.up hb6; have hbx6 := hbx5.up hb6; have hs6 := Nat.le_trans hs5 hb6.size; have hc6 := Chain.up hc5 hb6)
        | (at_builtin; (refine wpList_appG (by rfl) _ _ (by rfl) w2.heap.size _ (q ++ r2) r4 (by rfl) hown6 (by rfl) ?hl2 hs6 ?_; (case hl2 => rw [List.length_append]; omega); intro v7 w7 hown7 hb7 hk7; have hbx7 := hk7 _ _ _ (by decide) hbx6; have hs7 := Nat.le_trans hs6 hb7.size; have hc7 := hc6.trans (hb7.mono Hw2.out); have p2 := hbx7.cell 2; have p3 := hbx7.cell 3; have p4 := hbx7.cell 4; simp only [List.getElem?_toArray, List.getElem?_cons_succ, List.getElem?_cons_zero] at p2 p3 p4))
        | (go_at_call 27; (with_reducible refine (HV3.out _ _ ?hg3).mono ?_); (case hg3 => rfl); rintro e w8 ⟨rfl, hb8⟩; have hown8 := hown7.up hb8; have hs8 := Nat.le_trans hs7 hb8.size; have hc8 := Chain.up hc7 hb8)
        | (at_builtin; (refine wpList_appG (by rfl) _ _ (by rfl) w2.heap.size _ (q ++ r2 ++ r4) r3 (by rfl) hown8 (by rfl) ?hl3 hs8 ?_; (case hl3 => rw [List.length_append, List.length_append]; omega); intro v9 w9 hown9 hb9 hk9; rw [← Hz.out] at hown9; have hc9 := hc8.trans (hb9.mono Hw2.out); obtain ⟨a9, c9, hv9⟩ := hown9.len; have Hown9 := Lib.hid hown9; clear hown9; subst hv9))
        | (refine wpList_strG (by rfl) Hown9.out ?_))
        exact bodyPost_ret (v := .tuple #[S z, .int .i64 0]) (by simp [results, Try.results11, go_sem]) rfl ⟨by rw [Hr.out]; rfl, hc9⟩
      · have Hr := Lib.hid (Hres.out.trans (if_neg hbig))
        have hbi : (524288 : Int) < (z.length : Int) := by omega
        clear hbig
        go_wp2_with (first
        | (go_at_call 27; (with_reducible refine (HV2.out _ _ ?hg).mono ?_); (case hg => rfl); rintro e w4 ⟨rfl, hb4⟩; have hown4 := hown.up hb4; have hbx4 := hbx.up hb4; have hs4 := Nat.le_trans hsz hb4.size; have hc4 := Chain.up hb hb4)
        | (at_builtin; (refine wpList_appG (by rfl) _ _ (by rfl) w2.heap.size _ q r2 (by rfl) hown4 (by rfl) ?hl1 hs4 ?_; (case hl1 => omega); intro v5 w5 hown5 hb5 hk5; have hbx5 := hk5 _ _ _ (by decide) hbx4; have hs5 := Nat.le_trans hs4 hb5.size; have hc5 := hc4.trans (hb5.mono Hw2.out); have p1 := hbx5.cell 1; simp only [List.getElem?_toArray, List.getElem?_cons_succ, List.getElem?_cons_zero] at p1))
        | (go_at_call 27; (with_reducible refine (HVD.out _ hc5).mono ?_); rintro e w6 ⟨rfl, hb6⟩; have hown6 := hown5.up hb6; have hbx6 := hbx5.up hb6; have hs6 := Nat.le_trans hs5 hb6.size; have hc6 := Chain.up hc5 hb6)
        | (at_builtin; (refine wpList_appG (by rfl) _ _ (by rfl) w2.heap.size _ (q ++ r2) r4 (by rfl) hown6 (by rfl) ?hl2 hs6 ?_; (case hl2 => rw [List.length_append]; omega); intro v7 w7 hown7 hb7 hk7; have hbx7 := hk7 _ _ _ (by decide) hbx6; have hs7 := Nat.le_trans hs6 hb7.size; have hc7 := hc6.trans (hb7.mono Hw2.out); have p2 := hbx7.cell 2; have p3 := hbx7.cell 3; have p4 := hbx7.cell 4; simp only [List.getElem?_toArray, List.getElem?_cons_succ, List.getElem?_cons_zero] at p2 p3 p4))
        | (go_at_call 27; (with_reducible refine (HV3.out _ _ ?hg3).mono ?_); (case hg3 => rfl); rintro e w8 ⟨rfl, hb8⟩; have hown8 := hown7.up hb8; have hs8 := Nat.le_trans hs7 hb8.size; have hc8 := Chain.up hc7 hb8)
        | (at_builtin; (refine wpList_appG (by rfl) _ _ (by rfl) w2.heap.size _ (q ++ r2 ++ r4) r3 (by rfl) hown8 (by rfl) ?hl3 hs8 ?_; (case hl3 => rw [List.length_append, List.length_append]; omega); intro v9 w9 hown9 hb9 hk9; rw [← Hz.out] at hown9; have hc9 := hc8.trans (hb9.mono Hw2.out); obtain ⟨a9, c9, hv9⟩ := hown9.len; have Hown9 := Lib.hid hown9; clear hown9; subst hv9)))
        exact bodyPost_ret (v := .tuple #[S [], .int .i64 3]) (by simp [results, Try.results11, go_sem]) rfl ⟨by rw [Hr.out]; rfl, hc9⟩

theorem encode_any (e : P.Ed) (a b : Option Addr) (c d : Nat) (w : World) (hl : e.add.length ≤ 100000) (hk : e.drop.length ≤ 100000) (hp : EdAt w a b e) (ht : P.tyE e) :
    Calls Try.prog 11 #[edV a e.add.length c b e.drop.length d e.log e.seq e.next] w fun e' w' => e' = .returned (.tuple #[S (P.resE e).1, .int .i64 ((P.resE e).2 : Nat)]) ∧ Below w.heap.size w w' := by
  cases hm : P.mayB e with
  | true => exact encode_ok e a b c d w hl hk hp hm ht
  | false =>
    have h := encode_no e a b c d e.log e.seq e.next w (by omega) (by omega) hp hm
    rwa [show P.resE e = ([], 1) by unfold P.resE; rw [hm]; rfl]
end Go.Proofs.Ythpgigjplknomaa
