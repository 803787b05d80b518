/- The walks of the document's Same, of edits; of Great and Given. -/
import Derived.Test.YthpgigjplknomaaWEdOps
import Derived.Laws.StructEq
import Derived.Deep.QuietTactic
import Derived.BigQuiet
namespace Go.Proofs.Ythpgigjplknomaa
open Go.RowKit
set_option linter.unusedVariables false

theorem fieldsTab : Try.prog.underlying 31 = some (.struct (Try.prog.fieldsOf 31)) := by kernel_rfl
theorem fieldsTabL : (Try.prog.fieldsOf 31).toList.map (fun f => (f.name == "_", f.type, f.offset)) = [(false, 27, 0), (false, 3, 1), (false, 3, 2), (false, 3, 3), (false, 9, 4), (false, 9, 5), (false, 27, 6), (false, 27, 7)] := by kernel_rfl
theorem stoodTab : Try.prog.stoodInHeld 31 = false := by kernel_rfl
theorem guardTab : Try.prog.eqGuardType Try.prog.depth 31 = false := by kernel_rfl
/-- Are they one? (Not to be unfolded in a walk.) -/
def P.tabEq (n : Int) (l c s : Int) (f z : List UInt8) (e m : Int) (n' : Int) (l' c' s' : Int) (f' z' : List UInt8) (e' m' : Int) : Bool := decide (n = n' ∧ l = l' ∧ c = c' ∧ s = s' ∧ f = f' ∧ z = z' ∧ e = e' ∧ m = m')
theorem eq_tab (n l c s : Int) (f z : List UInt8) (e m n' l' c' s' : Int) (f' z' : List UInt8) (e' m' : Int) (w : World) :
    (Op.equalIn 10000 31 (.agg #[.int .u64 n, .int .i64 l, .int .i64 c, .int .i64 s, S f, S z, .int .u64 e, .int .u64 m]) (.agg #[.int .u64 n', .int .i64 l', .int .i64 c', .int .i64 s', S f', S z', .int .u64 e', .int .u64 m'])).run Try.prog w =
      .ok (P.tabEq n l c s f z e m n' l' c' s' f' z' e' m') w := by
  have hf := fieldsTabL
  rw [run_equalIn_struct w 9999 _ _ _ fieldsTab stoodTab]
  have hl := congrArg List.length hf
  generalize (Try.prog.fieldsOf 31).toList = fs at hf hl
  match fs, (by simpa using hl : fs.length = 8) with
  | [f0, f1, f2, f3, f4, f5, f6, f7], _ =>
    simp only [List.map_cons, List.map_nil, List.cons.injEq, Prod.mk.injEq, and_true, beq_eq_false_iff_ne] at hf
    obtain ⟨⟨n0, t0, o0⟩, ⟨n1, t1, o1⟩, ⟨n2, t2, o2⟩, ⟨n3, t3, o3⟩, ⟨n4, t4, o4⟩, ⟨n5, t5, o5⟩, ⟨n6, t6, o6⟩, n7, t7, o7⟩ := hf
    simp only [Op.eqFields, t0, t1, t2, t3, t4, t5, t6, t7, o0, o1, o2, o3, o4, o5, o6, o7]
    simp [go_sem, part, n0, n1, n2, n3, n4, n5, n6, n7]
    unfold P.tabEq
    by_cases a0 : n = n' <;> simp [a0]
    by_cases a1 : l = l' <;> simp [a1]
    by_cases a2 : c = c' <;> simp [a2]
    by_cases a3 : s = s' <;> simp [a3]
    by_cases a4 : f = f' <;> simp [a4]
    by_cases a5 : z = z' <;> simp [a5]
    by_cases a6 : e = e' <;> simp [a6]
    by_cases a7 : m = m' <;> simp [a7]
theorem P.tabEq_iff (x y : P.Tab) : P.tabEq (x.n : Int) x.level x.count x.size x.first x.last (x.least : Int) (x.most : Int) (y.n : Int) y.level y.count y.size y.first y.last (y.least : Int) (y.most : Int) = decide (x = y) := by
  obtain ⟨a, b, c, d, e, f, g, h⟩ := x
  obtain ⟨a', b', c', d', e', f', g', h'⟩ := y
  unfold P.tabEq
  rw [decide_eq_decide]
  simp only [P.Tab.mk.injEq]
  constructor
  · rintro ⟨q0, q1, q2, q3, q4, q5, q6, q7⟩; exact ⟨by omega, q1, q2, q3, q4, q5, by omega, by omega⟩
  · rintro ⟨q0, q1, q2, q3, q4, q5, q6, q7⟩; exact ⟨by omega, q1, q2, q3, q4, q5, by omega, by omega⟩

attribute [local go_sem high] eq_tab guardTab

theorem P.take_same {α : Type} {l1 l2 : List α} {k : Nat} (h1 : k < l1.length) (h2 : k < l2.length) (h : l1.take k = l2.take k) (he : l1[k] = l2[k]) : l1.take (k + 1) = l2.take (k + 1) := by
  rw [List.take_succ_eq_append_getElem h1, List.take_succ_eq_append_getElem h2, h, he]
/-- Two edits? -/
def P.sameE (x y : P.Ed) : Bool := decide (x = y)

set_option maxRecDepth 100000 in
set_option maxHeartbeats 4000000 in
/-- Same, of two that are alike but for their tables and numbers. -/
theorem same_in (lo se ne : Nat) (A1 A2 : List P.Tab) (D1 D2 : List Nat) (a1 a2 b1 b2 : Option Addr) (c1 c2 d1 d2 n m : Nat) (hn : n = A1.length) (hn2 : n = A2.length) (hm : m = D1.length) (hm2 : m = D2.length) (w : World) (hnb : n ≤ 100000) (hmb : m ≤ 100000)
    (hp1 : TabsAt w a1 A1) (hp2 : TabsAt w a2 A2) (hq1 : NumsAt w b1 D1) (hq2 : NumsAt w b2 D2) :
    Calls Try.prog 15 #[edV a1 n c1 b1 m d1 lo se ne, edV a2 n c2 b2 m d2 lo se ne] w fun e w' => e = .returned (.bool (P.sameE ⟨A1, D1, lo, se, ne⟩ ⟨A2, D2, lo, se, ne⟩)) ∧ Below w.heap.size w w' := by
  have Hp1 := Lib.hid hp1
  have Hp2 := Lib.hid hp2
  have Hq1 := Lib.hid hq1
  have Hq2 := Lib.hid hq2
  have Hn := Lib.hid hn
  have Hn2 := Lib.hid hn2
  have Hm := Lib.hid hm
  have Hm2 := Lib.hid hm2
  clear hp1 hp2 hq1 hq2 hn hn2 hm hm2
  have h0 := ((Below.refl w.heap.size w).alloc (Nat.le_refl _) (.cells #[.slice a1 n c1, .slice b1 m d1, V64 lo, V64 se, V64 ne] 38)).alloc (by simp) (.cells #[.slice a2 n c2, .slice b2 m d2, V64 lo, V64 se, V64 ne] 38)
  have hbx1 := (Bx.fresh w 38 #[.slice a1 n c1, .slice b1 m d1, V64 lo, V64 se, V64 ne]).up ((Below.refl _ _).alloc (Nat.le_refl _) (.cells #[.slice a2 n c2, .slice b2 m d2, V64 lo, V64 se, V64 ne] 38))
  have hbx2 := Bx.fresh (w.alloc (.cells #[.slice a1 n c1, .slice b1 m d1, V64 lo, V64 se, V64 ne] 38)) 38 #[.slice a2 n c2, .slice b2 m d2, V64 lo, V64 se, V64 ne]
  rw [show (w.alloc (.cells #[.slice a1 n c1, .slice b1 m d1, V64 lo, V64 se, V64 ne] 38)).heap.size = w.heap.size + 1 by simp] at hbx2
  have HnoT := Lib.hid (show ∀ (k : Nat) (h1 : k < A1.length) (h2 : k < A2.length), ¬ A1[k] = A2[k] → P.sameE ⟨A1, D1, lo, se, ne⟩ ⟨A2, D2, lo, se, ne⟩ = false from fun k h1 h2 h => decide_eq_false (fun hh => h (by injection hh with e1; subst e1; rfl)))
  have HnoD := Lib.hid (show ∀ (k : Nat) (h1 : k < D1.length) (h2 : k < D2.length), ¬ D1[k] = D2[k] → P.sameE ⟨A1, D1, lo, se, ne⟩ ⟨A2, D2, lo, se, ne⟩ = false from fun k h1 h2 h => decide_eq_false (fun hh => h (by injection hh with _ e1; subst e1; rfl)))
  have Hyes := Lib.hid (show A1 = A2 → D1 = D2 → P.sameE ⟨A1, D1, lo, se, ne⟩ ⟨A2, D2, lo, se, ne⟩ = true from fun h1 h2 => decide_eq_true (by rw [h1, h2]))
  generalize P.sameE ⟨A1, D1, lo, se, ne⟩ ⟨A2, D2, lo, se, ne⟩ = res at *
  go_enter Try.func15, Try.ntmps15
  go_wp2
  go_loopw [5] (fun i wr => ∃ k : Nat, k ≤ n ∧ i = .int .i64 k ∧ A1.take k = A2.take k ∧ Bx wr w.heap.size 38 #[.slice a1 n c1, .slice b1 m d1, V64 lo, V64 se, V64 ne] ∧ Bx wr (w.heap.size + 1) 38 #[.slice a2 n c2, .slice b2 m d2, V64 lo, V64 se, V64 ne] ∧ Below w.heap.size w wr) (fun i _ => n - (intOf i).toNat)
  case atStart => exact ⟨0, by omega, rfl, by simp, hbx1, hbx2, h0⟩
  case round =>
    clear hbx1 hbx2 h0
    obtain ⟨k, hk, rfl, htk, hbx1, hbx2, hb⟩ := hrel
    have Htk := Lib.hid htk
    clear htk
    obtain ⟨y0, y1, y2, y3, y4⟩ := hbx1.five
    obtain ⟨z0, z1, z2, z3, z4⟩ := hbx2.five
    by_cases hlt : k < n
    · have k1 : k < A1.length := by have := Hn.out; omega
      have k2 : k < A2.length := by have := Hn2.out; omega
      obtain ⟨b, o, rfl, hbb, e0, e1, e2, e3, e4, e5, e6, e7⟩ := tab_at (RowsAt.up Hp1.out hb) k k1
      obtain ⟨b', o', rfl, hbb', f0, f1, f2, f3, f4, f5, f6, f7⟩ := tab_at (RowsAt.up Hp2.out hb) k k2
      have Hn1 := Lib.hid (HnoT.out k k1 k2)
      have Hs := Lib.hid (P.take_same k1 k2 Htk.out)
      have Heq := Lib.hid (P.tabEq_iff A1[k] A2[k])
      generalize A1[k] = x at *
      generalize A2[k] = y at *
      by_cases hxy : x = y
      · have Hn := Lib.hid (Hs.out hxy)
        subst hxy
        obtain ⟨tn, tl, tc, ts, tf, tz, te, tm⟩ := x
        simp only at e0 e1 e2 e3 e4 e5 e6 e7 f0 f1 f2 f3 f4 f5 f6 f7 Heq
        have he : P.tabEq (tn : Int) tl tc ts tf tz (te : Int) (tm : Int) (tn : Int) tl tc ts tf tz (te : Int) (tm : Int) = true := Heq.out.trans (decide_eq_true (by trivial))
        go_wp2
        go_quiet (fail)
        go_wp2
        go_roundw
        case rel => exact ⟨k + 1, by omega, by go_num, Hn.out, hbx1, hbx2, below_drewN hb _⟩
        case measure => simp [intOf]; omega
      · have Hn := Lib.hid (Hn1.out hxy)
        obtain ⟨tn, tl, tc, ts, tf, tz, te, tm⟩ := x
        obtain ⟨un, ul, uc, us, uf, uz, ue, um⟩ := y
        simp only at e0 e1 e2 e3 e4 e5 e6 e7 f0 f1 f2 f3 f4 f5 f6 f7 Heq
        have he : P.tabEq (tn : Int) tl tc ts tf tz (te : Int) (tm : Int) (un : Int) ul uc us uf uz (ue : Int) (um : Int) = false := by have h := Heq.out; rw [decide_eq_false hxy] at h; exact h
        clear hxy
        go_wp2
        go_quiet (fail)
        go_wp2
        go_ret
        exact ⟨ret_bool Hn.out.symm, below_drewN hb _⟩
    · obtain rfl : k = n := by omega
      have Hea := Lib.hid (show A1 = A2 by have h := Htk.out; have := Hn.out; have := Hn2.out; rw [List.take_of_length_le (by omega), List.take_of_length_le (by omega)] at h; exact h)
      have hb1 := hbx1
      have hb2 := hbx2
      have hb3 := hb
      clear hlt hk
      go_wp2
      clear hbx1 hbx2 hb y0 y1 y2 y3 y4 z0 z1 z2 z3 z4
      go_loopw [6] (fun i wr => ∃ j : Nat, j ≤ m ∧ i = .int .i64 j ∧ D1.take j = D2.take j ∧ Bx wr w.heap.size 38 #[.slice a1 k c1, .slice b1 m d1, V64 lo, V64 se, V64 ne] ∧ Bx wr (w.heap.size + 1) 38 #[.slice a2 k c2, .slice b2 m d2, V64 lo, V64 se, V64 ne] ∧ Below w.heap.size w wr) (fun i _ => m - (intOf i).toNat)
      case atStart => exact ⟨0, by omega, rfl, by simp, hb1, hb2, hb3⟩
      case round =>
        clear hb1 hb2 hb3
        obtain ⟨j, hj, rfl, htk, hbx1, hbx2, hb⟩ := hrel
        have Htj := Lib.hid htk
        clear htk
        obtain ⟨y0, y1, y2, y3, y4⟩ := hbx1.five
        obtain ⟨z0, z1, z2, z3, z4⟩ := hbx2.five
        by_cases hlt : j < m
        · have k1 : j < D1.length := by have := Hm.out; omega
          have k2 : j < D2.length := by have := Hm2.out; omega
          obtain ⟨b, o, rfl, hbb, q0⟩ := Hq1.out j k1
          obtain ⟨b', o', rfl, hbb', q1⟩ := Hq2.out j k2
          have e0 := (hb.cell (p := ⟨b, o + j, none⟩) hbb).trans q0
          have f0 := (hb.cell (p := ⟨b', o' + j, none⟩) hbb').trans q1
          clear q0 q1
          have Hn1 := Lib.hid (HnoD.out j k1 k2)
          have Hs := Lib.hid (P.take_same k1 k2 Htj.out)
          generalize D1[j] = x at *
          generalize D2[j] = y at *
          by_cases hxy : x = y
          · have Hn := Lib.hid (Hs.out hxy)
            subst hxy
            go_wp2
            go_quiet (fail)
            go_wp2
            go_roundw
            case rel => exact ⟨j + 1, by omega, by go_num, Hn.out, hbx1, hbx2, below_drewN hb _⟩
            case measure => simp [intOf]; omega
          · have Hn := Lib.hid (Hn1.out hxy)
            have he1 : ((x : Int) == (y : Int)) = false := beq_eq_false_iff_ne.2 (by omega)
            have he2 : ((x : Int) != (y : Int)) = true := by rw [bne, he1]; rfl
            clear hxy
            go_wp2
            go_quiet (fail)
            go_wp2
            go_ret
            exact ⟨ret_bool Hn.out.symm, below_drewN hb _⟩
        · obtain rfl : j = m := by omega
          have Hed := Lib.hid (show D1 = D2 by have h := Htj.out; have := Hm.out; have := Hm2.out; rw [List.take_of_length_le (by omega), List.take_of_length_le (by omega)] at h; exact h)
          have Ht := Lib.hid (Hyes.out Hea.out Hed.out)
          go_wp2
          go_ret
          exact ⟨ret_bool Ht.out.symm, hb⟩
/-- Two edits in memory. -/
theorem same_any (x y : P.Ed) (a1 a2 b1 b2 : Option Addr) (c1 c2 d1 d2 : Nat) (n1 n2 m1 m2 : Nat) (hn1 : n1 = x.add.length) (hn2 : n2 = y.add.length) (hm1 : m1 = x.drop.length) (hm2 : m2 = y.drop.length) (w : World) (hnb : x.add.length ≤ 100000) (hmb : x.drop.length ≤ 100000)
    (hp1 : EdAt w a1 b1 x) (hp2 : EdAt w a2 b2 y) (lo se ne lo' se' ne' : Nat) (h1 : lo = x.log) (h2 : se = x.seq) (h3 : ne = x.next) (h4 : lo' = y.log) (h5 : se' = y.seq) (h6 : ne' = y.next) :
    Calls Try.prog 15 #[edV a1 n1 c1 b1 m1 d1 lo se ne, edV a2 n2 c2 b2 m2 d2 lo' se' ne'] w fun e w' => e = .returned (.bool (P.sameE x y)) ∧ Below w.heap.size w w' := by
  subst hn1 hn2 hm1 hm2 h1 h2 h3 h4 h5 h6
  obtain ⟨A1, D1, lo, se, ne⟩ := x
  obtain ⟨A2, D2, lo', se', ne'⟩ := y
  by_cases hall : A1.length = A2.length ∧ D1.length = D2.length ∧ lo = lo' ∧ se = se' ∧ ne = ne'
  · obtain ⟨h1, h2, rfl, rfl, rfl⟩ := hall
    have h := same_in lo se ne A1 A2 D1 D2 a1 a2 b1 b2 c1 c2 d1 d2 A1.length D1.length rfl h1 rfl h2 w hnb hmb hp1.1 hp2.1 hp1.2 hp2.2
    simp only
    rw [← h1, ← h2]
    exact h
  · have He := Lib.hid (show P.sameE ⟨A1, D1, lo, se, ne⟩ ⟨A2, D2, lo', se', ne'⟩ = false from decide_eq_false (fun hh => hall (by injection hh with e1 e2 e3 e4 e5; subst e1 e2 e3 e4 e5; exact ⟨rfl, rfl, rfl, rfl, rfl⟩)))
    have Hall := Lib.hid hall
    simp only
    generalize P.sameE ⟨A1, D1, lo, se, ne⟩ ⟨A2, D2, lo', se', ne'⟩ = res at *
    generalize A1.length = n at *
    generalize A2.length = n' at *
    generalize D1.length = m at *
    generalize D2.length = m' at *
    clear hall hp1 hp2 hnb hmb
    have h0 := ((Below.refl w.heap.size w).alloc (Nat.le_refl _) (.cells #[.slice a1 n c1, .slice b1 m d1, V64 lo, V64 se, V64 ne] 38)).alloc (by simp) (.cells #[.slice a2 n' c2, .slice b2 m' d2, V64 lo', V64 se', V64 ne'] 38)
    by_cases hh0 : n = n'
    · have hq0 : ((n : Int) == (n' : Int)) = true := beq_iff_eq.2 (by omega)
      have hr0 : ((n : Int) != (n' : Int)) = false := by rw [bne, hq0]; rfl
      by_cases hh1 : m = m'
      · have hq1 : ((m : Int) == (m' : Int)) = true := beq_iff_eq.2 (by omega)
        have hr1 : ((m : Int) != (m' : Int)) = false := by rw [bne, hq1]; rfl
        by_cases hh2 : lo = lo'
        · have hq2 : ((lo : Int) == (lo' : Int)) = true := beq_iff_eq.2 (by omega)
          have hr2 : ((lo : Int) != (lo' : Int)) = false := by rw [bne, hq2]; rfl
          by_cases hh3 : se = se'
          · have hq3 : ((se : Int) == (se' : Int)) = true := beq_iff_eq.2 (by omega)
            have hr3 : ((se : Int) != (se' : Int)) = false := by rw [bne, hq3]; rfl
            by_cases hh4 : ne = ne'
            · have hq4 : ((ne : Int) == (ne' : Int)) = true := beq_iff_eq.2 (by omega)
              have hr4 : ((ne : Int) != (ne' : Int)) = false := by rw [bne, hq4]; rfl
              exact absurd ⟨hh0, hh1, hh2, hh3, hh4⟩ Hall.out
            · have hq4 : ((ne : Int) == (ne' : Int)) = false := beq_eq_false_iff_ne.2 (by omega)
              have hr4 : ((ne : Int) != (ne' : Int)) = true := by rw [bne, hq4]; rfl
              clear hh0 hh1 hh2 hh3 hh4
              go_enter Try.func15, Try.ntmps15
              go_wp2
              go_ret
              exact ⟨ret_bool He.out.symm, h0⟩
          · have hq3 : ((se : Int) == (se' : Int)) = false := beq_eq_false_iff_ne.2 (by omega)
            have hr3 : ((se : Int) != (se' : Int)) = true := by rw [bne, hq3]; rfl
            clear hh0 hh1 hh2 hh3
            go_enter Try.func15, Try.ntmps15
            go_wp2
            go_ret
            exact ⟨ret_bool He.out.symm, h0⟩
        · have hq2 : ((lo : Int) == (lo' : Int)) = false := beq_eq_false_iff_ne.2 (by omega)
          have hr2 : ((lo : Int) != (lo' : Int)) = true := by rw [bne, hq2]; rfl
          clear hh0 hh1 hh2
          go_enter Try.func15, Try.ntmps15
          go_wp2
          go_ret
          exact ⟨ret_bool He.out.symm, h0⟩
      · have hq1 : ((m : Int) == (m' : Int)) = false := beq_eq_false_iff_ne.2 (by omega)
        have hr1 : ((m : Int) != (m' : Int)) = true := by rw [bne, hq1]; rfl
        clear hh0 hh1
        go_enter Try.func15, Try.ntmps15
        go_wp2
        go_ret
        exact ⟨ret_bool He.out.symm, h0⟩
    · have hq0 : ((n : Int) == (n' : Int)) = false := beq_eq_false_iff_ne.2 (by omega)
      have hr0 : ((n : Int) != (n' : Int)) = true := by rw [bne, hq0]; rfl
      clear hh0
      go_enter Try.func15, Try.ntmps15
      go_wp2
      go_ret
      exact ⟨ret_bool He.out.symm, h0⟩
end Go.Proofs.Ythpgigjplknomaa
