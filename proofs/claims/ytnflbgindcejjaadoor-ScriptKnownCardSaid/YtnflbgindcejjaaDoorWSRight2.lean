/- The walk of the script's Right. -/
import Derived.Test.YtnflbgindcejjaaDoorWSRight
import Derived.Test.YtnflbgindcejjaaDoorWVar
namespace Go.Proofs.YtnflbgindcejjaaDoor
open Go.RowKit
set_option linter.unusedVariables false
set_option linter.unusedSimpArgs false

/-- An act's value. -/
abbrev acV (kind n : Nat) (t : List UInt8) (da : Option Addr) (dn dc : Nat) (names : Int) (a : Option Addr) (k kc : Nat) (b : Option Addr) (m mc : Nat) : Value := .agg #[.int .u8 kind, V64 n, S t, .slice da dn dc, .int .i64 names, .slice a k kc, .slice b m mc]

theorem Bx.seven {w : World} {g : Nat} {t : TypeId} {a b c d e f h : Value} (hx : Bx w g t #[a, b, c, d, e, f, h]) : w.cell? ⟨g, 0, none⟩ = some a ∧ w.cell? ⟨g, 1, none⟩ = some b ∧ w.cell? ⟨g, 2, none⟩ = some c ∧ w.cell? ⟨g, 3, none⟩ = some d ∧ w.cell? ⟨g, 4, none⟩ = some e ∧ w.cell? ⟨g, 5, none⟩ = some f ∧ w.cell? ⟨g, 6, none⟩ = some h :=
  ⟨hx.cell 0, hx.cell 1, hx.cell 2, hx.cell 3, hx.cell 4, hx.cell 5, hx.cell 6⟩

set_option maxRecDepth 100000 in
set_option maxHeartbeats 8000000 in
theorem right_1 (x : P.Ac) (hkind : x.kind = 1) (da a b : Option Addr) (dn dc k kc m mc : Nat) (hd : dn = x.draws.length) (hk : k = x.cr.keep.length) (hm : m = x.cr.spoil.length) (w : World) (hp : CrAt w a b x.cr) :
    Calls Tryd.prog 12 #[acV x.kind x.n x.text da dn dc x.cr.names a k kc b m mc] w fun e w' => e = .returned (.bool (P.rightB x)) ∧ Below w.heap.size w w' := by
  have HC := Lib.hid (fun wx (hx : Below w.heap.size w wx) => rightCrash_any x.cr a b k kc m mc hk hm wx (hp.up hx))
  have HU := Lib.hid (fun wx => uses_any x.kind wx)
  have HR := Lib.hid (show P.rightB x = (decide (1 ≤ x.kind ∧ x.kind ≤ 7) && decide (x.text.length ≤ 65536) && decide (dn ≤ 255) && P.crB x.cr && (decide (x.kind = 1) || decide (x.text.length = 0)) && (decide (x.kind = 2) || decide (x.kind = 6) || decide (x.n = 0)) && (decide (x.kind = 5) || decide (dn = 0)) && (decide (6 ≤ x.kind) || (decide (x.cr.names = 0) && decide (k = 0) && decide (m = 0)))) from by rw [hd, hk, hm]; rfl)
  clear hp hd hk hm
  obtain ⟨kind, n, text, draws, names, keep, spoil⟩ := x
  simp only at HC HU HR ⊢
  generalize P.rightB ⟨kind, n, text, draws, names, keep, spoil⟩ = res at *
  generalize P.crB ⟨names, keep, spoil⟩ = crb at *
  have hx := Bx.fresh w 32 #[.int .u8 kind, V64 n, S text, .slice da dn dc, .int .i64 names, .slice a k kc, .slice b m mc]
  have hb : Below w.heap.size w (w.alloc (.cells #[.int .u8 kind, V64 n, S text, .slice da dn dc, .int .i64 names, .slice a k kc, .slice b m mc] 32)) := (Below.refl _ _).alloc (Nat.le_refl _) _
  obtain rfl : kind = 1 := hkind
  have HU := Lib.hid (show ∀ wx, Calls Tryd.prog 22 #[.int .u8 1] wx fun e w' => e = .returned (.int .i64 1) ∧ Below wx.heap.size wx w' from fun wx => uses_any 1 wx)
  by_cases ht : 65536 < text.length
  · have ht2 : ¬ text.length ≤ 65536 := by omega
    have Hres := Lib.hid (show res = false by rw [HR.out]; simp [*])
    clear HR
    go_enter Tryd.func12, Tryd.ntmps12
    go_wp2_with (first
      | (go_at_call 22; (with_reducible refine (HU.out _).mono ?_); rintro e w1 ⟨rfl, hb1⟩; have hx1 := hx.up hb1; obtain ⟨q0, q1, q2, q3, q4, q5, q6⟩ := hx1.seven; have hc1 := Chain.up hb hb1)
      | (go_at_call 23; (with_reducible refine (HC.out _ hc1).mono ?_); rintro e w2 ⟨rfl, hb2⟩; obtain ⟨r0, r1, r2, r3, r4, r5, r6⟩ := (hx1.up hb2).seven))
    go_ret
    exact ⟨ret_bool Hres.out.symm, hc1⟩
  have ht2 : text.length ≤ 65536 := by omega
  clear ht
  by_cases hd : 255 < dn
  · have hd2 : ¬ dn ≤ 255 := by omega
    have Hres := Lib.hid (show res = false by rw [HR.out]; simp [*])
    clear HR
    go_enter Tryd.func12, Tryd.ntmps12
    go_wp2_with (first
      | (go_at_call 22; (with_reducible refine (HU.out _).mono ?_); rintro e w1 ⟨rfl, hb1⟩; have hx1 := hx.up hb1; obtain ⟨q0, q1, q2, q3, q4, q5, q6⟩ := hx1.seven; have hc1 := Chain.up hb hb1)
      | (go_at_call 23; (with_reducible refine (HC.out _ hc1).mono ?_); rintro e w2 ⟨rfl, hb2⟩; obtain ⟨r0, r1, r2, r3, r4, r5, r6⟩ := (hx1.up hb2).seven))
    go_ret
    exact ⟨ret_bool Hres.out.symm, hc1⟩
  have hd2 : dn ≤ 255 := by omega
  clear hd
  cases crb with
  | false =>
    have Hres := Lib.hid (show res = false by rw [HR.out]; simp [*])
    clear HR
    go_enter Tryd.func12, Tryd.ntmps12
    go_wp2_with (first
      | (go_at_call 22; (with_reducible refine (HU.out _).mono ?_); rintro e w1 ⟨rfl, hb1⟩; have hx1 := hx.up hb1; obtain ⟨q0, q1, q2, q3, q4, q5, q6⟩ := hx1.seven; have hc1 := Chain.up hb hb1)
      | (go_at_call 23; (with_reducible refine (HC.out _ hc1).mono ?_); rintro e w2 ⟨rfl, hb2⟩; obtain ⟨r0, r1, r2, r3, r4, r5, r6⟩ := (hx1.up hb2).seven))
    go_ret
    exact ⟨ret_bool Hres.out.symm, Chain.up hc1 hb2⟩
  | true =>
    by_cases hn : n = 0
    case neg =>
      have hn1 : ((n : Int) == 0) = false := beq_eq_false_iff_ne.2 (by omega)
      have Hres := Lib.hid (show res = false by rw [HR.out]; simp [*])
      clear HR
      go_enter Tryd.func12, Tryd.ntmps12
      go_wp2_with (first
        | (go_at_call 22; (with_reducible refine (HU.out _).mono ?_); rintro e w1 ⟨rfl, hb1⟩; have hx1 := hx.up hb1; obtain ⟨q0, q1, q2, q3, q4, q5, q6⟩ := hx1.seven; have hc1 := Chain.up hb hb1)
        | (go_at_call 23; (with_reducible refine (HC.out _ hc1).mono ?_); rintro e w2 ⟨rfl, hb2⟩; obtain ⟨r0, r1, r2, r3, r4, r5, r6⟩ := (hx1.up hb2).seven))
      go_ret
      exact ⟨ret_bool Hres.out.symm, Chain.up hc1 hb2⟩
    subst hn
    by_cases hdn : dn = 0
    case neg =>
      have hdn1 : 0 < dn := by omega
      have Hres := Lib.hid (show res = false by rw [HR.out]; simp [*])
      clear HR
      go_enter Tryd.func12, Tryd.ntmps12
      go_wp2_with (first
        | (go_at_call 22; (with_reducible refine (HU.out _).mono ?_); rintro e w1 ⟨rfl, hb1⟩; have hx1 := hx.up hb1; obtain ⟨q0, q1, q2, q3, q4, q5, q6⟩ := hx1.seven; have hc1 := Chain.up hb hb1)
        | (go_at_call 23; (with_reducible refine (HC.out _ hc1).mono ?_); rintro e w2 ⟨rfl, hb2⟩; obtain ⟨r0, r1, r2, r3, r4, r5, r6⟩ := (hx1.up hb2).seven))
      go_ret
      exact ⟨ret_bool Hres.out.symm, Chain.up hc1 hb2⟩
    subst hdn
    by_cases hnm : names = 0
    case neg =>
      have hnm1 : (names == 0) = false := beq_eq_false_iff_ne.2 hnm
      have Hres := Lib.hid (show res = false by rw [HR.out]; simp [*])
      clear HR
      go_enter Tryd.func12, Tryd.ntmps12
      go_wp2_with (first
        | (go_at_call 22; (with_reducible refine (HU.out _).mono ?_); rintro e w1 ⟨rfl, hb1⟩; have hx1 := hx.up hb1; obtain ⟨q0, q1, q2, q3, q4, q5, q6⟩ := hx1.seven; have hc1 := Chain.up hb hb1)
        | (go_at_call 23; (with_reducible refine (HC.out _ hc1).mono ?_); rintro e w2 ⟨rfl, hb2⟩; obtain ⟨r0, r1, r2, r3, r4, r5, r6⟩ := (hx1.up hb2).seven))
      go_ret
      exact ⟨ret_bool Hres.out.symm, Chain.up hc1 hb2⟩
    subst hnm
    by_cases hvk : k = 0
    case neg =>
      have hvk1 : ((k : Int) == 0) = false := beq_eq_false_iff_ne.2 (by omega)
      have Hres := Lib.hid (show res = false by rw [HR.out]; simp [*])
      clear HR
      go_enter Tryd.func12, Tryd.ntmps12
      go_wp2_with (first
        | (go_at_call 22; (with_reducible refine (HU.out _).mono ?_); rintro e w1 ⟨rfl, hb1⟩; have hx1 := hx.up hb1; obtain ⟨q0, q1, q2, q3, q4, q5, q6⟩ := hx1.seven; have hc1 := Chain.up hb hb1)
        | (go_at_call 23; (with_reducible refine (HC.out _ hc1).mono ?_); rintro e w2 ⟨rfl, hb2⟩; obtain ⟨r0, r1, r2, r3, r4, r5, r6⟩ := (hx1.up hb2).seven))
      go_ret
      exact ⟨ret_bool Hres.out.symm, Chain.up hc1 hb2⟩
    subst hvk
    by_cases hvm : m = 0
    case neg =>
      have hvm1 : ((m : Int) == 0) = false := beq_eq_false_iff_ne.2 (by omega)
      have Hres := Lib.hid (show res = false by rw [HR.out]; simp [*])
      clear HR
      go_enter Tryd.func12, Tryd.ntmps12
      go_wp2_with (first
        | (go_at_call 22; (with_reducible refine (HU.out _).mono ?_); rintro e w1 ⟨rfl, hb1⟩; have hx1 := hx.up hb1; obtain ⟨q0, q1, q2, q3, q4, q5, q6⟩ := hx1.seven; have hc1 := Chain.up hb hb1)
        | (go_at_call 23; (with_reducible refine (HC.out _ hc1).mono ?_); rintro e w2 ⟨rfl, hb2⟩; obtain ⟨r0, r1, r2, r3, r4, r5, r6⟩ := (hx1.up hb2).seven))
      go_ret
      exact ⟨ret_bool Hres.out.symm, Chain.up hc1 hb2⟩
    subst hvm
    have Hres := Lib.hid (show res = true by rw [HR.out]; simp [*])
    clear HR
    go_enter Tryd.func12, Tryd.ntmps12
    go_wp2_with (first
      | (go_at_call 22; (with_reducible refine (HU.out _).mono ?_); rintro e w1 ⟨rfl, hb1⟩; have hx1 := hx.up hb1; obtain ⟨q0, q1, q2, q3, q4, q5, q6⟩ := hx1.seven; have hc1 := Chain.up hb hb1)
      | (go_at_call 23; (with_reducible refine (HC.out _ hc1).mono ?_); rintro e w2 ⟨rfl, hb2⟩; obtain ⟨r0, r1, r2, r3, r4, r5, r6⟩ := (hx1.up hb2).seven))
    go_ret
    exact ⟨ret_bool Hres.out.symm, Chain.up hc1 hb2⟩
set_option maxRecDepth 100000 in
set_option maxHeartbeats 8000000 in
theorem right_2 (x : P.Ac) (hkind : x.kind = 2) (da a b : Option Addr) (dn dc k kc m mc : Nat) (hd : dn = x.draws.length) (hk : k = x.cr.keep.length) (hm : m = x.cr.spoil.length) (w : World) (hp : CrAt w a b x.cr) :
    Calls Tryd.prog 12 #[acV x.kind x.n x.text da dn dc x.cr.names a k kc b m mc] w fun e w' => e = .returned (.bool (P.rightB x)) ∧ Below w.heap.size w w' := by
  have HC := Lib.hid (fun wx (hx : Below w.heap.size w wx) => rightCrash_any x.cr a b k kc m mc hk hm wx (hp.up hx))
  have HU := Lib.hid (fun wx => uses_any x.kind wx)
  have HR := Lib.hid (show P.rightB x = (decide (1 ≤ x.kind ∧ x.kind ≤ 7) && decide (x.text.length ≤ 65536) && decide (dn ≤ 255) && P.crB x.cr && (decide (x.kind = 1) || decide (x.text.length = 0)) && (decide (x.kind = 2) || decide (x.kind = 6) || decide (x.n = 0)) && (decide (x.kind = 5) || decide (dn = 0)) && (decide (6 ≤ x.kind) || (decide (x.cr.names = 0) && decide (k = 0) && decide (m = 0)))) from by rw [hd, hk, hm]; rfl)
  clear hp hd hk hm
  obtain ⟨kind, n, text, draws, names, keep, spoil⟩ := x
  simp only at HC HU HR ⊢
  generalize P.rightB ⟨kind, n, text, draws, names, keep, spoil⟩ = res at *
  generalize P.crB ⟨names, keep, spoil⟩ = crb at *
  have hx := Bx.fresh w 32 #[.int .u8 kind, V64 n, S text, .slice da dn dc, .int .i64 names, .slice a k kc, .slice b m mc]
  have hb : Below w.heap.size w (w.alloc (.cells #[.int .u8 kind, V64 n, S text, .slice da dn dc, .int .i64 names, .slice a k kc, .slice b m mc] 32)) := (Below.refl _ _).alloc (Nat.le_refl _) _
  obtain rfl : kind = 2 := hkind
  have HU := Lib.hid (show ∀ wx, Calls Tryd.prog 22 #[.int .u8 2] wx fun e w' => e = .returned (.int .i64 2) ∧ Below wx.heap.size wx w' from fun wx => uses_any 2 wx)
  by_cases ht : 65536 < text.length
  · have ht2 : ¬ text.length ≤ 65536 := by omega
    have Hres := Lib.hid (show res = false by rw [HR.out]; simp [*])
    clear HR
    go_enter Tryd.func12, Tryd.ntmps12
    go_wp2_with (first
      | (go_at_call 22; (with_reducible refine (HU.out _).mono ?_); rintro e w1 ⟨rfl, hb1⟩; have hx1 := hx.up hb1; obtain ⟨q0, q1, q2, q3, q4, q5, q6⟩ := hx1.seven; have hc1 := Chain.up hb hb1)
      | (go_at_call 23; (with_reducible refine (HC.out _ hc1).mono ?_); rintro e w2 ⟨rfl, hb2⟩; obtain ⟨r0, r1, r2, r3, r4, r5, r6⟩ := (hx1.up hb2).seven))
    go_ret
    exact ⟨ret_bool Hres.out.symm, hc1⟩
  have ht2 : text.length ≤ 65536 := by omega
  clear ht
  by_cases hd : 255 < dn
  · have hd2 : ¬ dn ≤ 255 := by omega
    have Hres := Lib.hid (show res = false by rw [HR.out]; simp [*])
    clear HR
    go_enter Tryd.func12, Tryd.ntmps12
    go_wp2_with (first
      | (go_at_call 22; (with_reducible refine (HU.out _).mono ?_); rintro e w1 ⟨rfl, hb1⟩; have hx1 := hx.up hb1; obtain ⟨q0, q1, q2, q3, q4, q5, q6⟩ := hx1.seven; have hc1 := Chain.up hb hb1)
      | (go_at_call 23; (with_reducible refine (HC.out _ hc1).mono ?_); rintro e w2 ⟨rfl, hb2⟩; obtain ⟨r0, r1, r2, r3, r4, r5, r6⟩ := (hx1.up hb2).seven))
    go_ret
    exact ⟨ret_bool Hres.out.symm, hc1⟩
  have hd2 : dn ≤ 255 := by omega
  clear hd
  cases crb with
  | false =>
    have Hres := Lib.hid (show res = false by rw [HR.out]; simp [*])
    clear HR
    go_enter Tryd.func12, Tryd.ntmps12
    go_wp2_with (first
      | (go_at_call 22; (with_reducible refine (HU.out _).mono ?_); rintro e w1 ⟨rfl, hb1⟩; have hx1 := hx.up hb1; obtain ⟨q0, q1, q2, q3, q4, q5, q6⟩ := hx1.seven; have hc1 := Chain.up hb hb1)
      | (go_at_call 23; (with_reducible refine (HC.out _ hc1).mono ?_); rintro e w2 ⟨rfl, hb2⟩; obtain ⟨r0, r1, r2, r3, r4, r5, r6⟩ := (hx1.up hb2).seven))
    go_ret
    exact ⟨ret_bool Hres.out.symm, Chain.up hc1 hb2⟩
  | true =>
    by_cases htx : text = []
    case neg =>
      have htx0 : ¬ text.length = 0 := fun h => htx (List.length_eq_zero_iff.1 h)
      have Hres := Lib.hid (show res = false by rw [HR.out]; simp [*])
      clear HR
      go_enter Tryd.func12, Tryd.ntmps12
      go_wp2_with (first
        | (go_at_call 22; (with_reducible refine (HU.out _).mono ?_); rintro e w1 ⟨rfl, hb1⟩; have hx1 := hx.up hb1; obtain ⟨q0, q1, q2, q3, q4, q5, q6⟩ := hx1.seven; have hc1 := Chain.up hb hb1)
        | (go_at_call 23; (with_reducible refine (HC.out _ hc1).mono ?_); rintro e w2 ⟨rfl, hb2⟩; obtain ⟨r0, r1, r2, r3, r4, r5, r6⟩ := (hx1.up hb2).seven))
      go_ret
      exact ⟨ret_bool Hres.out.symm, Chain.up hc1 hb2⟩
    subst htx
    by_cases hdn : dn = 0
    case neg =>
      have hdn1 : 0 < dn := by omega
      have Hres := Lib.hid (show res = false by rw [HR.out]; simp [*])
      clear HR
      go_enter Tryd.func12, Tryd.ntmps12
      go_wp2_with (first
        | (go_at_call 22; (with_reducible refine (HU.out _).mono ?_); rintro e w1 ⟨rfl, hb1⟩; have hx1 := hx.up hb1; obtain ⟨q0, q1, q2, q3, q4, q5, q6⟩ := hx1.seven; have hc1 := Chain.up hb hb1)
        | (go_at_call 23; (with_reducible refine (HC.out _ hc1).mono ?_); rintro e w2 ⟨rfl, hb2⟩; obtain ⟨r0, r1, r2, r3, r4, r5, r6⟩ := (hx1.up hb2).seven))
      go_ret
      exact ⟨ret_bool Hres.out.symm, Chain.up hc1 hb2⟩
    subst hdn
    by_cases hnm : names = 0
    case neg =>
      have hnm1 : (names == 0) = false := beq_eq_false_iff_ne.2 hnm
      have Hres := Lib.hid (show res = false by rw [HR.out]; simp [*])
      clear HR
      go_enter Tryd.func12, Tryd.ntmps12
      go_wp2_with (first
        | (go_at_call 22; (with_reducible refine (HU.out _).mono ?_); rintro e w1 ⟨rfl, hb1⟩; have hx1 := hx.up hb1; obtain ⟨q0, q1, q2, q3, q4, q5, q6⟩ := hx1.seven; have hc1 := Chain.up hb hb1)
        | (go_at_call 23; (with_reducible refine (HC.out _ hc1).mono ?_); rintro e w2 ⟨rfl, hb2⟩; obtain ⟨r0, r1, r2, r3, r4, r5, r6⟩ := (hx1.up hb2).seven))
      go_ret
      exact ⟨ret_bool Hres.out.symm, Chain.up hc1 hb2⟩
    subst hnm
    by_cases hvk : k = 0
    case neg =>
      have hvk1 : ((k : Int) == 0) = false := beq_eq_false_iff_ne.2 (by omega)
      have Hres := Lib.hid (show res = false by rw [HR.out]; simp [*])
      clear HR
      go_enter Tryd.func12, Tryd.ntmps12
      go_wp2_with (first
        | (go_at_call 22; (with_reducible refine (HU.out _).mono ?_); rintro e w1 ⟨rfl, hb1⟩; have hx1 := hx.up hb1; obtain ⟨q0, q1, q2, q3, q4, q5, q6⟩ := hx1.seven; have hc1 := Chain.up hb hb1)
        | (go_at_call 23; (with_reducible refine (HC.out _ hc1).mono ?_); rintro e w2 ⟨rfl, hb2⟩; obtain ⟨r0, r1, r2, r3, r4, r5, r6⟩ := (hx1.up hb2).seven))
      go_ret
      exact ⟨ret_bool Hres.out.symm, Chain.up hc1 hb2⟩
    subst hvk
    by_cases hvm : m = 0
    case neg =>
      have hvm1 : ((m : Int) == 0) = false := beq_eq_false_iff_ne.2 (by omega)
      have Hres := Lib.hid (show res = false by rw [HR.out]; simp [*])
      clear HR
      go_enter Tryd.func12, Tryd.ntmps12
      go_wp2_with (first
        | (go_at_call 22; (with_reducible refine (HU.out _).mono ?_); rintro e w1 ⟨rfl, hb1⟩; have hx1 := hx.up hb1; obtain ⟨q0, q1, q2, q3, q4, q5, q6⟩ := hx1.seven; have hc1 := Chain.up hb hb1)
        | (go_at_call 23; (with_reducible refine (HC.out _ hc1).mono ?_); rintro e w2 ⟨rfl, hb2⟩; obtain ⟨r0, r1, r2, r3, r4, r5, r6⟩ := (hx1.up hb2).seven))
      go_ret
      exact ⟨ret_bool Hres.out.symm, Chain.up hc1 hb2⟩
    subst hvm
    have Hres := Lib.hid (show res = true by rw [HR.out]; simp [*])
    clear HR
    go_enter Tryd.func12, Tryd.ntmps12
    go_wp2_with (first
      | (go_at_call 22; (with_reducible refine (HU.out _).mono ?_); rintro e w1 ⟨rfl, hb1⟩; have hx1 := hx.up hb1; obtain ⟨q0, q1, q2, q3, q4, q5, q6⟩ := hx1.seven; have hc1 := Chain.up hb hb1)
      | (go_at_call 23; (with_reducible refine (HC.out _ hc1).mono ?_); rintro e w2 ⟨rfl, hb2⟩; obtain ⟨r0, r1, r2, r3, r4, r5, r6⟩ := (hx1.up hb2).seven))
    go_ret
    exact ⟨ret_bool Hres.out.symm, Chain.up hc1 hb2⟩
set_option maxRecDepth 100000 in
set_option maxHeartbeats 8000000 in
theorem right_3 (x : P.Ac) (hkind : x.kind = 3) (da a b : Option Addr) (dn dc k kc m mc : Nat) (hd : dn = x.draws.length) (hk : k = x.cr.keep.length) (hm : m = x.cr.spoil.length) (w : World) (hp : CrAt w a b x.cr) :
    Calls Tryd.prog 12 #[acV x.kind x.n x.text da dn dc x.cr.names a k kc b m mc] w fun e w' => e = .returned (.bool (P.rightB x)) ∧ Below w.heap.size w w' := by
  have HC := Lib.hid (fun wx (hx : Below w.heap.size w wx) => rightCrash_any x.cr a b k kc m mc hk hm wx (hp.up hx))
  have HU := Lib.hid (fun wx => uses_any x.kind wx)
  have HR := Lib.hid (show P.rightB x = (decide (1 ≤ x.kind ∧ x.kind ≤ 7) && decide (x.text.length ≤ 65536) && decide (dn ≤ 255) && P.crB x.cr && (decide (x.kind = 1) || decide (x.text.length = 0)) && (decide (x.kind = 2) || decide (x.kind = 6) || decide (x.n = 0)) && (decide (x.kind = 5) || decide (dn = 0)) && (decide (6 ≤ x.kind) || (decide (x.cr.names = 0) && decide (k = 0) && decide (m = 0)))) from by rw [hd, hk, hm]; rfl)
  clear hp hd hk hm
  obtain ⟨kind, n, text, draws, names, keep, spoil⟩ := x
  simp only at HC HU HR ⊢
  generalize P.rightB ⟨kind, n, text, draws, names, keep, spoil⟩ = res at *
  generalize P.crB ⟨names, keep, spoil⟩ = crb at *
  have hx := Bx.fresh w 32 #[.int .u8 kind, V64 n, S text, .slice da dn dc, .int .i64 names, .slice a k kc, .slice b m mc]
  have hb : Below w.heap.size w (w.alloc (.cells #[.int .u8 kind, V64 n, S text, .slice da dn dc, .int .i64 names, .slice a k kc, .slice b m mc] 32)) := (Below.refl _ _).alloc (Nat.le_refl _) _
  obtain rfl : kind = 3 := hkind
  have HU := Lib.hid (show ∀ wx, Calls Tryd.prog 22 #[.int .u8 3] wx fun e w' => e = .returned (.int .i64 0) ∧ Below wx.heap.size wx w' from fun wx => uses_any 3 wx)
  by_cases ht : 65536 < text.length
  · have ht2 : ¬ text.length ≤ 65536 := by omega
    have Hres := Lib.hid (show res = false by rw [HR.out]; simp [*])
    clear HR
    go_enter Tryd.func12, Tryd.ntmps12
    go_wp2_with (first
      | (go_at_call 22; (with_reducible refine (HU.out _).mono ?_); rintro e w1 ⟨rfl, hb1⟩; have hx1 := hx.up hb1; obtain ⟨q0, q1, q2, q3, q4, q5, q6⟩ := hx1.seven; have hc1 := Chain.up hb hb1)
      | (go_at_call 23; (with_reducible refine (HC.out _ hc1).mono ?_); rintro e w2 ⟨rfl, hb2⟩; obtain ⟨r0, r1, r2, r3, r4, r5, r6⟩ := (hx1.up hb2).seven))
    go_ret
    exact ⟨ret_bool Hres.out.symm, hc1⟩
  have ht2 : text.length ≤ 65536 := by omega
  clear ht
  by_cases hd : 255 < dn
  · have hd2 : ¬ dn ≤ 255 := by omega
    have Hres := Lib.hid (show res = false by rw [HR.out]; simp [*])
    clear HR
    go_enter Tryd.func12, Tryd.ntmps12
    go_wp2_with (first
      | (go_at_call 22; (with_reducible refine (HU.out _).mono ?_); rintro e w1 ⟨rfl, hb1⟩; have hx1 := hx.up hb1; obtain ⟨q0, q1, q2, q3, q4, q5, q6⟩ := hx1.seven; have hc1 := Chain.up hb hb1)
      | (go_at_call 23; (with_reducible refine (HC.out _ hc1).mono ?_); rintro e w2 ⟨rfl, hb2⟩; obtain ⟨r0, r1, r2, r3, r4, r5, r6⟩ := (hx1.up hb2).seven))
    go_ret
    exact ⟨ret_bool Hres.out.symm, hc1⟩
  have hd2 : dn ≤ 255 := by omega
  clear hd
  cases crb with
  | false =>
    have Hres := Lib.hid (show res = false by rw [HR.out]; simp [*])
    clear HR
    go_enter Tryd.func12, Tryd.ntmps12
    go_wp2_with (first
      | (go_at_call 22; (with_reducible refine (HU.out _).mono ?_); rintro e w1 ⟨rfl, hb1⟩; have hx1 := hx.up hb1; obtain ⟨q0, q1, q2, q3, q4, q5, q6⟩ := hx1.seven; have hc1 := Chain.up hb hb1)
      | (go_at_call 23; (with_reducible refine (HC.out _ hc1).mono ?_); rintro e w2 ⟨rfl, hb2⟩; obtain ⟨r0, r1, r2, r3, r4, r5, r6⟩ := (hx1.up hb2).seven))
    go_ret
    exact ⟨ret_bool Hres.out.symm, Chain.up hc1 hb2⟩
  | true =>
    by_cases htx : text = []
    case neg =>
      have htx0 : ¬ text.length = 0 := fun h => htx (List.length_eq_zero_iff.1 h)
      have Hres := Lib.hid (show res = false by rw [HR.out]; simp [*])
      clear HR
      go_enter Tryd.func12, Tryd.ntmps12
      go_wp2_with (first
        | (go_at_call 22; (with_reducible refine (HU.out _).mono ?_); rintro e w1 ⟨rfl, hb1⟩; have hx1 := hx.up hb1; obtain ⟨q0, q1, q2, q3, q4, q5, q6⟩ := hx1.seven; have hc1 := Chain.up hb hb1)
        | (go_at_call 23; (with_reducible refine (HC.out _ hc1).mono ?_); rintro e w2 ⟨rfl, hb2⟩; obtain ⟨r0, r1, r2, r3, r4, r5, r6⟩ := (hx1.up hb2).seven))
      go_ret
      exact ⟨ret_bool Hres.out.symm, Chain.up hc1 hb2⟩
    subst htx
    by_cases hn : n = 0
    case neg =>
      have hn1 : ((n : Int) == 0) = false := beq_eq_false_iff_ne.2 (by omega)
      have Hres := Lib.hid (show res = false by rw [HR.out]; simp [*])
      clear HR
      go_enter Tryd.func12, Tryd.ntmps12
      go_wp2_with (first
        | (go_at_call 22; (with_reducible refine (HU.out _).mono ?_); rintro e w1 ⟨rfl, hb1⟩; have hx1 := hx.up hb1; obtain ⟨q0, q1, q2, q3, q4, q5, q6⟩ := hx1.seven; have hc1 := Chain.up hb hb1)
        | (go_at_call 23; (with_reducible refine (HC.out _ hc1).mono ?_); rintro e w2 ⟨rfl, hb2⟩; obtain ⟨r0, r1, r2, r3, r4, r5, r6⟩ := (hx1.up hb2).seven))
      go_ret
      exact ⟨ret_bool Hres.out.symm, Chain.up hc1 hb2⟩
    subst hn
    by_cases hdn : dn = 0
    case neg =>
      have hdn1 : 0 < dn := by omega
      have Hres := Lib.hid (show res = false by rw [HR.out]; simp [*])
      clear HR
      go_enter Tryd.func12, Tryd.ntmps12
      go_wp2_with (first
        | (go_at_call 22; (with_reducible refine (HU.out _).mono ?_); rintro e w1 ⟨rfl, hb1⟩; have hx1 := hx.up hb1; obtain ⟨q0, q1, q2, q3, q4, q5, q6⟩ := hx1.seven; have hc1 := Chain.up hb hb1)
        | (go_at_call 23; (with_reducible refine (HC.out _ hc1).mono ?_); rintro e w2 ⟨rfl, hb2⟩; obtain ⟨r0, r1, r2, r3, r4, r5, r6⟩ := (hx1.up hb2).seven))
      go_ret
      exact ⟨ret_bool Hres.out.symm, Chain.up hc1 hb2⟩
    subst hdn
    by_cases hnm : names = 0
    case neg =>
      have hnm1 : (names == 0) = false := beq_eq_false_iff_ne.2 hnm
      have Hres := Lib.hid (show res = false by rw [HR.out]; simp [*])
      clear HR
      go_enter Tryd.func12, Tryd.ntmps12
      go_wp2_with (first
        | (go_at_call 22; (with_reducible refine (HU.out _).mono ?_); rintro e w1 ⟨rfl, hb1⟩; have hx1 := hx.up hb1; obtain ⟨q0, q1, q2, q3, q4, q5, q6⟩ := hx1.seven; have hc1 := Chain.up hb hb1)
        | (go_at_call 23; (with_reducible refine (HC.out _ hc1).mono ?_); rintro e w2 ⟨rfl, hb2⟩; obtain ⟨r0, r1, r2, r3, r4, r5, r6⟩ := (hx1.up hb2).seven))
      go_ret
      exact ⟨ret_bool Hres.out.symm, Chain.up hc1 hb2⟩
    subst hnm
    by_cases hvk : k = 0
    case neg =>
      have hvk1 : ((k : Int) == 0) = false := beq_eq_false_iff_ne.2 (by omega)
      have Hres := Lib.hid (show res = false by rw [HR.out]; simp [*])
      clear HR
      go_enter Tryd.func12, Tryd.ntmps12
      go_wp2_with (first
        | (go_at_call 22; (with_reducible refine (HU.out _).mono ?_); rintro e w1 ⟨rfl, hb1⟩; have hx1 := hx.up hb1; obtain ⟨q0, q1, q2, q3, q4, q5, q6⟩ := hx1.seven; have hc1 := Chain.up hb hb1)
        | (go_at_call 23; (with_reducible refine (HC.out _ hc1).mono ?_); rintro e w2 ⟨rfl, hb2⟩; obtain ⟨r0, r1, r2, r3, r4, r5, r6⟩ := (hx1.up hb2).seven))
      go_ret
      exact ⟨ret_bool Hres.out.symm, Chain.up hc1 hb2⟩
    subst hvk
    by_cases hvm : m = 0
    case neg =>
      have hvm1 : ((m : Int) == 0) = false := beq_eq_false_iff_ne.2 (by omega)
      have Hres := Lib.hid (show res = false by rw [HR.out]; simp [*])
      clear HR
      go_enter Tryd.func12, Tryd.ntmps12
      go_wp2_with (first
        | (go_at_call 22; (with_reducible refine (HU.out _).mono ?_); rintro e w1 ⟨rfl, hb1⟩; have hx1 := hx.up hb1; obtain ⟨q0, q1, q2, q3, q4, q5, q6⟩ := hx1.seven; have hc1 := Chain.up hb hb1)
        | (go_at_call 23; (with_reducible refine (HC.out _ hc1).mono ?_); rintro e w2 ⟨rfl, hb2⟩; obtain ⟨r0, r1, r2, r3, r4, r5, r6⟩ := (hx1.up hb2).seven))
      go_ret
      exact ⟨ret_bool Hres.out.symm, Chain.up hc1 hb2⟩
    subst hvm
    have Hres := Lib.hid (show res = true by rw [HR.out]; simp [*])
    clear HR
    go_enter Tryd.func12, Tryd.ntmps12
    go_wp2_with (first
      | (go_at_call 22; (with_reducible refine (HU.out _).mono ?_); rintro e w1 ⟨rfl, hb1⟩; have hx1 := hx.up hb1; obtain ⟨q0, q1, q2, q3, q4, q5, q6⟩ := hx1.seven; have hc1 := Chain.up hb hb1)
      | (go_at_call 23; (with_reducible refine (HC.out _ hc1).mono ?_); rintro e w2 ⟨rfl, hb2⟩; obtain ⟨r0, r1, r2, r3, r4, r5, r6⟩ := (hx1.up hb2).seven))
    go_ret
    exact ⟨ret_bool Hres.out.symm, Chain.up hc1 hb2⟩
set_option maxRecDepth 100000 in
set_option maxHeartbeats 8000000 in
theorem right_4 (x : P.Ac) (hkind : x.kind = 4) (da a b : Option Addr) (dn dc k kc m mc : Nat) (hd : dn = x.draws.length) (hk : k = x.cr.keep.length) (hm : m = x.cr.spoil.length) (w : World) (hp : CrAt w a b x.cr) :
    Calls Tryd.prog 12 #[acV x.kind x.n x.text da dn dc x.cr.names a k kc b m mc] w fun e w' => e = .returned (.bool (P.rightB x)) ∧ Below w.heap.size w w' := by
  have HC := Lib.hid (fun wx (hx : Below w.heap.size w wx) => rightCrash_any x.cr a b k kc m mc hk hm wx (hp.up hx))
  have HU := Lib.hid (fun wx => uses_any x.kind wx)
  have HR := Lib.hid (show P.rightB x = (decide (1 ≤ x.kind ∧ x.kind ≤ 7) && decide (x.text.length ≤ 65536) && decide (dn ≤ 255) && P.crB x.cr && (decide (x.kind = 1) || decide (x.text.length = 0)) && (decide (x.kind = 2) || decide (x.kind = 6) || decide (x.n = 0)) && (decide (x.kind = 5) || decide (dn = 0)) && (decide (6 ≤ x.kind) || (decide (x.cr.names = 0) && decide (k = 0) && decide (m = 0)))) from by rw [hd, hk, hm]; rfl)
  clear hp hd hk hm
  obtain ⟨kind, n, text, draws, names, keep, spoil⟩ := x
  simp only at HC HU HR ⊢
  generalize P.rightB ⟨kind, n, text, draws, names, keep, spoil⟩ = res at *
  generalize P.crB ⟨names, keep, spoil⟩ = crb at *
  have hx := Bx.fresh w 32 #[.int .u8 kind, V64 n, S text, .slice da dn dc, .int .i64 names, .slice a k kc, .slice b m mc]
  have hb : Below w.heap.size w (w.alloc (.cells #[.int .u8 kind, V64 n, S text, .slice da dn dc, .int .i64 names, .slice a k kc, .slice b m mc] 32)) := (Below.refl _ _).alloc (Nat.le_refl _) _
  obtain rfl : kind = 4 := hkind
  have HU := Lib.hid (show ∀ wx, Calls Tryd.prog 22 #[.int .u8 4] wx fun e w' => e = .returned (.int .i64 0) ∧ Below wx.heap.size wx w' from fun wx => uses_any 4 wx)
  by_cases ht : 65536 < text.length
  · have ht2 : ¬ text.length ≤ 65536 := by omega
    have Hres := Lib.hid (show res = false by rw [HR.out]; simp [*])
    clear HR
    go_enter Tryd.func12, Tryd.ntmps12
    go_wp2_with (first
      | (go_at_call 22; (with_reducible refine (HU.out _).mono ?_); rintro e w1 ⟨rfl, hb1⟩; have hx1 := hx.up hb1; obtain ⟨q0, q1, q2, q3, q4, q5, q6⟩ := hx1.seven; have hc1 := Chain.up hb hb1)
      | (go_at_call 23; (with_reducible refine (HC.out _ hc1).mono ?_); rintro e w2 ⟨rfl, hb2⟩; obtain ⟨r0, r1, r2, r3, r4, r5, r6⟩ := (hx1.up hb2).seven))
    go_ret
    exact ⟨ret_bool Hres.out.symm, hc1⟩
  have ht2 : text.length ≤ 65536 := by omega
  clear ht
  by_cases hd : 255 < dn
  · have hd2 : ¬ dn ≤ 255 := by omega
    have Hres := Lib.hid (show res = false by rw [HR.out]; simp [*])
    clear HR
    go_enter Tryd.func12, Tryd.ntmps12
    go_wp2_with (first
      | (go_at_call 22; (with_reducible refine (HU.out _).mono ?_); rintro e w1 ⟨rfl, hb1⟩; have hx1 := hx.up hb1; obtain ⟨q0, q1, q2, q3, q4, q5, q6⟩ := hx1.seven; have hc1 := Chain.up hb hb1)
      | (go_at_call 23; (with_reducible refine (HC.out _ hc1).mono ?_); rintro e w2 ⟨rfl, hb2⟩; obtain ⟨r0, r1, r2, r3, r4, r5, r6⟩ := (hx1.up hb2).seven))
    go_ret
    exact ⟨ret_bool Hres.out.symm, hc1⟩
  have hd2 : dn ≤ 255 := by omega
  clear hd
  cases crb with
  | false =>
    have Hres := Lib.hid (show res = false by rw [HR.out]; simp [*])
    clear HR
    go_enter Tryd.func12, Tryd.ntmps12
    go_wp2_with (first
      | (go_at_call 22; (with_reducible refine (HU.out _).mono ?_); rintro e w1 ⟨rfl, hb1⟩; have hx1 := hx.up hb1; obtain ⟨q0, q1, q2, q3, q4, q5, q6⟩ := hx1.seven; have hc1 := Chain.up hb hb1)
      | (go_at_call 23; (with_reducible refine (HC.out _ hc1).mono ?_); rintro e w2 ⟨rfl, hb2⟩; obtain ⟨r0, r1, r2, r3, r4, r5, r6⟩ := (hx1.up hb2).seven))
    go_ret
    exact ⟨ret_bool Hres.out.symm, Chain.up hc1 hb2⟩
  | true =>
    by_cases htx : text = []
    case neg =>
      have htx0 : ¬ text.length = 0 := fun h => htx (List.length_eq_zero_iff.1 h)
      have Hres := Lib.hid (show res = false by rw [HR.out]; simp [*])
      clear HR
      go_enter Tryd.func12, Tryd.ntmps12
      go_wp2_with (first
        | (go_at_call 22; (with_reducible refine (HU.out _).mono ?_); rintro e w1 ⟨rfl, hb1⟩; have hx1 := hx.up hb1; obtain ⟨q0, q1, q2, q3, q4, q5, q6⟩ := hx1.seven; have hc1 := Chain.up hb hb1)
        | (go_at_call 23; (with_reducible refine (HC.out _ hc1).mono ?_); rintro e w2 ⟨rfl, hb2⟩; obtain ⟨r0, r1, r2, r3, r4, r5, r6⟩ := (hx1.up hb2).seven))
      go_ret
      exact ⟨ret_bool Hres.out.symm, Chain.up hc1 hb2⟩
    subst htx
    by_cases hn : n = 0
    case neg =>
      have hn1 : ((n : Int) == 0) = false := beq_eq_false_iff_ne.2 (by omega)
      have Hres := Lib.hid (show res = false by rw [HR.out]; simp [*])
      clear HR
      go_enter Tryd.func12, Tryd.ntmps12
      go_wp2_with (first
        | (go_at_call 22; (with_reducible refine (HU.out _).mono ?_); rintro e w1 ⟨rfl, hb1⟩; have hx1 := hx.up hb1; obtain ⟨q0, q1, q2, q3, q4, q5, q6⟩ := hx1.seven; have hc1 := Chain.up hb hb1)
        | (go_at_call 23; (with_reducible refine (HC.out _ hc1).mono ?_); rintro e w2 ⟨rfl, hb2⟩; obtain ⟨r0, r1, r2, r3, r4, r5, r6⟩ := (hx1.up hb2).seven))
      go_ret
      exact ⟨ret_bool Hres.out.symm, Chain.up hc1 hb2⟩
    subst hn
    by_cases hdn : dn = 0
    case neg =>
      have hdn1 : 0 < dn := by omega
      have Hres := Lib.hid (show res = false by rw [HR.out]; simp [*])
      clear HR
      go_enter Tryd.func12, Tryd.ntmps12
      go_wp2_with (first
        | (go_at_call 22; (with_reducible refine (HU.out _).mono ?_); rintro e w1 ⟨rfl, hb1⟩; have hx1 := hx.up hb1; obtain ⟨q0, q1, q2, q3, q4, q5, q6⟩ := hx1.seven; have hc1 := Chain.up hb hb1)
        | (go_at_call 23; (with_reducible refine (HC.out _ hc1).mono ?_); rintro e w2 ⟨rfl, hb2⟩; obtain ⟨r0, r1, r2, r3, r4, r5, r6⟩ := (hx1.up hb2).seven))
      go_ret
      exact ⟨ret_bool Hres.out.symm, Chain.up hc1 hb2⟩
    subst hdn
    by_cases hnm : names = 0
    case neg =>
      have hnm1 : (names == 0) = false := beq_eq_false_iff_ne.2 hnm
      have Hres := Lib.hid (show res = false by rw [HR.out]; simp [*])
      clear HR
      go_enter Tryd.func12, Tryd.ntmps12
      go_wp2_with (first
        | (go_at_call 22; (with_reducible refine (HU.out _).mono ?_); rintro e w1 ⟨rfl, hb1⟩; have hx1 := hx.up hb1; obtain ⟨q0, q1, q2, q3, q4, q5, q6⟩ := hx1.seven; have hc1 := Chain.up hb hb1)
        | (go_at_call 23; (with_reducible refine (HC.out _ hc1).mono ?_); rintro e w2 ⟨rfl, hb2⟩; obtain ⟨r0, r1, r2, r3, r4, r5, r6⟩ := (hx1.up hb2).seven))
      go_ret
      exact ⟨ret_bool Hres.out.symm, Chain.up hc1 hb2⟩
    subst hnm
    by_cases hvk : k = 0
    case neg =>
      have hvk1 : ((k : Int) == 0) = false := beq_eq_false_iff_ne.2 (by omega)
      have Hres := Lib.hid (show res = false by rw [HR.out]; simp [*])
      clear HR
      go_enter Tryd.func12, Tryd.ntmps12
      go_wp2_with (first
        | (go_at_call 22; (with_reducible refine (HU.out _).mono ?_); rintro e w1 ⟨rfl, hb1⟩; have hx1 := hx.up hb1; obtain ⟨q0, q1, q2, q3, q4, q5, q6⟩ := hx1.seven; have hc1 := Chain.up hb hb1)
        | (go_at_call 23; (with_reducible refine (HC.out _ hc1).mono ?_); rintro e w2 ⟨rfl, hb2⟩; obtain ⟨r0, r1, r2, r3, r4, r5, r6⟩ := (hx1.up hb2).seven))
      go_ret
      exact ⟨ret_bool Hres.out.symm, Chain.up hc1 hb2⟩
    subst hvk
    by_cases hvm : m = 0
    case neg =>
      have hvm1 : ((m : Int) == 0) = false := beq_eq_false_iff_ne.2 (by omega)
      have Hres := Lib.hid (show res = false by rw [HR.out]; simp [*])
      clear HR
      go_enter Tryd.func12, Tryd.ntmps12
      go_wp2_with (first
        | (go_at_call 22; (with_reducible refine (HU.out _).mono ?_); rintro e w1 ⟨rfl, hb1⟩; have hx1 := hx.up hb1; obtain ⟨q0, q1, q2, q3, q4, q5, q6⟩ := hx1.seven; have hc1 := Chain.up hb hb1)
        | (go_at_call 23; (with_reducible refine (HC.out _ hc1).mono ?_); rintro e w2 ⟨rfl, hb2⟩; obtain ⟨r0, r1, r2, r3, r4, r5, r6⟩ := (hx1.up hb2).seven))
      go_ret
      exact ⟨ret_bool Hres.out.symm, Chain.up hc1 hb2⟩
    subst hvm
    have Hres := Lib.hid (show res = true by rw [HR.out]; simp [*])
    clear HR
    go_enter Tryd.func12, Tryd.ntmps12
    go_wp2_with (first
      | (go_at_call 22; (with_reducible refine (HU.out _).mono ?_); rintro e w1 ⟨rfl, hb1⟩; have hx1 := hx.up hb1; obtain ⟨q0, q1, q2, q3, q4, q5, q6⟩ := hx1.seven; have hc1 := Chain.up hb hb1)
      | (go_at_call 23; (with_reducible refine (HC.out _ hc1).mono ?_); rintro e w2 ⟨rfl, hb2⟩; obtain ⟨r0, r1, r2, r3, r4, r5, r6⟩ := (hx1.up hb2).seven))
    go_ret
    exact ⟨ret_bool Hres.out.symm, Chain.up hc1 hb2⟩
set_option maxRecDepth 100000 in
set_option maxHeartbeats 8000000 in
theorem right_5 (x : P.Ac) (hkind : x.kind = 5) (da a b : Option Addr) (dn dc k kc m mc : Nat) (hd : dn = x.draws.length) (hk : k = x.cr.keep.length) (hm : m = x.cr.spoil.length) (w : World) (hp : CrAt w a b x.cr) :
    Calls Tryd.prog 12 #[acV x.kind x.n x.text da dn dc x.cr.names a k kc b m mc] w fun e w' => e = .returned (.bool (P.rightB x)) ∧ Below w.heap.size w w' := by
  have HC := Lib.hid (fun wx (hx : Below w.heap.size w wx) => rightCrash_any x.cr a b k kc m mc hk hm wx (hp.up hx))
  have HU := Lib.hid (fun wx => uses_any x.kind wx)
  have HR := Lib.hid (show P.rightB x = (decide (1 ≤ x.kind ∧ x.kind ≤ 7) && decide (x.text.length ≤ 65536) && decide (dn ≤ 255) && P.crB x.cr && (decide (x.kind = 1) || decide (x.text.length = 0)) && (decide (x.kind = 2) || decide (x.kind = 6) || decide (x.n = 0)) && (decide (x.kind = 5) || decide (dn = 0)) && (decide (6 ≤ x.kind) || (decide (x.cr.names = 0) && decide (k = 0) && decide (m = 0)))) from by rw [hd, hk, hm]; rfl)
  clear hp hd hk hm
  obtain ⟨kind, n, text, draws, names, keep, spoil⟩ := x
  simp only at HC HU HR ⊢
  generalize P.rightB ⟨kind, n, text, draws, names, keep, spoil⟩ = res at *
  generalize P.crB ⟨names, keep, spoil⟩ = crb at *
  have hx := Bx.fresh w 32 #[.int .u8 kind, V64 n, S text, .slice da dn dc, .int .i64 names, .slice a k kc, .slice b m mc]
  have hb : Below w.heap.size w (w.alloc (.cells #[.int .u8 kind, V64 n, S text, .slice da dn dc, .int .i64 names, .slice a k kc, .slice b m mc] 32)) := (Below.refl _ _).alloc (Nat.le_refl _) _
  obtain rfl : kind = 5 := hkind
  have HU := Lib.hid (show ∀ wx, Calls Tryd.prog 22 #[.int .u8 5] wx fun e w' => e = .returned (.int .i64 4) ∧ Below wx.heap.size wx w' from fun wx => uses_any 5 wx)
  by_cases ht : 65536 < text.length
  · have ht2 : ¬ text.length ≤ 65536 := by omega
    have Hres := Lib.hid (show res = false by rw [HR.out]; simp [*])
    clear HR
    go_enter Tryd.func12, Tryd.ntmps12
    go_wp2_with (first
      | (go_at_call 22; (with_reducible refine (HU.out _).mono ?_); rintro e w1 ⟨rfl, hb1⟩; have hx1 := hx.up hb1; obtain ⟨q0, q1, q2, q3, q4, q5, q6⟩ := hx1.seven; have hc1 := Chain.up hb hb1)
      | (go_at_call 23; (with_reducible refine (HC.out _ hc1).mono ?_); rintro e w2 ⟨rfl, hb2⟩; obtain ⟨r0, r1, r2, r3, r4, r5, r6⟩ := (hx1.up hb2).seven))
    go_ret
    exact ⟨ret_bool Hres.out.symm, hc1⟩
  have ht2 : text.length ≤ 65536 := by omega
  clear ht
  by_cases hd : 255 < dn
  · have hd2 : ¬ dn ≤ 255 := by omega
    have Hres := Lib.hid (show res = false by rw [HR.out]; simp [*])
    clear HR
    go_enter Tryd.func12, Tryd.ntmps12
    go_wp2_with (first
      | (go_at_call 22; (with_reducible refine (HU.out _).mono ?_); rintro e w1 ⟨rfl, hb1⟩; have hx1 := hx.up hb1; obtain ⟨q0, q1, q2, q3, q4, q5, q6⟩ := hx1.seven; have hc1 := Chain.up hb hb1)
      | (go_at_call 23; (with_reducible refine (HC.out _ hc1).mono ?_); rintro e w2 ⟨rfl, hb2⟩; obtain ⟨r0, r1, r2, r3, r4, r5, r6⟩ := (hx1.up hb2).seven))
    go_ret
    exact ⟨ret_bool Hres.out.symm, hc1⟩
  have hd2 : dn ≤ 255 := by omega
  clear hd
  cases crb with
  | false =>
    have Hres := Lib.hid (show res = false by rw [HR.out]; simp [*])
    clear HR
    go_enter Tryd.func12, Tryd.ntmps12
    go_wp2_with (first
      | (go_at_call 22; (with_reducible refine (HU.out _).mono ?_); rintro e w1 ⟨rfl, hb1⟩; have hx1 := hx.up hb1; obtain ⟨q0, q1, q2, q3, q4, q5, q6⟩ := hx1.seven; have hc1 := Chain.up hb hb1)
      | (go_at_call 23; (with_reducible refine (HC.out _ hc1).mono ?_); rintro e w2 ⟨rfl, hb2⟩; obtain ⟨r0, r1, r2, r3, r4, r5, r6⟩ := (hx1.up hb2).seven))
    go_ret
    exact ⟨ret_bool Hres.out.symm, Chain.up hc1 hb2⟩
  | true =>
    by_cases htx : text = []
    case neg =>
      have htx0 : ¬ text.length = 0 := fun h => htx (List.length_eq_zero_iff.1 h)
      have Hres := Lib.hid (show res = false by rw [HR.out]; simp [*])
      clear HR
      go_enter Tryd.func12, Tryd.ntmps12
      go_wp2_with (first
        | (go_at_call 22; (with_reducible refine (HU.out _).mono ?_); rintro e w1 ⟨rfl, hb1⟩; have hx1 := hx.up hb1; obtain ⟨q0, q1, q2, q3, q4, q5, q6⟩ := hx1.seven; have hc1 := Chain.up hb hb1)
        | (go_at_call 23; (with_reducible refine (HC.out _ hc1).mono ?_); rintro e w2 ⟨rfl, hb2⟩; obtain ⟨r0, r1, r2, r3, r4, r5, r6⟩ := (hx1.up hb2).seven))
      go_ret
      exact ⟨ret_bool Hres.out.symm, Chain.up hc1 hb2⟩
    subst htx
    by_cases hn : n = 0
    case neg =>
      have hn1 : ((n : Int) == 0) = false := beq_eq_false_iff_ne.2 (by omega)
      have Hres := Lib.hid (show res = false by rw [HR.out]; simp [*])
      clear HR
      go_enter Tryd.func12, Tryd.ntmps12
      go_wp2_with (first
        | (go_at_call 22; (with_reducible refine (HU.out _).mono ?_); rintro e w1 ⟨rfl, hb1⟩; have hx1 := hx.up hb1; obtain ⟨q0, q1, q2, q3, q4, q5, q6⟩ := hx1.seven; have hc1 := Chain.up hb hb1)
        | (go_at_call 23; (with_reducible refine (HC.out _ hc1).mono ?_); rintro e w2 ⟨rfl, hb2⟩; obtain ⟨r0, r1, r2, r3, r4, r5, r6⟩ := (hx1.up hb2).seven))
      go_ret
      exact ⟨ret_bool Hres.out.symm, Chain.up hc1 hb2⟩
    subst hn
    by_cases hnm : names = 0
    case neg =>
      have hnm1 : (names == 0) = false := beq_eq_false_iff_ne.2 hnm
      have Hres := Lib.hid (show res = false by rw [HR.out]; simp [*])
      clear HR
      go_enter Tryd.func12, Tryd.ntmps12
      go_wp2_with (first
        | (go_at_call 22; (with_reducible refine (HU.out _).mono ?_); rintro e w1 ⟨rfl, hb1⟩; have hx1 := hx.up hb1; obtain ⟨q0, q1, q2, q3, q4, q5, q6⟩ := hx1.seven; have hc1 := Chain.up hb hb1)
        | (go_at_call 23; (with_reducible refine (HC.out _ hc1).mono ?_); rintro e w2 ⟨rfl, hb2⟩; obtain ⟨r0, r1, r2, r3, r4, r5, r6⟩ := (hx1.up hb2).seven))
      go_ret
      exact ⟨ret_bool Hres.out.symm, Chain.up hc1 hb2⟩
    subst hnm
    by_cases hvk : k = 0
    case neg =>
      have hvk1 : ((k : Int) == 0) = false := beq_eq_false_iff_ne.2 (by omega)
      have Hres := Lib.hid (show res = false by rw [HR.out]; simp [*])
      clear HR
      go_enter Tryd.func12, Tryd.ntmps12
      go_wp2_with (first
        | (go_at_call 22; (with_reducible refine (HU.out _).mono ?_); rintro e w1 ⟨rfl, hb1⟩; have hx1 := hx.up hb1; obtain ⟨q0, q1, q2, q3, q4, q5, q6⟩ := hx1.seven; have hc1 := Chain.up hb hb1)
        | (go_at_call 23; (with_reducible refine (HC.out _ hc1).mono ?_); rintro e w2 ⟨rfl, hb2⟩; obtain ⟨r0, r1, r2, r3, r4, r5, r6⟩ := (hx1.up hb2).seven))
      go_ret
      exact ⟨ret_bool Hres.out.symm, Chain.up hc1 hb2⟩
    subst hvk
    by_cases hvm : m = 0
    case neg =>
      have hvm1 : ((m : Int) == 0) = false := beq_eq_false_iff_ne.2 (by omega)
      have Hres := Lib.hid (show res = false by rw [HR.out]; simp [*])
      clear HR
      go_enter Tryd.func12, Tryd.ntmps12
      go_wp2_with (first
        | (go_at_call 22; (with_reducible refine (HU.out _).mono ?_); rintro e w1 ⟨rfl, hb1⟩; have hx1 := hx.up hb1; obtain ⟨q0, q1, q2, q3, q4, q5, q6⟩ := hx1.seven; have hc1 := Chain.up hb hb1)
        | (go_at_call 23; (with_reducible refine (HC.out _ hc1).mono ?_); rintro e w2 ⟨rfl, hb2⟩; obtain ⟨r0, r1, r2, r3, r4, r5, r6⟩ := (hx1.up hb2).seven))
      go_ret
      exact ⟨ret_bool Hres.out.symm, Chain.up hc1 hb2⟩
    subst hvm
    have Hres := Lib.hid (show res = true by rw [HR.out]; simp [*])
    clear HR
    go_enter Tryd.func12, Tryd.ntmps12
    go_wp2_with (first
      | (go_at_call 22; (with_reducible refine (HU.out _).mono ?_); rintro e w1 ⟨rfl, hb1⟩; have hx1 := hx.up hb1; obtain ⟨q0, q1, q2, q3, q4, q5, q6⟩ := hx1.seven; have hc1 := Chain.up hb hb1)
      | (go_at_call 23; (with_reducible refine (HC.out _ hc1).mono ?_); rintro e w2 ⟨rfl, hb2⟩; obtain ⟨r0, r1, r2, r3, r4, r5, r6⟩ := (hx1.up hb2).seven))
    go_ret
    exact ⟨ret_bool Hres.out.symm, Chain.up hc1 hb2⟩
set_option maxRecDepth 100000 in
set_option maxHeartbeats 8000000 in
theorem right_6 (x : P.Ac) (hkind : x.kind = 6) (da a b : Option Addr) (dn dc k kc m mc : Nat) (hd : dn = x.draws.length) (hk : k = x.cr.keep.length) (hm : m = x.cr.spoil.length) (w : World) (hp : CrAt w a b x.cr) :
    Calls Tryd.prog 12 #[acV x.kind x.n x.text da dn dc x.cr.names a k kc b m mc] w fun e w' => e = .returned (.bool (P.rightB x)) ∧ Below w.heap.size w w' := by
  have HC := Lib.hid (fun wx (hx : Below w.heap.size w wx) => rightCrash_any x.cr a b k kc m mc hk hm wx (hp.up hx))
  have HU := Lib.hid (fun wx => uses_any x.kind wx)
  have HR := Lib.hid (show P.rightB x = (decide (1 ≤ x.kind ∧ x.kind ≤ 7) && decide (x.text.length ≤ 65536) && decide (dn ≤ 255) && P.crB x.cr && (decide (x.kind = 1) || decide (x.text.length = 0)) && (decide (x.kind = 2) || decide (x.kind = 6) || decide (x.n = 0)) && (decide (x.kind = 5) || decide (dn = 0)) && (decide (6 ≤ x.kind) || (decide (x.cr.names = 0) && decide (k = 0) && decide (m = 0)))) from by rw [hd, hk, hm]; rfl)
  clear hp hd hk hm
  obtain ⟨kind, n, text, draws, names, keep, spoil⟩ := x
  simp only at HC HU HR ⊢
  generalize P.rightB ⟨kind, n, text, draws, names, keep, spoil⟩ = res at *
  generalize P.crB ⟨names, keep, spoil⟩ = crb at *
  have hx := Bx.fresh w 32 #[.int .u8 kind, V64 n, S text, .slice da dn dc, .int .i64 names, .slice a k kc, .slice b m mc]
  have hb : Below w.heap.size w (w.alloc (.cells #[.int .u8 kind, V64 n, S text, .slice da dn dc, .int .i64 names, .slice a k kc, .slice b m mc] 32)) := (Below.refl _ _).alloc (Nat.le_refl _) _
  obtain rfl : kind = 6 := hkind
  have HU := Lib.hid (show ∀ wx, Calls Tryd.prog 22 #[.int .u8 6] wx fun e w' => e = .returned (.int .i64 10) ∧ Below wx.heap.size wx w' from fun wx => uses_any 6 wx)
  by_cases ht : 65536 < text.length
  · have ht2 : ¬ text.length ≤ 65536 := by omega
    have Hres := Lib.hid (show res = false by rw [HR.out]; simp [*])
    clear HR
    go_enter Tryd.func12, Tryd.ntmps12
    go_wp2_with (first
      | (go_at_call 22; (with_reducible refine (HU.out _).mono ?_); rintro e w1 ⟨rfl, hb1⟩; have hx1 := hx.up hb1; obtain ⟨q0, q1, q2, q3, q4, q5, q6⟩ := hx1.seven; have hc1 := Chain.up hb hb1)
      | (go_at_call 23; (with_reducible refine (HC.out _ hc1).mono ?_); rintro e w2 ⟨rfl, hb2⟩; obtain ⟨r0, r1, r2, r3, r4, r5, r6⟩ := (hx1.up hb2).seven))
    go_ret
    exact ⟨ret_bool Hres.out.symm, hc1⟩
  have ht2 : text.length ≤ 65536 := by omega
  clear ht
  by_cases hd : 255 < dn
  · have hd2 : ¬ dn ≤ 255 := by omega
    have Hres := Lib.hid (show res = false by rw [HR.out]; simp [*])
    clear HR
    go_enter Tryd.func12, Tryd.ntmps12
    go_wp2_with (first
      | (go_at_call 22; (with_reducible refine (HU.out _).mono ?_); rintro e w1 ⟨rfl, hb1⟩; have hx1 := hx.up hb1; obtain ⟨q0, q1, q2, q3, q4, q5, q6⟩ := hx1.seven; have hc1 := Chain.up hb hb1)
      | (go_at_call 23; (with_reducible refine (HC.out _ hc1).mono ?_); rintro e w2 ⟨rfl, hb2⟩; obtain ⟨r0, r1, r2, r3, r4, r5, r6⟩ := (hx1.up hb2).seven))
    go_ret
    exact ⟨ret_bool Hres.out.symm, hc1⟩
  have hd2 : dn ≤ 255 := by omega
  clear hd
  cases crb with
  | false =>
    have Hres := Lib.hid (show res = false by rw [HR.out]; simp [*])
    clear HR
    go_enter Tryd.func12, Tryd.ntmps12
    go_wp2_with (first
      | (go_at_call 22; (with_reducible refine (HU.out _).mono ?_); rintro e w1 ⟨rfl, hb1⟩; have hx1 := hx.up hb1; obtain ⟨q0, q1, q2, q3, q4, q5, q6⟩ := hx1.seven; have hc1 := Chain.up hb hb1)
      | (go_at_call 23; (with_reducible refine (HC.out _ hc1).mono ?_); rintro e w2 ⟨rfl, hb2⟩; obtain ⟨r0, r1, r2, r3, r4, r5, r6⟩ := (hx1.up hb2).seven))
    go_ret
    exact ⟨ret_bool Hres.out.symm, Chain.up hc1 hb2⟩
  | true =>
    by_cases htx : text = []
    case neg =>
      have htx0 : ¬ text.length = 0 := fun h => htx (List.length_eq_zero_iff.1 h)
      have Hres := Lib.hid (show res = false by rw [HR.out]; simp [*])
      clear HR
      go_enter Tryd.func12, Tryd.ntmps12
      go_wp2_with (first
        | (go_at_call 22; (with_reducible refine (HU.out _).mono ?_); rintro e w1 ⟨rfl, hb1⟩; have hx1 := hx.up hb1; obtain ⟨q0, q1, q2, q3, q4, q5, q6⟩ := hx1.seven; have hc1 := Chain.up hb hb1)
        | (go_at_call 23; (with_reducible refine (HC.out _ hc1).mono ?_); rintro e w2 ⟨rfl, hb2⟩; obtain ⟨r0, r1, r2, r3, r4, r5, r6⟩ := (hx1.up hb2).seven))
      go_ret
      exact ⟨ret_bool Hres.out.symm, Chain.up hc1 hb2⟩
    subst htx
    by_cases hdn : dn = 0
    case neg =>
      have hdn1 : 0 < dn := by omega
      have Hres := Lib.hid (show res = false by rw [HR.out]; simp [*])
      clear HR
      go_enter Tryd.func12, Tryd.ntmps12
      go_wp2_with (first
        | (go_at_call 22; (with_reducible refine (HU.out _).mono ?_); rintro e w1 ⟨rfl, hb1⟩; have hx1 := hx.up hb1; obtain ⟨q0, q1, q2, q3, q4, q5, q6⟩ := hx1.seven; have hc1 := Chain.up hb hb1)
        | (go_at_call 23; (with_reducible refine (HC.out _ hc1).mono ?_); rintro e w2 ⟨rfl, hb2⟩; obtain ⟨r0, r1, r2, r3, r4, r5, r6⟩ := (hx1.up hb2).seven))
      go_ret
      exact ⟨ret_bool Hres.out.symm, Chain.up hc1 hb2⟩
    subst hdn
    have Hres := Lib.hid (show res = true by rw [HR.out]; simp [*])
    clear HR
    go_enter Tryd.func12, Tryd.ntmps12
    go_wp2_with (first
      | (go_at_call 22; (with_reducible refine (HU.out _).mono ?_); rintro e w1 ⟨rfl, hb1⟩; have hx1 := hx.up hb1; obtain ⟨q0, q1, q2, q3, q4, q5, q6⟩ := hx1.seven; have hc1 := Chain.up hb hb1)
      | (go_at_call 23; (with_reducible refine (HC.out _ hc1).mono ?_); rintro e w2 ⟨rfl, hb2⟩; obtain ⟨r0, r1, r2, r3, r4, r5, r6⟩ := (hx1.up hb2).seven))
    go_ret
    exact ⟨ret_bool Hres.out.symm, Chain.up hc1 hb2⟩
set_option maxRecDepth 100000 in
set_option maxHeartbeats 8000000 in
theorem right_7 (x : P.Ac) (hkind : x.kind = 7) (da a b : Option Addr) (dn dc k kc m mc : Nat) (hd : dn = x.draws.length) (hk : k = x.cr.keep.length) (hm : m = x.cr.spoil.length) (w : World) (hp : CrAt w a b x.cr) :
    Calls Tryd.prog 12 #[acV x.kind x.n x.text da dn dc x.cr.names a k kc b m mc] w fun e w' => e = .returned (.bool (P.rightB x)) ∧ Below w.heap.size w w' := by
  have HC := Lib.hid (fun wx (hx : Below w.heap.size w wx) => rightCrash_any x.cr a b k kc m mc hk hm wx (hp.up hx))
  have HU := Lib.hid (fun wx => uses_any x.kind wx)
  have HR := Lib.hid (show P.rightB x = (decide (1 ≤ x.kind ∧ x.kind ≤ 7) && decide (x.text.length ≤ 65536) && decide (dn ≤ 255) && P.crB x.cr && (decide (x.kind = 1) || decide (x.text.length = 0)) && (decide (x.kind = 2) || decide (x.kind = 6) || decide (x.n = 0)) && (decide (x.kind = 5) || decide (dn = 0)) && (decide (6 ≤ x.kind) || (decide (x.cr.names = 0) && decide (k = 0) && decide (m = 0)))) from by rw [hd, hk, hm]; rfl)
  clear hp hd hk hm
  obtain ⟨kind, n, text, draws, names, keep, spoil⟩ := x
  simp only at HC HU HR ⊢
  generalize P.rightB ⟨kind, n, text, draws, names, keep, spoil⟩ = res at *
  generalize P.crB ⟨names, keep, spoil⟩ = crb at *
  have hx := Bx.fresh w 32 #[.int .u8 kind, V64 n, S text, .slice da dn dc, .int .i64 names, .slice a k kc, .slice b m mc]
  have hb : Below w.heap.size w (w.alloc (.cells #[.int .u8 kind, V64 n, S text, .slice da dn dc, .int .i64 names, .slice a k kc, .slice b m mc] 32)) := (Below.refl _ _).alloc (Nat.le_refl _) _
  obtain rfl : kind = 7 := hkind
  have HU := Lib.hid (show ∀ wx, Calls Tryd.prog 22 #[.int .u8 7] wx fun e w' => e = .returned (.int .i64 8) ∧ Below wx.heap.size wx w' from fun wx => uses_any 7 wx)
  by_cases ht : 65536 < text.length
  · have ht2 : ¬ text.length ≤ 65536 := by omega
    have Hres := Lib.hid (show res = false by rw [HR.out]; simp [*])
    clear HR
    go_enter Tryd.func12, Tryd.ntmps12
    go_wp2_with (first
      | (go_at_call 22; (with_reducible refine (HU.out _).mono ?_); rintro e w1 ⟨rfl, hb1⟩; have hx1 := hx.up hb1; obtain ⟨q0, q1, q2, q3, q4, q5, q6⟩ := hx1.seven; have hc1 := Chain.up hb hb1)
      | (go_at_call 23; (with_reducible refine (HC.out _ hc1).mono ?_); rintro e w2 ⟨rfl, hb2⟩; obtain ⟨r0, r1, r2, r3, r4, r5, r6⟩ := (hx1.up hb2).seven))
    go_ret
    exact ⟨ret_bool Hres.out.symm, hc1⟩
  have ht2 : text.length ≤ 65536 := by omega
  clear ht
  by_cases hd : 255 < dn
  · have hd2 : ¬ dn ≤ 255 := by omega
    have Hres := Lib.hid (show res = false by rw [HR.out]; simp [*])
    clear HR
    go_enter Tryd.func12, Tryd.ntmps12
    go_wp2_with (first
      | (go_at_call 22; (with_reducible refine (HU.out _).mono ?_); rintro e w1 ⟨rfl, hb1⟩; have hx1 := hx.up hb1; obtain ⟨q0, q1, q2, q3, q4, q5, q6⟩ := hx1.seven; have hc1 := Chain.up hb hb1)
      | (go_at_call 23; (with_reducible refine (HC.out _ hc1).mono ?_); rintro e w2 ⟨rfl, hb2⟩; obtain ⟨r0, r1, r2, r3, r4, r5, r6⟩ := (hx1.up hb2).seven))
    go_ret
    exact ⟨ret_bool Hres.out.symm, hc1⟩
  have hd2 : dn ≤ 255 := by omega
  clear hd
  cases crb with
  | false =>
    have Hres := Lib.hid (show res = false by rw [HR.out]; simp [*])
    clear HR
    go_enter Tryd.func12, Tryd.ntmps12
    go_wp2_with (first
      | (go_at_call 22; (with_reducible refine (HU.out _).mono ?_); rintro e w1 ⟨rfl, hb1⟩; have hx1 := hx.up hb1; obtain ⟨q0, q1, q2, q3, q4, q5, q6⟩ := hx1.seven; have hc1 := Chain.up hb hb1)
      | (go_at_call 23; (with_reducible refine (HC.out _ hc1).mono ?_); rintro e w2 ⟨rfl, hb2⟩; obtain ⟨r0, r1, r2, r3, r4, r5, r6⟩ := (hx1.up hb2).seven))
    go_ret
    exact ⟨ret_bool Hres.out.symm, Chain.up hc1 hb2⟩
  | true =>
    by_cases htx : text = []
    case neg =>
      have htx0 : ¬ text.length = 0 := fun h => htx (List.length_eq_zero_iff.1 h)
      have Hres := Lib.hid (show res = false by rw [HR.out]; simp [*])
      clear HR
      go_enter Tryd.func12, Tryd.ntmps12
      go_wp2_with (first
        | (go_at_call 22; (with_reducible refine (HU.out _).mono ?_); rintro e w1 ⟨rfl, hb1⟩; have hx1 := hx.up hb1; obtain ⟨q0, q1, q2, q3, q4, q5, q6⟩ := hx1.seven; have hc1 := Chain.up hb hb1)
        | (go_at_call 23; (with_reducible refine (HC.out _ hc1).mono ?_); rintro e w2 ⟨rfl, hb2⟩; obtain ⟨r0, r1, r2, r3, r4, r5, r6⟩ := (hx1.up hb2).seven))
      go_ret
      exact ⟨ret_bool Hres.out.symm, Chain.up hc1 hb2⟩
    subst htx
    by_cases hn : n = 0
    case neg =>
      have hn1 : ((n : Int) == 0) = false := beq_eq_false_iff_ne.2 (by omega)
      have Hres := Lib.hid (show res = false by rw [HR.out]; simp [*])
      clear HR
      go_enter Tryd.func12, Tryd.ntmps12
      go_wp2_with (first
        | (go_at_call 22; (with_reducible refine (HU.out _).mono ?_); rintro e w1 ⟨rfl, hb1⟩; have hx1 := hx.up hb1; obtain ⟨q0, q1, q2, q3, q4, q5, q6⟩ := hx1.seven; have hc1 := Chain.up hb hb1)
        | (go_at_call 23; (with_reducible refine (HC.out _ hc1).mono ?_); rintro e w2 ⟨rfl, hb2⟩; obtain ⟨r0, r1, r2, r3, r4, r5, r6⟩ := (hx1.up hb2).seven))
      go_ret
      exact ⟨ret_bool Hres.out.symm, Chain.up hc1 hb2⟩
    subst hn
    by_cases hdn : dn = 0
    case neg =>
      have hdn1 : 0 < dn := by omega
      have Hres := Lib.hid (show res = false by rw [HR.out]; simp [*])
      clear HR
      go_enter Tryd.func12, Tryd.ntmps12
      go_wp2_with (first
        | (go_at_call 22; (with_reducible refine (HU.out _).mono ?_); rintro e w1 ⟨rfl, hb1⟩; have hx1 := hx.up hb1; obtain ⟨q0, q1, q2, q3, q4, q5, q6⟩ := hx1.seven; have hc1 := Chain.up hb hb1)
        | (go_at_call 23; (with_reducible refine (HC.out _ hc1).mono ?_); rintro e w2 ⟨rfl, hb2⟩; obtain ⟨r0, r1, r2, r3, r4, r5, r6⟩ := (hx1.up hb2).seven))
      go_ret
      exact ⟨ret_bool Hres.out.symm, Chain.up hc1 hb2⟩
    subst hdn
    have Hres := Lib.hid (show res = true by rw [HR.out]; simp [*])
    clear HR
    go_enter Tryd.func12, Tryd.ntmps12
    go_wp2_with (first
      | (go_at_call 22; (with_reducible refine (HU.out _).mono ?_); rintro e w1 ⟨rfl, hb1⟩; have hx1 := hx.up hb1; obtain ⟨q0, q1, q2, q3, q4, q5, q6⟩ := hx1.seven; have hc1 := Chain.up hb hb1)
      | (go_at_call 23; (with_reducible refine (HC.out _ hc1).mono ?_); rintro e w2 ⟨rfl, hb2⟩; obtain ⟨r0, r1, r2, r3, r4, r5, r6⟩ := (hx1.up hb2).seven))
    go_ret
    exact ⟨ret_bool Hres.out.symm, Chain.up hc1 hb2⟩
set_option maxRecDepth 100000 in
set_option maxHeartbeats 8000000 in
theorem right_no (x : P.Ac) (hkind : ¬ (1 ≤ x.kind ∧ x.kind ≤ 7)) (da a b : Option Addr) (dn dc k kc m mc : Nat) (hd : dn = x.draws.length) (hk : k = x.cr.keep.length) (hm : m = x.cr.spoil.length) (w : World) (hp : CrAt w a b x.cr) :
    Calls Tryd.prog 12 #[acV x.kind x.n x.text da dn dc x.cr.names a k kc b m mc] w fun e w' => e = .returned (.bool (P.rightB x)) ∧ Below w.heap.size w w' := by
  have HC := Lib.hid (fun wx (hx : Below w.heap.size w wx) => rightCrash_any x.cr a b k kc m mc hk hm wx (hp.up hx))
  have HU := Lib.hid (fun wx => uses_any x.kind wx)
  have HR := Lib.hid (show P.rightB x = (decide (1 ≤ x.kind ∧ x.kind ≤ 7) && decide (x.text.length ≤ 65536) && decide (dn ≤ 255) && P.crB x.cr && (decide (x.kind = 1) || decide (x.text.length = 0)) && (decide (x.kind = 2) || decide (x.kind = 6) || decide (x.n = 0)) && (decide (x.kind = 5) || decide (dn = 0)) && (decide (6 ≤ x.kind) || (decide (x.cr.names = 0) && decide (k = 0) && decide (m = 0)))) from by rw [hd, hk, hm]; rfl)
  clear hp hd hk hm
  obtain ⟨kind, n, text, draws, names, keep, spoil⟩ := x
  simp only at HC HU HR ⊢
  generalize P.rightB ⟨kind, n, text, draws, names, keep, spoil⟩ = res at *
  generalize P.crB ⟨names, keep, spoil⟩ = crb at *
  have hx := Bx.fresh w 32 #[.int .u8 kind, V64 n, S text, .slice da dn dc, .int .i64 names, .slice a k kc, .slice b m mc]
  have hb : Below w.heap.size w (w.alloc (.cells #[.int .u8 kind, V64 n, S text, .slice da dn dc, .int .i64 names, .slice a k kc, .slice b m mc] 32)) := (Below.refl _ _).alloc (Nat.le_refl _) _
  have hu : P.usesN kind = -1 := by unfold P.usesN; simp only at hkind; rw [if_neg (by omega), if_neg (by omega), if_neg (by omega), if_neg (by omega), if_neg (by omega), if_neg (by omega)]
  rw [hu] at HU
  simp only at hkind
  clear hu
  have Hres := Lib.hid (show res = false by rw [HR.out]; simp [*])
  clear HR
  go_enter Tryd.func12, Tryd.ntmps12
  go_wp2_with (first
    | (go_at_call 22; (with_reducible refine (HU.out _).mono ?_); rintro e w1 ⟨rfl, hb1⟩; have hx1 := hx.up hb1; obtain ⟨q0, q1, q2, q3, q4, q5, q6⟩ := hx1.seven; have hc1 := Chain.up hb hb1)
    | (go_at_call 23; (with_reducible refine (HC.out _ hc1).mono ?_); rintro e w2 ⟨rfl, hb2⟩; obtain ⟨r0, r1, r2, r3, r4, r5, r6⟩ := (hx1.up hb2).seven))
  go_ret
  exact ⟨ret_bool Hres.out.symm, hc1⟩
theorem right_any (x : P.Ac) (da a b : Option Addr) (dn dc k kc m mc : Nat) (hd : dn = x.draws.length) (hk : k = x.cr.keep.length) (hm : m = x.cr.spoil.length) (w : World) (hp : CrAt w a b x.cr) :
    Calls Tryd.prog 12 #[acV x.kind x.n x.text da dn dc x.cr.names a k kc b m mc] w fun e w' => e = .returned (.bool (P.rightB x)) ∧ Below w.heap.size w w' := by
  by_cases h1 : x.kind = 1
  · exact right_1 x h1 da a b dn dc k kc m mc hd hk hm w hp
  by_cases h2 : x.kind = 2
  · exact right_2 x h2 da a b dn dc k kc m mc hd hk hm w hp
  by_cases h3 : x.kind = 3
  · exact right_3 x h3 da a b dn dc k kc m mc hd hk hm w hp
  by_cases h4 : x.kind = 4
  · exact right_4 x h4 da a b dn dc k kc m mc hd hk hm w hp
  by_cases h5 : x.kind = 5
  · exact right_5 x h5 da a b dn dc k kc m mc hd hk hm w hp
  by_cases h6 : x.kind = 6
  · exact right_6 x h6 da a b dn dc k kc m mc hd hk hm w hp
  by_cases h7 : x.kind = 7
  · exact right_7 x h7 da a b dn dc k kc m mc hd hk hm w hp
  exact right_no x (by omega) da a b dn dc k kc m mc hd hk hm w hp
end Go.Proofs.YtnflbgindcejjaaDoor
