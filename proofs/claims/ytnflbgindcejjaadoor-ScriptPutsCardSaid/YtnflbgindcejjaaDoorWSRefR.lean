/- The walk of the document's Right (script). -/
import Derived.Test.YtnflbgindcejjaaDoorWSRefP
import Derived.Test.YtnflbgindcejjaaDoorWSRight2
namespace Go.Proofs.YtnflbgindcejjaaDoor
open Go.RowKit
set_option linter.unusedVariables false
set_option linter.unusedSimpArgs false

set_option maxRecDepth 100000 in
set_option maxHeartbeats 8000000 in
theorem refRight_no (x : P.Ac) (hkind : ¬ (1 ≤ x.kind ∧ x.kind ≤ 7)) (da a b : Option Addr) (dn dc k kc m mc : Nat) (hd : dn = x.draws.length) (hk : k = x.cr.keep.length) (hm : m = x.cr.spoil.length) (w : World) (hp : CrAt w a b x.cr) :
    Calls Tryd.prog 17 #[acV x.kind x.n x.text da dn dc x.cr.names a k kc b m mc] w fun e w' => e = .returned (.bool (P.rightB x)) ∧ Below w.heap.size w w' := by
  have HC := Lib.hid (fun wx (hx : Below w.heap.size w wx) => refSmall_any x.cr a b k kc m mc hk hm wx (hp.up hx))
  have HP := Lib.hid (fun wx => refPlain_any x.cr.names a b k kc m mc wx)
  have HR := Lib.hid (show P.rightB x = (decide (1 ≤ x.kind ∧ x.kind ≤ 7) && decide (x.text.length ≤ 65536) && decide (dn ≤ 255) && P.crB x.cr && (decide (x.kind = 1) || decide (x.text.length = 0)) && (decide (x.kind = 2) || decide (x.kind = 6) || decide (x.n = 0)) && (decide (x.kind = 5) || decide (dn = 0)) && (decide (6 ≤ x.kind) || (decide (x.cr.names = 0) && decide (k = 0) && decide (m = 0)))) from by rw [hd, hk, hm]; rfl)
  clear hp hd hk hm
  obtain ⟨kind, n, text, draws, names, keep, spoil⟩ := x
  simp only at HC HP HR ⊢
  generalize P.rightB ⟨kind, n, text, draws, names, keep, spoil⟩ = res at *
  generalize P.crB ⟨names, keep, spoil⟩ = crb at *
  generalize (decide (names = 0) && decide (k = 0) && decide (m = 0)) = plb at *
  have hx := Bx.fresh w 32 #[.int .u8 kind, V64 n, S text, .slice da dn dc, .int .i64 names, .slice a k kc, .slice b m mc]
  have hb : Below w.heap.size w (w.alloc (.cells #[.int .u8 kind, V64 n, S text, .slice da dn dc, .int .i64 names, .slice a k kc, .slice b m mc] 32)) := (Below.refl _ _).alloc (Nat.le_refl _) _
  simp only at hkind
  by_cases hk0 : kind = 0
  case pos =>
    subst hk0
    have Hres := Lib.hid (show res = false by rw [HR.out]; simp [*])
    clear HR
    go_enter Tryd.func17, Tryd.ntmps17
    go_wp2_with (first
      | (go_at_call 26; (with_reducible refine (HP.out _).mono ?_); rintro e w1 ⟨rfl, hb1⟩; have hx1 := hx.up hb1; obtain ⟨r0, r1, r2, r3, r4, r5, r6⟩ := hx1.seven; have hc1 := Chain.up hb hb1)
      | (go_at_call 27; (with_reducible refine (HC.out _ (by assumption)).mono ?_); rintro e w2 ⟨rfl, hb2⟩))
    go_ret
    refine ⟨ret_bool Hres.out.symm, ?_⟩
    first | exact hb | exact hc1 | exact Chain.up hc1 hb2 | exact Chain.up hb hb2
  case neg =>
    have hk7 : 7 < kind := by omega
    have hk1 : decide ((kind : Int) < 1) = false := decide_eq_false (by omega)
    have Hres := Lib.hid (show res = false by rw [HR.out]; simp [*])
    clear HR
    go_enter Tryd.func17, Tryd.ntmps17
    go_wp2_with (first
      | (go_at_call 26; (with_reducible refine (HP.out _).mono ?_); rintro e w1 ⟨rfl, hb1⟩; have hx1 := hx.up hb1; obtain ⟨r0, r1, r2, r3, r4, r5, r6⟩ := hx1.seven; have hc1 := Chain.up hb hb1)
      | (go_at_call 27; (with_reducible refine (HC.out _ (by assumption)).mono ?_); rintro e w2 ⟨rfl, hb2⟩))
    go_ret
    refine ⟨ret_bool Hres.out.symm, ?_⟩
    first | exact hb | exact hc1 | exact Chain.up hc1 hb2 | exact Chain.up hb hb2
set_option maxRecDepth 100000 in
set_option maxHeartbeats 8000000 in
theorem refRight_1 (x : P.Ac) (hkind : x.kind = 1) (da a b : Option Addr) (dn dc k kc m mc : Nat) (hd : dn = x.draws.length) (hk : k = x.cr.keep.length) (hm : m = x.cr.spoil.length) (w : World) (hp : CrAt w a b x.cr) :
    Calls Tryd.prog 17 #[acV x.kind x.n x.text da dn dc x.cr.names a k kc b m mc] w fun e w' => e = .returned (.bool (P.rightB x)) ∧ Below w.heap.size w w' := by
  have HC := Lib.hid (fun wx (hx : Below w.heap.size w wx) => refSmall_any x.cr a b k kc m mc hk hm wx (hp.up hx))
  have HP := Lib.hid (fun wx => refPlain_any x.cr.names a b k kc m mc wx)
  have HR := Lib.hid (show P.rightB x = (decide (1 ≤ x.kind ∧ x.kind ≤ 7) && decide (x.text.length ≤ 65536) && decide (dn ≤ 255) && P.crB x.cr && (decide (x.kind = 1) || decide (x.text.length = 0)) && (decide (x.kind = 2) || decide (x.kind = 6) || decide (x.n = 0)) && (decide (x.kind = 5) || decide (dn = 0)) && (decide (6 ≤ x.kind) || (decide (x.cr.names = 0) && decide (k = 0) && decide (m = 0)))) from by rw [hd, hk, hm]; rfl)
  clear hp hd hk hm
  obtain ⟨kind, n, text, draws, names, keep, spoil⟩ := x
  simp only at HC HP HR ⊢
  generalize P.rightB ⟨kind, n, text, draws, names, keep, spoil⟩ = res at *
  generalize P.crB ⟨names, keep, spoil⟩ = crb at *
  generalize (decide (names = 0) && decide (k = 0) && decide (m = 0)) = plb at *
  have hx := Bx.fresh w 32 #[.int .u8 kind, V64 n, S text, .slice da dn dc, .int .i64 names, .slice a k kc, .slice b m mc]
  have hb : Below w.heap.size w (w.alloc (.cells #[.int .u8 kind, V64 n, S text, .slice da dn dc, .int .i64 names, .slice a k kc, .slice b m mc] 32)) := (Below.refl _ _).alloc (Nat.le_refl _) _
  obtain rfl : kind = 1 := hkind
  by_cases hn : n = 0
  case neg =>
    have hn1 : ((n : Int) != 0) = true := by simpa using hn
    have Hres := Lib.hid (show res = false by rw [HR.out]; simp [*])
    clear HR
    go_enter Tryd.func17, Tryd.ntmps17
    go_wp2_with (first
      | (go_at_call 26; (with_reducible refine (HP.out _).mono ?_); rintro e w1 ⟨rfl, hb1⟩; have hx1 := hx.up hb1; obtain ⟨r0, r1, r2, r3, r4, r5, r6⟩ := hx1.seven; have hc1 := Chain.up hb hb1)
      | (go_at_call 27; (with_reducible refine (HC.out _ (by assumption)).mono ?_); rintro e w2 ⟨rfl, hb2⟩))
    go_ret
    refine ⟨ret_bool Hres.out.symm, ?_⟩
    first | exact hb | exact hc1 | exact Chain.up hc1 hb2 | exact Chain.up hb hb2
  subst hn
  by_cases hdn : dn = 0
  case neg =>
    have hdn1 : 0 < dn := by omega
    have Hres := Lib.hid (show res = false by rw [HR.out]; simp [*])
    clear HR
    go_enter Tryd.func17, Tryd.ntmps17
    go_wp2_with (first
      | (go_at_call 26; (with_reducible refine (HP.out _).mono ?_); rintro e w1 ⟨rfl, hb1⟩; have hx1 := hx.up hb1; obtain ⟨r0, r1, r2, r3, r4, r5, r6⟩ := hx1.seven; have hc1 := Chain.up hb hb1)
      | (go_at_call 27; (with_reducible refine (HC.out _ (by assumption)).mono ?_); rintro e w2 ⟨rfl, hb2⟩))
    go_ret
    refine ⟨ret_bool Hres.out.symm, ?_⟩
    first | exact hb | exact hc1 | exact Chain.up hc1 hb2 | exact Chain.up hb hb2
  subst hdn
  cases plb with
  | false =>
    have Hres := Lib.hid (show res = false by rw [HR.out]; simp [*])
    clear HR
    go_enter Tryd.func17, Tryd.ntmps17
    go_wp2_with (first
      | (go_at_call 26; (with_reducible refine (HP.out _).mono ?_); rintro e w1 ⟨rfl, hb1⟩; have hx1 := hx.up hb1; obtain ⟨r0, r1, r2, r3, r4, r5, r6⟩ := hx1.seven; have hc1 := Chain.up hb hb1)
      | (go_at_call 27; (with_reducible refine (HC.out _ (by assumption)).mono ?_); rintro e w2 ⟨rfl, hb2⟩))
    go_ret
    refine ⟨ret_bool Hres.out.symm, ?_⟩
    first | exact hb | exact hc1 | exact Chain.up hc1 hb2 | exact Chain.up hb hb2
  | true =>
  by_cases htl : text.length ≤ 65536
  case neg =>
    have htl1 : decide ((text.length : Int) ≤ 65536) = false := decide_eq_false (by omega)
    have Hres := Lib.hid (show res = false by rw [HR.out]; simp [*])
    clear HR
    go_enter Tryd.func17, Tryd.ntmps17
    go_wp2_with (first
      | (go_at_call 26; (with_reducible refine (HP.out _).mono ?_); rintro e w1 ⟨rfl, hb1⟩; have hx1 := hx.up hb1; obtain ⟨r0, r1, r2, r3, r4, r5, r6⟩ := hx1.seven; have hc1 := Chain.up hb hb1)
      | (go_at_call 27; (with_reducible refine (HC.out _ (by assumption)).mono ?_); rintro e w2 ⟨rfl, hb2⟩))
    go_ret
    refine ⟨ret_bool Hres.out.symm, ?_⟩
    first | exact hb | exact hc1 | exact Chain.up hc1 hb2 | exact Chain.up hb hb2
  have htl1 : decide ((text.length : Int) ≤ 65536) = true := decide_eq_true (by omega)
  cases crb with
  | false =>
    have Hres := Lib.hid (show res = false by rw [HR.out]; simp [*])
    clear HR
    go_enter Tryd.func17, Tryd.ntmps17
    go_wp2_with (first
      | (go_at_call 26; (with_reducible refine (HP.out _).mono ?_); rintro e w1 ⟨rfl, hb1⟩; have hx1 := hx.up hb1; obtain ⟨r0, r1, r2, r3, r4, r5, r6⟩ := hx1.seven; have hc1 := Chain.up hb hb1)
      | (go_at_call 27; (with_reducible refine (HC.out _ (by assumption)).mono ?_); rintro e w2 ⟨rfl, hb2⟩))
    go_ret
    refine ⟨ret_bool Hres.out.symm, ?_⟩
    first | exact hb | exact hc1 | exact Chain.up hc1 hb2 | exact Chain.up hb hb2
  | true =>
    have Hres := Lib.hid (show res = true by rw [HR.out]; simp [*])
    clear HR
    go_enter Tryd.func17, Tryd.ntmps17
    go_wp2_with (first
      | (go_at_call 26; (with_reducible refine (HP.out _).mono ?_); rintro e w1 ⟨rfl, hb1⟩; have hx1 := hx.up hb1; obtain ⟨r0, r1, r2, r3, r4, r5, r6⟩ := hx1.seven; have hc1 := Chain.up hb hb1)
      | (go_at_call 27; (with_reducible refine (HC.out _ (by assumption)).mono ?_); rintro e w2 ⟨rfl, hb2⟩))
    go_ret
    refine ⟨ret_bool Hres.out.symm, ?_⟩
    first | exact hb | exact hc1 | exact Chain.up hc1 hb2 | exact Chain.up hb hb2
set_option maxRecDepth 100000 in
set_option maxHeartbeats 8000000 in
theorem refRight_2 (x : P.Ac) (hkind : x.kind = 2) (da a b : Option Addr) (dn dc k kc m mc : Nat) (hd : dn = x.draws.length) (hk : k = x.cr.keep.length) (hm : m = x.cr.spoil.length) (w : World) (hp : CrAt w a b x.cr) :
    Calls Tryd.prog 17 #[acV x.kind x.n x.text da dn dc x.cr.names a k kc b m mc] w fun e w' => e = .returned (.bool (P.rightB x)) ∧ Below w.heap.size w w' := by
  have HC := Lib.hid (fun wx (hx : Below w.heap.size w wx) => refSmall_any x.cr a b k kc m mc hk hm wx (hp.up hx))
  have HP := Lib.hid (fun wx => refPlain_any x.cr.names a b k kc m mc wx)
  have HR := Lib.hid (show P.rightB x = (decide (1 ≤ x.kind ∧ x.kind ≤ 7) && decide (x.text.length ≤ 65536) && decide (dn ≤ 255) && P.crB x.cr && (decide (x.kind = 1) || decide (x.text.length = 0)) && (decide (x.kind = 2) || decide (x.kind = 6) || decide (x.n = 0)) && (decide (x.kind = 5) || decide (dn = 0)) && (decide (6 ≤ x.kind) || (decide (x.cr.names = 0) && decide (k = 0) && decide (m = 0)))) from by rw [hd, hk, hm]; rfl)
  clear hp hd hk hm
  obtain ⟨kind, n, text, draws, names, keep, spoil⟩ := x
  simp only at HC HP HR ⊢
  generalize P.rightB ⟨kind, n, text, draws, names, keep, spoil⟩ = res at *
  generalize P.crB ⟨names, keep, spoil⟩ = crb at *
  generalize (decide (names = 0) && decide (k = 0) && decide (m = 0)) = plb at *
  have hx := Bx.fresh w 32 #[.int .u8 kind, V64 n, S text, .slice da dn dc, .int .i64 names, .slice a k kc, .slice b m mc]
  have hb : Below w.heap.size w (w.alloc (.cells #[.int .u8 kind, V64 n, S text, .slice da dn dc, .int .i64 names, .slice a k kc, .slice b m mc] 32)) := (Below.refl _ _).alloc (Nat.le_refl _) _
  obtain rfl : kind = 2 := hkind
  rcases text with _ | ⟨tc, tt⟩
  case cons =>
    have Hres := Lib.hid (show res = false by rw [HR.out]; simp [*])
    clear HR
    go_enter Tryd.func17, Tryd.ntmps17
    go_wp2_with (first
      | (go_at_call 26; (with_reducible refine (HP.out _).mono ?_); rintro e w1 ⟨rfl, hb1⟩; have hx1 := hx.up hb1; obtain ⟨r0, r1, r2, r3, r4, r5, r6⟩ := hx1.seven; have hc1 := Chain.up hb hb1)
      | (go_at_call 27; (with_reducible refine (HC.out _ (by assumption)).mono ?_); rintro e w2 ⟨rfl, hb2⟩))
    go_ret
    refine ⟨ret_bool Hres.out.symm, ?_⟩
    first | exact hb | exact hc1 | exact Chain.up hc1 hb2 | exact Chain.up hb hb2
  by_cases hdn : dn = 0
  case neg =>
    have hdn1 : 0 < dn := by omega
    have Hres := Lib.hid (show res = false by rw [HR.out]; simp [*])
    clear HR
    go_enter Tryd.func17, Tryd.ntmps17
    go_wp2_with (first
      | (go_at_call 26; (with_reducible refine (HP.out _).mono ?_); rintro e w1 ⟨rfl, hb1⟩; have hx1 := hx.up hb1; obtain ⟨r0, r1, r2, r3, r4, r5, r6⟩ := hx1.seven; have hc1 := Chain.up hb hb1)
      | (go_at_call 27; (with_reducible refine (HC.out _ (by assumption)).mono ?_); rintro e w2 ⟨rfl, hb2⟩))
    go_ret
    refine ⟨ret_bool Hres.out.symm, ?_⟩
    first | exact hb | exact hc1 | exact Chain.up hc1 hb2 | exact Chain.up hb hb2
  subst hdn
  cases plb with
  | false =>
    have Hres := Lib.hid (show res = false by rw [HR.out]; simp [*])
    clear HR
    go_enter Tryd.func17, Tryd.ntmps17
    go_wp2_with (first
      | (go_at_call 26; (with_reducible refine (HP.out _).mono ?_); rintro e w1 ⟨rfl, hb1⟩; have hx1 := hx.up hb1; obtain ⟨r0, r1, r2, r3, r4, r5, r6⟩ := hx1.seven; have hc1 := Chain.up hb hb1)
      | (go_at_call 27; (with_reducible refine (HC.out _ (by assumption)).mono ?_); rintro e w2 ⟨rfl, hb2⟩))
    go_ret
    refine ⟨ret_bool Hres.out.symm, ?_⟩
    first | exact hb | exact hc1 | exact Chain.up hc1 hb2 | exact Chain.up hb hb2
  | true =>
  cases crb with
  | false =>
    have Hres := Lib.hid (show res = false by rw [HR.out]; simp [*])
    clear HR
    go_enter Tryd.func17, Tryd.ntmps17
    go_wp2_with (first
      | (go_at_call 26; (with_reducible refine (HP.out _).mono ?_); rintro e w1 ⟨rfl, hb1⟩; have hx1 := hx.up hb1; obtain ⟨r0, r1, r2, r3, r4, r5, r6⟩ := hx1.seven; have hc1 := Chain.up hb hb1)
      | (go_at_call 27; (with_reducible refine (HC.out _ (by assumption)).mono ?_); rintro e w2 ⟨rfl, hb2⟩))
    go_ret
    refine ⟨ret_bool Hres.out.symm, ?_⟩
    first | exact hb | exact hc1 | exact Chain.up hc1 hb2 | exact Chain.up hb hb2
  | true =>
    have Hres := Lib.hid (show res = true by rw [HR.out]; simp [*])
    clear HR
    go_enter Tryd.func17, Tryd.ntmps17
    go_wp2_with (first
      | (go_at_call 26; (with_reducible refine (HP.out _).mono ?_); rintro e w1 ⟨rfl, hb1⟩; have hx1 := hx.up hb1; obtain ⟨r0, r1, r2, r3, r4, r5, r6⟩ := hx1.seven; have hc1 := Chain.up hb hb1)
      | (go_at_call 27; (with_reducible refine (HC.out _ (by assumption)).mono ?_); rintro e w2 ⟨rfl, hb2⟩))
    go_ret
    refine ⟨ret_bool Hres.out.symm, ?_⟩
    first | exact hb | exact hc1 | exact Chain.up hc1 hb2 | exact Chain.up hb hb2
set_option maxRecDepth 100000 in
set_option maxHeartbeats 8000000 in
theorem refRight_3 (x : P.Ac) (hkind : x.kind = 3) (da a b : Option Addr) (dn dc k kc m mc : Nat) (hd : dn = x.draws.length) (hk : k = x.cr.keep.length) (hm : m = x.cr.spoil.length) (w : World) (hp : CrAt w a b x.cr) :
    Calls Tryd.prog 17 #[acV x.kind x.n x.text da dn dc x.cr.names a k kc b m mc] w fun e w' => e = .returned (.bool (P.rightB x)) ∧ Below w.heap.size w w' := by
  have HC := Lib.hid (fun wx (hx : Below w.heap.size w wx) => refSmall_any x.cr a b k kc m mc hk hm wx (hp.up hx))
  have HP := Lib.hid (fun wx => refPlain_any x.cr.names a b k kc m mc wx)
  have HR := Lib.hid (show P.rightB x = (decide (1 ≤ x.kind ∧ x.kind ≤ 7) && decide (x.text.length ≤ 65536) && decide (dn ≤ 255) && P.crB x.cr && (decide (x.kind = 1) || decide (x.text.length = 0)) && (decide (x.kind = 2) || decide (x.kind = 6) || decide (x.n = 0)) && (decide (x.kind = 5) || decide (dn = 0)) && (decide (6 ≤ x.kind) || (decide (x.cr.names = 0) && decide (k = 0) && decide (m = 0)))) from by rw [hd, hk, hm]; rfl)
  clear hp hd hk hm
  obtain ⟨kind, n, text, draws, names, keep, spoil⟩ := x
  simp only at HC HP HR ⊢
  generalize P.rightB ⟨kind, n, text, draws, names, keep, spoil⟩ = res at *
  generalize P.crB ⟨names, keep, spoil⟩ = crb at *
  generalize (decide (names = 0) && decide (k = 0) && decide (m = 0)) = plb at *
  have hx := Bx.fresh w 32 #[.int .u8 kind, V64 n, S text, .slice da dn dc, .int .i64 names, .slice a k kc, .slice b m mc]
  have hb : Below w.heap.size w (w.alloc (.cells #[.int .u8 kind, V64 n, S text, .slice da dn dc, .int .i64 names, .slice a k kc, .slice b m mc] 32)) := (Below.refl _ _).alloc (Nat.le_refl _) _
  obtain rfl : kind = 3 := hkind
  rcases text with _ | ⟨tc, tt⟩
  case cons =>
    have Hres := Lib.hid (show res = false by rw [HR.out]; simp [*])
    clear HR
    go_enter Tryd.func17, Tryd.ntmps17
    go_wp2_with (first
      | (go_at_call 26; (with_reducible refine (HP.out _).mono ?_); rintro e w1 ⟨rfl, hb1⟩; have hx1 := hx.up hb1; obtain ⟨r0, r1, r2, r3, r4, r5, r6⟩ := hx1.seven; have hc1 := Chain.up hb hb1)
      | (go_at_call 27; (with_reducible refine (HC.out _ (by assumption)).mono ?_); rintro e w2 ⟨rfl, hb2⟩))
    go_ret
    refine ⟨ret_bool Hres.out.symm, ?_⟩
    first | exact hb | exact hc1 | exact Chain.up hc1 hb2 | exact Chain.up hb hb2
  by_cases hn : n = 0
  case neg =>
    have hn1 : ((n : Int) != 0) = true := by simpa using hn
    have Hres := Lib.hid (show res = false by rw [HR.out]; simp [*])
    clear HR
    go_enter Tryd.func17, Tryd.ntmps17
    go_wp2_with (first
      | (go_at_call 26; (with_reducible refine (HP.out _).mono ?_); rintro e w1 ⟨rfl, hb1⟩; have hx1 := hx.up hb1; obtain ⟨r0, r1, r2, r3, r4, r5, r6⟩ := hx1.seven; have hc1 := Chain.up hb hb1)
      | (go_at_call 27; (with_reducible refine (HC.out _ (by assumption)).mono ?_); rintro e w2 ⟨rfl, hb2⟩))
    go_ret
    refine ⟨ret_bool Hres.out.symm, ?_⟩
    first | exact hb | exact hc1 | exact Chain.up hc1 hb2 | exact Chain.up hb hb2
  subst hn
  by_cases hdn : dn = 0
  case neg =>
    have hdn1 : 0 < dn := by omega
    have Hres := Lib.hid (show res = false by rw [HR.out]; simp [*])
    clear HR
    go_enter Tryd.func17, Tryd.ntmps17
    go_wp2_with (first
      | (go_at_call 26; (with_reducible refine (HP.out _).mono ?_); rintro e w1 ⟨rfl, hb1⟩; have hx1 := hx.up hb1; obtain ⟨r0, r1, r2, r3, r4, r5, r6⟩ := hx1.seven; have hc1 := Chain.up hb hb1)
      | (go_at_call 27; (with_reducible refine (HC.out _ (by assumption)).mono ?_); rintro e w2 ⟨rfl, hb2⟩))
    go_ret
    refine ⟨ret_bool Hres.out.symm, ?_⟩
    first | exact hb | exact hc1 | exact Chain.up hc1 hb2 | exact Chain.up hb hb2
  subst hdn
  cases plb with
  | false =>
    have Hres := Lib.hid (show res = false by rw [HR.out]; simp [*])
    clear HR
    go_enter Tryd.func17, Tryd.ntmps17
    go_wp2_with (first
      | (go_at_call 26; (with_reducible refine (HP.out _).mono ?_); rintro e w1 ⟨rfl, hb1⟩; have hx1 := hx.up hb1; obtain ⟨r0, r1, r2, r3, r4, r5, r6⟩ := hx1.seven; have hc1 := Chain.up hb hb1)
      | (go_at_call 27; (with_reducible refine (HC.out _ (by assumption)).mono ?_); rintro e w2 ⟨rfl, hb2⟩))
    go_ret
    refine ⟨ret_bool Hres.out.symm, ?_⟩
    first | exact hb | exact hc1 | exact Chain.up hc1 hb2 | exact Chain.up hb hb2
  | true =>
  cases crb with
  | false =>
    have Hres := Lib.hid (show res = false by rw [HR.out]; simp [*])
    clear HR
    go_enter Tryd.func17, Tryd.ntmps17
    go_wp2_with (first
      | (go_at_call 26; (with_reducible refine (HP.out _).mono ?_); rintro e w1 ⟨rfl, hb1⟩; have hx1 := hx.up hb1; obtain ⟨r0, r1, r2, r3, r4, r5, r6⟩ := hx1.seven; have hc1 := Chain.up hb hb1)
      | (go_at_call 27; (with_reducible refine (HC.out _ (by assumption)).mono ?_); rintro e w2 ⟨rfl, hb2⟩))
    go_ret
    refine ⟨ret_bool Hres.out.symm, ?_⟩
    first | exact hb | exact hc1 | exact Chain.up hc1 hb2 | exact Chain.up hb hb2
  | true =>
    have Hres := Lib.hid (show res = true by rw [HR.out]; simp [*])
    clear HR
    go_enter Tryd.func17, Tryd.ntmps17
    go_wp2_with (first
      | (go_at_call 26; (with_reducible refine (HP.out _).mono ?_); rintro e w1 ⟨rfl, hb1⟩; have hx1 := hx.up hb1; obtain ⟨r0, r1, r2, r3, r4, r5, r6⟩ := hx1.seven; have hc1 := Chain.up hb hb1)
      | (go_at_call 27; (with_reducible refine (HC.out _ (by assumption)).mono ?_); rintro e w2 ⟨rfl, hb2⟩))
    go_ret
    refine ⟨ret_bool Hres.out.symm, ?_⟩
    first | exact hb | exact hc1 | exact Chain.up hc1 hb2 | exact Chain.up hb hb2
set_option maxRecDepth 100000 in
set_option maxHeartbeats 8000000 in
theorem refRight_4 (x : P.Ac) (hkind : x.kind = 4) (da a b : Option Addr) (dn dc k kc m mc : Nat) (hd : dn = x.draws.length) (hk : k = x.cr.keep.length) (hm : m = x.cr.spoil.length) (w : World) (hp : CrAt w a b x.cr) :
    Calls Tryd.prog 17 #[acV x.kind x.n x.text da dn dc x.cr.names a k kc b m mc] w fun e w' => e = .returned (.bool (P.rightB x)) ∧ Below w.heap.size w w' := by
  have HC := Lib.hid (fun wx (hx : Below w.heap.size w wx) => refSmall_any x.cr a b k kc m mc hk hm wx (hp.up hx))
  have HP := Lib.hid (fun wx => refPlain_any x.cr.names a b k kc m mc wx)
  have HR := Lib.hid (show P.rightB x = (decide (1 ≤ x.kind ∧ x.kind ≤ 7) && decide (x.text.length ≤ 65536) && decide (dn ≤ 255) && P.crB x.cr && (decide (x.kind = 1) || decide (x.text.length = 0)) && (decide (x.kind = 2) || decide (x.kind = 6) || decide (x.n = 0)) && (decide (x.kind = 5) || decide (dn = 0)) && (decide (6 ≤ x.kind) || (decide (x.cr.names = 0) && decide (k = 0) && decide (m = 0)))) from by rw [hd, hk, hm]; rfl)
  clear hp hd hk hm
  obtain ⟨kind, n, text, draws, names, keep, spoil⟩ := x
  simp only at HC HP HR ⊢
  generalize P.rightB ⟨kind, n, text, draws, names, keep, spoil⟩ = res at *
  generalize P.crB ⟨names, keep, spoil⟩ = crb at *
  generalize (decide (names = 0) && decide (k = 0) && decide (m = 0)) = plb at *
  have hx := Bx.fresh w 32 #[.int .u8 kind, V64 n, S text, .slice da dn dc, .int .i64 names, .slice a k kc, .slice b m mc]
  have hb : Below w.heap.size w (w.alloc (.cells #[.int .u8 kind, V64 n, S text, .slice da dn dc, .int .i64 names, .slice a k kc, .slice b m mc] 32)) := (Below.refl _ _).alloc (Nat.le_refl _) _
  obtain rfl : kind = 4 := hkind
  rcases text with _ | ⟨tc, tt⟩
  case cons =>
    have Hres := Lib.hid (show res = false by rw [HR.out]; simp [*])
    clear HR
    go_enter Tryd.func17, Tryd.ntmps17
    go_wp2_with (first
      | (go_at_call 26; (with_reducible refine (HP.out _).mono ?_); rintro e w1 ⟨rfl, hb1⟩; have hx1 := hx.up hb1; obtain ⟨r0, r1, r2, r3, r4, r5, r6⟩ := hx1.seven; have hc1 := Chain.up hb hb1)
      | (go_at_call 27; (with_reducible refine (HC.out _ (by assumption)).mono ?_); rintro e w2 ⟨rfl, hb2⟩))
    go_ret
    refine ⟨ret_bool Hres.out.symm, ?_⟩
    first | exact hb | exact hc1 | exact Chain.up hc1 hb2 | exact Chain.up hb hb2
  by_cases hn : n = 0
  case neg =>
    have hn1 : ((n : Int) != 0) = true := by simpa using hn
    have Hres := Lib.hid (show res = false by rw [HR.out]; simp [*])
    clear HR
    go_enter Tryd.func17, Tryd.ntmps17
    go_wp2_with (first
      | (go_at_call 26; (with_reducible refine (HP.out _).mono ?_); rintro e w1 ⟨rfl, hb1⟩; have hx1 := hx.up hb1; obtain ⟨r0, r1, r2, r3, r4, r5, r6⟩ := hx1.seven; have hc1 := Chain.up hb hb1)
      | (go_at_call 27; (with_reducible refine (HC.out _ (by assumption)).mono ?_); rintro e w2 ⟨rfl, hb2⟩))
    go_ret
    refine ⟨ret_bool Hres.out.symm, ?_⟩
    first | exact hb | exact hc1 | exact Chain.up hc1 hb2 | exact Chain.up hb hb2
  subst hn
  by_cases hdn : dn = 0
  case neg =>
    have hdn1 : 0 < dn := by omega
    have Hres := Lib.hid (show res = false by rw [HR.out]; simp [*])
    clear HR
    go_enter Tryd.func17, Tryd.ntmps17
    go_wp2_with (first
      | (go_at_call 26; (with_reducible refine (HP.out _).mono ?_); rintro e w1 ⟨rfl, hb1⟩; have hx1 := hx.up hb1; obtain ⟨r0, r1, r2, r3, r4, r5, r6⟩ := hx1.seven; have hc1 := Chain.up hb hb1)
      | (go_at_call 27; (with_reducible refine (HC.out _ (by assumption)).mono ?_); rintro e w2 ⟨rfl, hb2⟩))
    go_ret
    refine ⟨ret_bool Hres.out.symm, ?_⟩
    first | exact hb | exact hc1 | exact Chain.up hc1 hb2 | exact Chain.up hb hb2
  subst hdn
  cases plb with
  | false =>
    have Hres := Lib.hid (show res = false by rw [HR.out]; simp [*])
    clear HR
    go_enter Tryd.func17, Tryd.ntmps17
    go_wp2_with (first
      | (go_at_call 26; (with_reducible refine (HP.out _).mono ?_); rintro e w1 ⟨rfl, hb1⟩; have hx1 := hx.up hb1; obtain ⟨r0, r1, r2, r3, r4, r5, r6⟩ := hx1.seven; have hc1 := Chain.up hb hb1)
      | (go_at_call 27; (with_reducible refine (HC.out _ (by assumption)).mono ?_); rintro e w2 ⟨rfl, hb2⟩))
    go_ret
    refine ⟨ret_bool Hres.out.symm, ?_⟩
    first | exact hb | exact hc1 | exact Chain.up hc1 hb2 | exact Chain.up hb hb2
  | true =>
  cases crb with
  | false =>
    have Hres := Lib.hid (show res = false by rw [HR.out]; simp [*])
    clear HR
    go_enter Tryd.func17, Tryd.ntmps17
    go_wp2_with (first
      | (go_at_call 26; (with_reducible refine (HP.out _).mono ?_); rintro e w1 ⟨rfl, hb1⟩; have hx1 := hx.up hb1; obtain ⟨r0, r1, r2, r3, r4, r5, r6⟩ := hx1.seven; have hc1 := Chain.up hb hb1)
      | (go_at_call 27; (with_reducible refine (HC.out _ (by assumption)).mono ?_); rintro e w2 ⟨rfl, hb2⟩))
    go_ret
    refine ⟨ret_bool Hres.out.symm, ?_⟩
    first | exact hb | exact hc1 | exact Chain.up hc1 hb2 | exact Chain.up hb hb2
  | true =>
    have Hres := Lib.hid (show res = true by rw [HR.out]; simp [*])
    clear HR
    go_enter Tryd.func17, Tryd.ntmps17
    go_wp2_with (first
      | (go_at_call 26; (with_reducible refine (HP.out _).mono ?_); rintro e w1 ⟨rfl, hb1⟩; have hx1 := hx.up hb1; obtain ⟨r0, r1, r2, r3, r4, r5, r6⟩ := hx1.seven; have hc1 := Chain.up hb hb1)
      | (go_at_call 27; (with_reducible refine (HC.out _ (by assumption)).mono ?_); rintro e w2 ⟨rfl, hb2⟩))
    go_ret
    refine ⟨ret_bool Hres.out.symm, ?_⟩
    first | exact hb | exact hc1 | exact Chain.up hc1 hb2 | exact Chain.up hb hb2
set_option maxRecDepth 100000 in
set_option maxHeartbeats 8000000 in
theorem refRight_5 (x : P.Ac) (hkind : x.kind = 5) (da a b : Option Addr) (dn dc k kc m mc : Nat) (hd : dn = x.draws.length) (hk : k = x.cr.keep.length) (hm : m = x.cr.spoil.length) (w : World) (hp : CrAt w a b x.cr) :
    Calls Tryd.prog 17 #[acV x.kind x.n x.text da dn dc x.cr.names a k kc b m mc] w fun e w' => e = .returned (.bool (P.rightB x)) ∧ Below w.heap.size w w' := by
  have HC := Lib.hid (fun wx (hx : Below w.heap.size w wx) => refSmall_any x.cr a b k kc m mc hk hm wx (hp.up hx))
  have HP := Lib.hid (fun wx => refPlain_any x.cr.names a b k kc m mc wx)
  have HR := Lib.hid (show P.rightB x = (decide (1 ≤ x.kind ∧ x.kind ≤ 7) && decide (x.text.length ≤ 65536) && decide (dn ≤ 255) && P.crB x.cr && (decide (x.kind = 1) || decide (x.text.length = 0)) && (decide (x.kind = 2) || decide (x.kind = 6) || decide (x.n = 0)) && (decide (x.kind = 5) || decide (dn = 0)) && (decide (6 ≤ x.kind) || (decide (x.cr.names = 0) && decide (k = 0) && decide (m = 0)))) from by rw [hd, hk, hm]; rfl)
  clear hp hd hk hm
  obtain ⟨kind, n, text, draws, names, keep, spoil⟩ := x
  simp only at HC HP HR ⊢
  generalize P.rightB ⟨kind, n, text, draws, names, keep, spoil⟩ = res at *
  generalize P.crB ⟨names, keep, spoil⟩ = crb at *
  generalize (decide (names = 0) && decide (k = 0) && decide (m = 0)) = plb at *
  have hx := Bx.fresh w 32 #[.int .u8 kind, V64 n, S text, .slice da dn dc, .int .i64 names, .slice a k kc, .slice b m mc]
  have hb : Below w.heap.size w (w.alloc (.cells #[.int .u8 kind, V64 n, S text, .slice da dn dc, .int .i64 names, .slice a k kc, .slice b m mc] 32)) := (Below.refl _ _).alloc (Nat.le_refl _) _
  obtain rfl : kind = 5 := hkind
  rcases text with _ | ⟨tc, tt⟩
  case cons =>
    have Hres := Lib.hid (show res = false by rw [HR.out]; simp [*])
    clear HR
    go_enter Tryd.func17, Tryd.ntmps17
    go_wp2_with (first
      | (go_at_call 26; (with_reducible refine (HP.out _).mono ?_); rintro e w1 ⟨rfl, hb1⟩; have hx1 := hx.up hb1; obtain ⟨r0, r1, r2, r3, r4, r5, r6⟩ := hx1.seven; have hc1 := Chain.up hb hb1)
      | (go_at_call 27; (with_reducible refine (HC.out _ (by assumption)).mono ?_); rintro e w2 ⟨rfl, hb2⟩))
    go_ret
    refine ⟨ret_bool Hres.out.symm, ?_⟩
    first | exact hb | exact hc1 | exact Chain.up hc1 hb2 | exact Chain.up hb hb2
  by_cases hn : n = 0
  case neg =>
    have hn1 : ((n : Int) != 0) = true := by simpa using hn
    have Hres := Lib.hid (show res = false by rw [HR.out]; simp [*])
    clear HR
    go_enter Tryd.func17, Tryd.ntmps17
    go_wp2_with (first
      | (go_at_call 26; (with_reducible refine (HP.out _).mono ?_); rintro e w1 ⟨rfl, hb1⟩; have hx1 := hx.up hb1; obtain ⟨r0, r1, r2, r3, r4, r5, r6⟩ := hx1.seven; have hc1 := Chain.up hb hb1)
      | (go_at_call 27; (with_reducible refine (HC.out _ (by assumption)).mono ?_); rintro e w2 ⟨rfl, hb2⟩))
    go_ret
    refine ⟨ret_bool Hres.out.symm, ?_⟩
    first | exact hb | exact hc1 | exact Chain.up hc1 hb2 | exact Chain.up hb hb2
  subst hn
  cases plb with
  | false =>
    have Hres := Lib.hid (show res = false by rw [HR.out]; simp [*])
    clear HR
    go_enter Tryd.func17, Tryd.ntmps17
    go_wp2_with (first
      | (go_at_call 26; (with_reducible refine (HP.out _).mono ?_); rintro e w1 ⟨rfl, hb1⟩; have hx1 := hx.up hb1; obtain ⟨r0, r1, r2, r3, r4, r5, r6⟩ := hx1.seven; have hc1 := Chain.up hb hb1)
      | (go_at_call 27; (with_reducible refine (HC.out _ (by assumption)).mono ?_); rintro e w2 ⟨rfl, hb2⟩))
    go_ret
    refine ⟨ret_bool Hres.out.symm, ?_⟩
    first | exact hb | exact hc1 | exact Chain.up hc1 hb2 | exact Chain.up hb hb2
  | true =>
  by_cases hdl : dn ≤ 255
  case neg =>
    have hdl1 : decide ((dn : Int) ≤ 255) = false := decide_eq_false (by omega)
    have Hres := Lib.hid (show res = false by rw [HR.out]; simp [*])
    clear HR
    go_enter Tryd.func17, Tryd.ntmps17
    go_wp2_with (first
      | (go_at_call 26; (with_reducible refine (HP.out _).mono ?_); rintro e w1 ⟨rfl, hb1⟩; have hx1 := hx.up hb1; obtain ⟨r0, r1, r2, r3, r4, r5, r6⟩ := hx1.seven; have hc1 := Chain.up hb hb1)
      | (go_at_call 27; (with_reducible refine (HC.out _ (by assumption)).mono ?_); rintro e w2 ⟨rfl, hb2⟩))
    go_ret
    refine ⟨ret_bool Hres.out.symm, ?_⟩
    first | exact hb | exact hc1 | exact Chain.up hc1 hb2 | exact Chain.up hb hb2
  have hdl1 : decide ((dn : Int) ≤ 255) = true := decide_eq_true (by omega)
  cases crb with
  | false =>
    have Hres := Lib.hid (show res = false by rw [HR.out]; simp [*])
    clear HR
    go_enter Tryd.func17, Tryd.ntmps17
    go_wp2_with (first
      | (go_at_call 26; (with_reducible refine (HP.out _).mono ?_); rintro e w1 ⟨rfl, hb1⟩; have hx1 := hx.up hb1; obtain ⟨r0, r1, r2, r3, r4, r5, r6⟩ := hx1.seven; have hc1 := Chain.up hb hb1)
      | (go_at_call 27; (with_reducible refine (HC.out _ (by assumption)).mono ?_); rintro e w2 ⟨rfl, hb2⟩))
    go_ret
    refine ⟨ret_bool Hres.out.symm, ?_⟩
    first | exact hb | exact hc1 | exact Chain.up hc1 hb2 | exact Chain.up hb hb2
  | true =>
    have Hres := Lib.hid (show res = true by rw [HR.out]; simp [*])
    clear HR
    go_enter Tryd.func17, Tryd.ntmps17
    go_wp2_with (first
      | (go_at_call 26; (with_reducible refine (HP.out _).mono ?_); rintro e w1 ⟨rfl, hb1⟩; have hx1 := hx.up hb1; obtain ⟨r0, r1, r2, r3, r4, r5, r6⟩ := hx1.seven; have hc1 := Chain.up hb hb1)
      | (go_at_call 27; (with_reducible refine (HC.out _ (by assumption)).mono ?_); rintro e w2 ⟨rfl, hb2⟩))
    go_ret
    refine ⟨ret_bool Hres.out.symm, ?_⟩
    first | exact hb | exact hc1 | exact Chain.up hc1 hb2 | exact Chain.up hb hb2
set_option maxRecDepth 100000 in
set_option maxHeartbeats 8000000 in
theorem refRight_6 (x : P.Ac) (hkind : x.kind = 6) (da a b : Option Addr) (dn dc k kc m mc : Nat) (hd : dn = x.draws.length) (hk : k = x.cr.keep.length) (hm : m = x.cr.spoil.length) (w : World) (hp : CrAt w a b x.cr) :
    Calls Tryd.prog 17 #[acV x.kind x.n x.text da dn dc x.cr.names a k kc b m mc] w fun e w' => e = .returned (.bool (P.rightB x)) ∧ Below w.heap.size w w' := by
  have HC := Lib.hid (fun wx (hx : Below w.heap.size w wx) => refSmall_any x.cr a b k kc m mc hk hm wx (hp.up hx))
  have HP := Lib.hid (fun wx => refPlain_any x.cr.names a b k kc m mc wx)
  have HR := Lib.hid (show P.rightB x = (decide (1 ≤ x.kind ∧ x.kind ≤ 7) && decide (x.text.length ≤ 65536) && decide (dn ≤ 255) && P.crB x.cr && (decide (x.kind = 1) || decide (x.text.length = 0)) && (decide (x.kind = 2) || decide (x.kind = 6) || decide (x.n = 0)) && (decide (x.kind = 5) || decide (dn = 0)) && (decide (6 ≤ x.kind) || (decide (x.cr.names = 0) && decide (k = 0) && decide (m = 0)))) from by rw [hd, hk, hm]; rfl)
  clear hp hd hk hm
  obtain ⟨kind, n, text, draws, names, keep, spoil⟩ := x
  simp only at HC HP HR ⊢
  generalize P.rightB ⟨kind, n, text, draws, names, keep, spoil⟩ = res at *
  generalize P.crB ⟨names, keep, spoil⟩ = crb at *
  generalize (decide (names = 0) && decide (k = 0) && decide (m = 0)) = plb at *
  have hx := Bx.fresh w 32 #[.int .u8 kind, V64 n, S text, .slice da dn dc, .int .i64 names, .slice a k kc, .slice b m mc]
  have hb : Below w.heap.size w (w.alloc (.cells #[.int .u8 kind, V64 n, S text, .slice da dn dc, .int .i64 names, .slice a k kc, .slice b m mc] 32)) := (Below.refl _ _).alloc (Nat.le_refl _) _
  obtain rfl : kind = 6 := hkind
  rcases text with _ | ⟨tc, tt⟩
  case cons =>
    have Hres := Lib.hid (show res = false by rw [HR.out]; simp [*])
    clear HR
    go_enter Tryd.func17, Tryd.ntmps17
    go_wp2_with (first
      | (go_at_call 26; (with_reducible refine (HP.out _).mono ?_); rintro e w1 ⟨rfl, hb1⟩; have hx1 := hx.up hb1; obtain ⟨r0, r1, r2, r3, r4, r5, r6⟩ := hx1.seven; have hc1 := Chain.up hb hb1)
      | (go_at_call 27; (refine (HC.out _ hb).mono ?_); rintro e w2 ⟨rfl, hb2⟩))
    go_ret
    refine ⟨ret_bool Hres.out.symm, ?_⟩
    first | exact hb | exact hc1 | exact Chain.up hc1 hb2 | exact Chain.up hb hb2
  by_cases hdn : dn = 0
  case neg =>
    have hdn1 : 0 < dn := by omega
    have Hres := Lib.hid (show res = false by rw [HR.out]; simp [*])
    clear HR
    go_enter Tryd.func17, Tryd.ntmps17
    go_wp2_with (first
      | (go_at_call 26; (with_reducible refine (HP.out _).mono ?_); rintro e w1 ⟨rfl, hb1⟩; have hx1 := hx.up hb1; obtain ⟨r0, r1, r2, r3, r4, r5, r6⟩ := hx1.seven; have hc1 := Chain.up hb hb1)
      | (go_at_call 27; (refine (HC.out _ hb).mono ?_); rintro e w2 ⟨rfl, hb2⟩))
    go_ret
    refine ⟨ret_bool Hres.out.symm, ?_⟩
    first | exact hb | exact hc1 | exact Chain.up hc1 hb2 | exact Chain.up hb hb2
  subst hdn
  cases crb with
  | false =>
    have Hres := Lib.hid (show res = false by rw [HR.out]; simp [*])
    clear HR
    go_enter Tryd.func17, Tryd.ntmps17
    go_wp2_with (first
      | (go_at_call 26; (with_reducible refine (HP.out _).mono ?_); rintro e w1 ⟨rfl, hb1⟩; have hx1 := hx.up hb1; obtain ⟨r0, r1, r2, r3, r4, r5, r6⟩ := hx1.seven; have hc1 := Chain.up hb hb1)
      | (go_at_call 27; (refine (HC.out _ hb).mono ?_); rintro e w2 ⟨rfl, hb2⟩))
    go_ret
    refine ⟨ret_bool Hres.out.symm, ?_⟩
    first | exact hb | exact hc1 | exact Chain.up hc1 hb2 | exact Chain.up hb hb2
  | true =>
    have Hres := Lib.hid (show res = true by rw [HR.out]; simp [*])
    clear HR
    go_enter Tryd.func17, Tryd.ntmps17
    go_wp2_with (first
      | (go_at_call 26; (with_reducible refine (HP.out _).mono ?_); rintro e w1 ⟨rfl, hb1⟩; have hx1 := hx.up hb1; obtain ⟨r0, r1, r2, r3, r4, r5, r6⟩ := hx1.seven; have hc1 := Chain.up hb hb1)
      | (go_at_call 27; (refine (HC.out _ hb).mono ?_); rintro e w2 ⟨rfl, hb2⟩))
    go_ret
    refine ⟨ret_bool Hres.out.symm, ?_⟩
    first | exact hb | exact hc1 | exact Chain.up hc1 hb2 | exact Chain.up hb hb2
set_option maxRecDepth 100000 in
set_option maxHeartbeats 8000000 in
theorem refRight_7 (x : P.Ac) (hkind : x.kind = 7) (da a b : Option Addr) (dn dc k kc m mc : Nat) (hd : dn = x.draws.length) (hk : k = x.cr.keep.length) (hm : m = x.cr.spoil.length) (w : World) (hp : CrAt w a b x.cr) :
    Calls Tryd.prog 17 #[acV x.kind x.n x.text da dn dc x.cr.names a k kc b m mc] w fun e w' => e = .returned (.bool (P.rightB x)) ∧ Below w.heap.size w w' := by
  have HC := Lib.hid (fun wx (hx : Below w.heap.size w wx) => refSmall_any x.cr a b k kc m mc hk hm wx (hp.up hx))
  have HP := Lib.hid (fun wx => refPlain_any x.cr.names a b k kc m mc wx)
  have HR := Lib.hid (show P.rightB x = (decide (1 ≤ x.kind ∧ x.kind ≤ 7) && decide (x.text.length ≤ 65536) && decide (dn ≤ 255) && P.crB x.cr && (decide (x.kind = 1) || decide (x.text.length = 0)) && (decide (x.kind = 2) || decide (x.kind = 6) || decide (x.n = 0)) && (decide (x.kind = 5) || decide (dn = 0)) && (decide (6 ≤ x.kind) || (decide (x.cr.names = 0) && decide (k = 0) && decide (m = 0)))) from by rw [hd, hk, hm]; rfl)
  clear hp hd hk hm
  obtain ⟨kind, n, text, draws, names, keep, spoil⟩ := x
  simp only at HC HP HR ⊢
  generalize P.rightB ⟨kind, n, text, draws, names, keep, spoil⟩ = res at *
  generalize P.crB ⟨names, keep, spoil⟩ = crb at *
  generalize (decide (names = 0) && decide (k = 0) && decide (m = 0)) = plb at *
  have hx := Bx.fresh w 32 #[.int .u8 kind, V64 n, S text, .slice da dn dc, .int .i64 names, .slice a k kc, .slice b m mc]
  have hb : Below w.heap.size w (w.alloc (.cells #[.int .u8 kind, V64 n, S text, .slice da dn dc, .int .i64 names, .slice a k kc, .slice b m mc] 32)) := (Below.refl _ _).alloc (Nat.le_refl _) _
  obtain rfl : kind = 7 := hkind
  rcases text with _ | ⟨tc, tt⟩
  case cons =>
    have Hres := Lib.hid (show res = false by rw [HR.out]; simp [*])
    clear HR
    go_enter Tryd.func17, Tryd.ntmps17
    go_wp2_with (first
      | (go_at_call 26; (with_reducible refine (HP.out _).mono ?_); rintro e w1 ⟨rfl, hb1⟩; have hx1 := hx.up hb1; obtain ⟨r0, r1, r2, r3, r4, r5, r6⟩ := hx1.seven; have hc1 := Chain.up hb hb1)
      | (go_at_call 27; (refine (HC.out _ hb).mono ?_); rintro e w2 ⟨rfl, hb2⟩))
    go_ret
    refine ⟨ret_bool Hres.out.symm, ?_⟩
    first | exact hb | exact hc1 | exact Chain.up hc1 hb2 | exact Chain.up hb hb2
  by_cases hn : n = 0
  case neg =>
    have hn1 : ((n : Int) != 0) = true := by simpa using hn
    have Hres := Lib.hid (show res = false by rw [HR.out]; simp [*])
    clear HR
    go_enter Tryd.func17, Tryd.ntmps17
    go_wp2_with (first
      | (go_at_call 26; (with_reducible refine (HP.out _).mono ?_); rintro e w1 ⟨rfl, hb1⟩; have hx1 := hx.up hb1; obtain ⟨r0, r1, r2, r3, r4, r5, r6⟩ := hx1.seven; have hc1 := Chain.up hb hb1)
      | (go_at_call 27; (refine (HC.out _ hb).mono ?_); rintro e w2 ⟨rfl, hb2⟩))
    go_ret
    refine ⟨ret_bool Hres.out.symm, ?_⟩
    first | exact hb | exact hc1 | exact Chain.up hc1 hb2 | exact Chain.up hb hb2
  subst hn
  by_cases hdn : dn = 0
  case neg =>
    have hdn1 : 0 < dn := by omega
    have Hres := Lib.hid (show res = false by rw [HR.out]; simp [*])
    clear HR
    go_enter Tryd.func17, Tryd.ntmps17
    go_wp2_with (first
      | (go_at_call 26; (with_reducible refine (HP.out _).mono ?_); rintro e w1 ⟨rfl, hb1⟩; have hx1 := hx.up hb1; obtain ⟨r0, r1, r2, r3, r4, r5, r6⟩ := hx1.seven; have hc1 := Chain.up hb hb1)
      | (go_at_call 27; (refine (HC.out _ hb).mono ?_); rintro e w2 ⟨rfl, hb2⟩))
    go_ret
    refine ⟨ret_bool Hres.out.symm, ?_⟩
    first | exact hb | exact hc1 | exact Chain.up hc1 hb2 | exact Chain.up hb hb2
  subst hdn
  cases crb with
  | false =>
    have Hres := Lib.hid (show res = false by rw [HR.out]; simp [*])
    clear HR
    go_enter Tryd.func17, Tryd.ntmps17
    go_wp2_with (first
      | (go_at_call 26; (with_reducible refine (HP.out _).mono ?_); rintro e w1 ⟨rfl, hb1⟩; have hx1 := hx.up hb1; obtain ⟨r0, r1, r2, r3, r4, r5, r6⟩ := hx1.seven; have hc1 := Chain.up hb hb1)
      | (go_at_call 27; (refine (HC.out _ hb).mono ?_); rintro e w2 ⟨rfl, hb2⟩))
    go_ret
    refine ⟨ret_bool Hres.out.symm, ?_⟩
    first | exact hb | exact hc1 | exact Chain.up hc1 hb2 | exact Chain.up hb hb2
  | true =>
    have Hres := Lib.hid (show res = true by rw [HR.out]; simp [*])
    clear HR
    go_enter Tryd.func17, Tryd.ntmps17
    go_wp2_with (first
      | (go_at_call 26; (with_reducible refine (HP.out _).mono ?_); rintro e w1 ⟨rfl, hb1⟩; have hx1 := hx.up hb1; obtain ⟨r0, r1, r2, r3, r4, r5, r6⟩ := hx1.seven; have hc1 := Chain.up hb hb1)
      | (go_at_call 27; (refine (HC.out _ hb).mono ?_); rintro e w2 ⟨rfl, hb2⟩))
    go_ret
    refine ⟨ret_bool Hres.out.symm, ?_⟩
    first | exact hb | exact hc1 | exact Chain.up hc1 hb2 | exact Chain.up hb hb2
theorem refRight_any (x : P.Ac) (da a b : Option Addr) (dn dc k kc m mc : Nat) (hd : dn = x.draws.length) (hk : k = x.cr.keep.length) (hm : m = x.cr.spoil.length) (w : World) (hp : CrAt w a b x.cr) :
    Calls Tryd.prog 17 #[acV x.kind x.n x.text da dn dc x.cr.names a k kc b m mc] w fun e w' => e = .returned (.bool (P.rightB x)) ∧ Below w.heap.size w w' := by
  by_cases h1 : x.kind = 1
  · exact refRight_1 x h1 da a b dn dc k kc m mc hd hk hm w hp
  by_cases h2 : x.kind = 2
  · exact refRight_2 x h2 da a b dn dc k kc m mc hd hk hm w hp
  by_cases h3 : x.kind = 3
  · exact refRight_3 x h3 da a b dn dc k kc m mc hd hk hm w hp
  by_cases h4 : x.kind = 4
  · exact refRight_4 x h4 da a b dn dc k kc m mc hd hk hm w hp
  by_cases h5 : x.kind = 5
  · exact refRight_5 x h5 da a b dn dc k kc m mc hd hk hm w hp
  by_cases h6 : x.kind = 6
  · exact refRight_6 x h6 da a b dn dc k kc m mc hd hk hm w hp
  by_cases h7 : x.kind = 7
  · exact refRight_7 x h7 da a b dn dc k kc m mc hd hk hm w hp
  exact refRight_no x (by omega) da a b dn dc k kc m mc hd hk hm w hp
end Go.Proofs.YtnflbgindcejjaaDoor
