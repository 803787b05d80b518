/- ipam.Right, plain; ipam.name -/
import Derived.Test.YtcobfoiajdbahaaDoorWQEq
import Derived.Test.YtcobfoiajdbahaaDoorWQWr
import Derived.Test.YtcobfoiajdbahaaDoorWBaseQ
import Derived.Deep.DeepCutAuto
namespace Go.Proofs.YtcobfoiajdbahaaDoor
open Go.RowKit
set_option linter.unusedVariables false
set_option linter.unusedSimpArgs false
theorem right_op1 (x : P.Ca) (h : x.op = 1) : P.rightC x = (P.pxOk x.p && P.eqI [0, 0, 0, 0, 0, 0, 0, (x.a.fam : Int), (x.a.hi : Int), (x.a.lo : Int), (x.d : Int), (x.fr : Int), x.n] [0, 0, 0, 0, 0, 0, 0, 0, 0, 0, 0, 0, 0] [x.owner, x.to] [[], []]) := by
  obtain ⟨op, cl, nu, ⟨⟨pf, ph, pl⟩, pb⟩, ⟨af, ah, al⟩, ow, tt, d, fr, n⟩ := x
  simp only at h
  subst h
  rw [Bool.eq_iff_iff]
  simp [P.rightC, P.knownB, P.fRight, show P.use 1 0 = true from rfl, show P.use 1 1 = false from rfl, show P.use 1 2 = false from rfl, show P.use 1 3 = false from rfl, show P.use 1 4 = false from rfl, show P.use 1 5 = false from rfl, show P.use 1 6 = false from rfl, show List.range 7 = [0, 1, 2, 3, 4, 5, 6] from rfl, P.fOk, P.fZero, P.eqI, P.noX, P.noA]
  try (intros; constructor <;> (intro h; simp [h]))
theorem right_op2 (x : P.Ca) (h : x.op = 2) : P.rightC x = (P.pxOk x.p && P.eqI [0, 0, 0, 0, 0, 0, 0, (x.a.fam : Int), (x.a.hi : Int), (x.a.lo : Int), (x.d : Int), (x.fr : Int), x.n] [0, 0, 0, 0, 0, 0, 0, 0, 0, 0, 0, 0, 0] [x.owner, x.to] [[], []]) := by
  obtain ⟨op, cl, nu, ⟨⟨pf, ph, pl⟩, pb⟩, ⟨af, ah, al⟩, ow, tt, d, fr, n⟩ := x
  simp only at h
  subst h
  rw [Bool.eq_iff_iff]
  simp [P.rightC, P.knownB, P.fRight, show P.use 2 0 = true from rfl, show P.use 2 1 = false from rfl, show P.use 2 2 = false from rfl, show P.use 2 3 = false from rfl, show P.use 2 4 = false from rfl, show P.use 2 5 = false from rfl, show P.use 2 6 = false from rfl, show List.range 7 = [0, 1, 2, 3, 4, 5, 6] from rfl, P.fOk, P.fZero, P.eqI, P.noX, P.noA]
  try (intros; constructor <;> (intro h; simp [h]))
theorem right_op3 (x : P.Ca) (h : x.op = 3) : P.rightC x = (P.pxOk x.p && P.eqI [0, 0, 0, 0, 0, 0, 0, (x.a.fam : Int), (x.a.hi : Int), (x.a.lo : Int), (x.d : Int), (x.fr : Int), x.n] [0, 0, 0, 0, 0, 0, 0, 0, 0, 0, 0, 0, 0] [x.owner, x.to] [[], []]) := by
  obtain ⟨op, cl, nu, ⟨⟨pf, ph, pl⟩, pb⟩, ⟨af, ah, al⟩, ow, tt, d, fr, n⟩ := x
  simp only at h
  subst h
  rw [Bool.eq_iff_iff]
  simp [P.rightC, P.knownB, P.fRight, show P.use 3 0 = true from rfl, show P.use 3 1 = false from rfl, show P.use 3 2 = false from rfl, show P.use 3 3 = false from rfl, show P.use 3 4 = false from rfl, show P.use 3 5 = false from rfl, show P.use 3 6 = false from rfl, show List.range 7 = [0, 1, 2, 3, 4, 5, 6] from rfl, P.fOk, P.fZero, P.eqI, P.noX, P.noA]
  try (intros; constructor <;> (intro h; simp [h]))
theorem right_op4 (x : P.Ca) (h : x.op = 4) : P.rightC x = (P.pxOk x.p && P.eqI [0, 0, 0, 0, 0, 0, 0, (x.a.fam : Int), (x.a.hi : Int), (x.a.lo : Int), (x.d : Int), (x.fr : Int), x.n] [0, 0, 0, 0, 0, 0, 0, 0, 0, 0, 0, 0, 0] [x.owner, x.to] [[], []]) := by
  obtain ⟨op, cl, nu, ⟨⟨pf, ph, pl⟩, pb⟩, ⟨af, ah, al⟩, ow, tt, d, fr, n⟩ := x
  simp only at h
  subst h
  rw [Bool.eq_iff_iff]
  simp [P.rightC, P.knownB, P.fRight, show P.use 4 0 = true from rfl, show P.use 4 1 = false from rfl, show P.use 4 2 = false from rfl, show P.use 4 3 = false from rfl, show P.use 4 4 = false from rfl, show P.use 4 5 = false from rfl, show P.use 4 6 = false from rfl, show List.range 7 = [0, 1, 2, 3, 4, 5, 6] from rfl, P.fOk, P.fZero, P.eqI, P.noX, P.noA]
  try (intros; constructor <;> (intro h; simp [h]))
theorem right_op5 (x : P.Ca) (h : x.op = 5) : P.rightC x = ((P.adOk x.a && (P.nameOk x.owner && decide (1 ≤ x.d))) && P.eqI [0, 0, 0, (x.p.a.fam : Int), (x.p.a.hi : Int), (x.p.a.lo : Int), x.p.bits, 0, 0, 0, 0, (x.fr : Int), x.n] [0, 0, 0, 0, 0, 0, 0, 0, 0, 0, 0, 0, 0] [[], x.to] [[], []]) := by
  obtain ⟨op, cl, nu, ⟨⟨pf, ph, pl⟩, pb⟩, ⟨af, ah, al⟩, ow, tt, d, fr, n⟩ := x
  simp only at h
  subst h
  rw [Bool.eq_iff_iff]
  simp [P.rightC, P.knownB, P.fRight, show P.use 5 0 = false from rfl, show P.use 5 1 = true from rfl, show P.use 5 2 = true from rfl, show P.use 5 3 = false from rfl, show P.use 5 4 = true from rfl, show P.use 5 5 = false from rfl, show P.use 5 6 = false from rfl, show List.range 7 = [0, 1, 2, 3, 4, 5, 6] from rfl, P.fOk, P.fZero, P.eqI, P.noX, P.noA]
  try (intros; constructor <;> (intro h; simp [h]))
theorem right_op6 (x : P.Ca) (h : x.op = 6) : P.rightC x = ((P.pxOk x.p && (P.nameOk x.owner && decide (1 ≤ x.d))) && P.eqI [0, 0, 0, 0, 0, 0, 0, (x.a.fam : Int), (x.a.hi : Int), (x.a.lo : Int), 0, (x.fr : Int), x.n] [0, 0, 0, 0, 0, 0, 0, 0, 0, 0, 0, 0, 0] [[], x.to] [[], []]) := by
  obtain ⟨op, cl, nu, ⟨⟨pf, ph, pl⟩, pb⟩, ⟨af, ah, al⟩, ow, tt, d, fr, n⟩ := x
  simp only at h
  subst h
  rw [Bool.eq_iff_iff]
  simp [P.rightC, P.knownB, P.fRight, show P.use 6 0 = true from rfl, show P.use 6 1 = false from rfl, show P.use 6 2 = true from rfl, show P.use 6 3 = false from rfl, show P.use 6 4 = true from rfl, show P.use 6 5 = false from rfl, show P.use 6 6 = false from rfl, show List.range 7 = [0, 1, 2, 3, 4, 5, 6] from rfl, P.fOk, P.fZero, P.eqI, P.noX, P.noA]
  try (intros; constructor <;> (intro h; simp [h]))
theorem right_op7 (x : P.Ca) (h : x.op = 7) : P.rightC x = ((P.adOk x.a && (P.nameOk x.owner && decide (1 ≤ x.d))) && P.eqI [0, 0, 0, (x.p.a.fam : Int), (x.p.a.hi : Int), (x.p.a.lo : Int), x.p.bits, 0, 0, 0, 0, (x.fr : Int), x.n] [0, 0, 0, 0, 0, 0, 0, 0, 0, 0, 0, 0, 0] [[], x.to] [[], []]) := by
  obtain ⟨op, cl, nu, ⟨⟨pf, ph, pl⟩, pb⟩, ⟨af, ah, al⟩, ow, tt, d, fr, n⟩ := x
  simp only at h
  subst h
  rw [Bool.eq_iff_iff]
  simp [P.rightC, P.knownB, P.fRight, show P.use 7 0 = false from rfl, show P.use 7 1 = true from rfl, show P.use 7 2 = true from rfl, show P.use 7 3 = false from rfl, show P.use 7 4 = true from rfl, show P.use 7 5 = false from rfl, show P.use 7 6 = false from rfl, show List.range 7 = [0, 1, 2, 3, 4, 5, 6] from rfl, P.fOk, P.fZero, P.eqI, P.noX, P.noA]
  try (intros; constructor <;> (intro h; simp [h]))
theorem right_op8 (x : P.Ca) (h : x.op = 8) : P.rightC x = ((P.adOk x.a && P.nameOk x.owner) && P.eqI [0, 0, 0, (x.p.a.fam : Int), (x.p.a.hi : Int), (x.p.a.lo : Int), x.p.bits, 0, 0, 0, (x.d : Int), (x.fr : Int), x.n] [0, 0, 0, 0, 0, 0, 0, 0, 0, 0, 0, 0, 0] [[], x.to] [[], []]) := by
  obtain ⟨op, cl, nu, ⟨⟨pf, ph, pl⟩, pb⟩, ⟨af, ah, al⟩, ow, tt, d, fr, n⟩ := x
  simp only at h
  subst h
  rw [Bool.eq_iff_iff]
  simp [P.rightC, P.knownB, P.fRight, show P.use 8 0 = false from rfl, show P.use 8 1 = true from rfl, show P.use 8 2 = true from rfl, show P.use 8 3 = false from rfl, show P.use 8 4 = false from rfl, show P.use 8 5 = false from rfl, show P.use 8 6 = false from rfl, show List.range 7 = [0, 1, 2, 3, 4, 5, 6] from rfl, P.fOk, P.fZero, P.eqI, P.noX, P.noA]
  try (intros; constructor <;> (intro h; simp [h]))
theorem right_op9 (x : P.Ca) (h : x.op = 9) : P.rightC x = ((P.adOk x.a && (P.nameOk x.owner && P.nameOk x.to)) && P.eqI [0, 0, 0, (x.p.a.fam : Int), (x.p.a.hi : Int), (x.p.a.lo : Int), x.p.bits, 0, 0, 0, (x.d : Int), (x.fr : Int), x.n] [0, 0, 0, 0, 0, 0, 0, 0, 0, 0, 0, 0, 0] [[], []] [[], []]) := by
  obtain ⟨op, cl, nu, ⟨⟨pf, ph, pl⟩, pb⟩, ⟨af, ah, al⟩, ow, tt, d, fr, n⟩ := x
  simp only at h
  subst h
  rw [Bool.eq_iff_iff]
  simp [P.rightC, P.knownB, P.fRight, show P.use 9 0 = false from rfl, show P.use 9 1 = true from rfl, show P.use 9 2 = true from rfl, show P.use 9 3 = true from rfl, show P.use 9 4 = false from rfl, show P.use 9 5 = false from rfl, show P.use 9 6 = false from rfl, show List.range 7 = [0, 1, 2, 3, 4, 5, 6] from rfl, P.fOk, P.fZero, P.eqI, P.noX, P.noA]
  try (intros; constructor <;> (intro h; simp [h]))
theorem right_op10 (x : P.Ca) (h : x.op = 10) : P.rightC x = (P.adOk x.a && P.eqI [0, 0, 0, (x.p.a.fam : Int), (x.p.a.hi : Int), (x.p.a.lo : Int), x.p.bits, 0, 0, 0, (x.d : Int), (x.fr : Int), x.n] [0, 0, 0, 0, 0, 0, 0, 0, 0, 0, 0, 0, 0] [x.owner, x.to] [[], []]) := by
  obtain ⟨op, cl, nu, ⟨⟨pf, ph, pl⟩, pb⟩, ⟨af, ah, al⟩, ow, tt, d, fr, n⟩ := x
  simp only at h
  subst h
  rw [Bool.eq_iff_iff]
  simp [P.rightC, P.knownB, P.fRight, show P.use 10 0 = false from rfl, show P.use 10 1 = true from rfl, show P.use 10 2 = false from rfl, show P.use 10 3 = false from rfl, show P.use 10 4 = false from rfl, show P.use 10 5 = false from rfl, show P.use 10 6 = false from rfl, show List.range 7 = [0, 1, 2, 3, 4, 5, 6] from rfl, P.fOk, P.fZero, P.eqI, P.noX, P.noA]
  try (intros; constructor <;> (intro h; simp [h]))
theorem right_op11 (x : P.Ca) (h : x.op = 11) : P.rightC x = ((P.pxOk x.p && (P.adOk x.a && (decide (1 ≤ x.n ∧ x.n ≤ 16) && decide (x.a.fam = x.p.a.fam)))) && P.eqI [0, 0, 0, 0, 0, 0, 0, 0, 0, 0, (x.d : Int), (x.fr : Int), 0] [0, 0, 0, 0, 0, 0, 0, 0, 0, 0, 0, 0, 0] [x.owner, x.to] [[], []]) := by
  obtain ⟨op, cl, nu, ⟨⟨pf, ph, pl⟩, pb⟩, ⟨af, ah, al⟩, ow, tt, d, fr, n⟩ := x
  simp only at h
  subst h
  rw [Bool.eq_iff_iff]
  simp [P.rightC, P.knownB, P.fRight, show P.use 11 0 = true from rfl, show P.use 11 1 = true from rfl, show P.use 11 2 = false from rfl, show P.use 11 3 = false from rfl, show P.use 11 4 = false from rfl, show P.use 11 5 = false from rfl, show P.use 11 6 = true from rfl, show List.range 7 = [0, 1, 2, 3, 4, 5, 6] from rfl, P.fOk, P.fZero, P.eqI, P.noX, P.noA]
  constructor
  · rintro ⟨⟨h1, h2, h3, h4, h5, h6, h7, h8⟩, h9⟩
    subst h9
    simp [*]
  · rintro ⟨⟨h1, h2, ⟨h3, h4⟩, h5⟩, ⟨h6, h7⟩, h8, h9⟩
    subst h5
    simp [*]
theorem right_op12 (x : P.Ca) (h : x.op = 12) : P.rightC x = ((P.adOk x.a && decide (1 ≤ x.n ∧ x.n ≤ 16)) && P.eqI [0, 0, 0, (x.p.a.fam : Int), (x.p.a.hi : Int), (x.p.a.lo : Int), x.p.bits, 0, 0, 0, (x.d : Int), 0, 0] [0, 0, 0, 0, 0, 0, 0, 0, 0, 0, 0, 0, 0] [x.owner, x.to] [[], []]) := by
  obtain ⟨op, cl, nu, ⟨⟨pf, ph, pl⟩, pb⟩, ⟨af, ah, al⟩, ow, tt, d, fr, n⟩ := x
  simp only at h
  subst h
  rw [Bool.eq_iff_iff]
  simp [P.rightC, P.knownB, P.fRight, show P.use 12 0 = false from rfl, show P.use 12 1 = true from rfl, show P.use 12 2 = false from rfl, show P.use 12 3 = false from rfl, show P.use 12 4 = false from rfl, show P.use 12 5 = true from rfl, show P.use 12 6 = true from rfl, show List.range 7 = [0, 1, 2, 3, 4, 5, 6] from rfl, P.fOk, P.fZero, P.eqI, P.noX, P.noA]
  try (intros; constructor <;> (intro h; simp [h]))
theorem right_op13 (x : P.Ca) (h : x.op = 13) : P.rightC x = ((P.pxOk x.p && decide (1 ≤ x.n ∧ x.n ≤ 16)) && P.eqI [0, 0, 0, 0, 0, 0, 0, (x.a.fam : Int), (x.a.hi : Int), (x.a.lo : Int), (x.d : Int), (x.fr : Int), 0] [0, 0, 0, 0, 0, 0, 0, 0, 0, 0, 0, 0, 0] [x.owner, x.to] [[], []]) := by
  obtain ⟨op, cl, nu, ⟨⟨pf, ph, pl⟩, pb⟩, ⟨af, ah, al⟩, ow, tt, d, fr, n⟩ := x
  simp only at h
  subst h
  rw [Bool.eq_iff_iff]
  simp [P.rightC, P.knownB, P.fRight, show P.use 13 0 = true from rfl, show P.use 13 1 = false from rfl, show P.use 13 2 = false from rfl, show P.use 13 3 = false from rfl, show P.use 13 4 = false from rfl, show P.use 13 5 = false from rfl, show P.use 13 6 = true from rfl, show List.range 7 = [0, 1, 2, 3, 4, 5, 6] from rfl, P.fOk, P.fZero, P.eqI, P.noX, P.noA]
  try (intros; constructor <;> (intro h; simp [h]))
theorem right_op14 (x : P.Ca) (h : x.op = 14) : P.rightC x = ((P.pxOk x.p && decide (1 ≤ x.n ∧ x.n ≤ 16)) && P.eqI [0, 0, 0, 0, 0, 0, 0, (x.a.fam : Int), (x.a.hi : Int), (x.a.lo : Int), (x.d : Int), (x.fr : Int), 0] [0, 0, 0, 0, 0, 0, 0, 0, 0, 0, 0, 0, 0] [x.owner, x.to] [[], []]) := by
  obtain ⟨op, cl, nu, ⟨⟨pf, ph, pl⟩, pb⟩, ⟨af, ah, al⟩, ow, tt, d, fr, n⟩ := x
  simp only at h
  subst h
  rw [Bool.eq_iff_iff]
  simp [P.rightC, P.knownB, P.fRight, show P.use 14 0 = true from rfl, show P.use 14 1 = false from rfl, show P.use 14 2 = false from rfl, show P.use 14 3 = false from rfl, show P.use 14 4 = false from rfl, show P.use 14 5 = false from rfl, show P.use 14 6 = true from rfl, show List.range 7 = [0, 1, 2, 3, 4, 5, 6] from rfl, P.fOk, P.fZero, P.eqI, P.noX, P.noA]
  try (intros; constructor <;> (intro h; simp [h]))
theorem right_op15 (x : P.Ca) (h : x.op = 15) : P.rightC x = (true && P.eqI [0, 0, 0, (x.p.a.fam : Int), (x.p.a.hi : Int), (x.p.a.lo : Int), x.p.bits, (x.a.fam : Int), (x.a.hi : Int), (x.a.lo : Int), (x.d : Int), (x.fr : Int), x.n] [0, 0, 0, 0, 0, 0, 0, 0, 0, 0, 0, 0, 0] [x.owner, x.to] [[], []]) := by
  obtain ⟨op, cl, nu, ⟨⟨pf, ph, pl⟩, pb⟩, ⟨af, ah, al⟩, ow, tt, d, fr, n⟩ := x
  simp only at h
  subst h
  rw [Bool.eq_iff_iff]
  simp [P.rightC, P.knownB, P.fRight, show P.use 15 0 = false from rfl, show P.use 15 1 = false from rfl, show P.use 15 2 = false from rfl, show P.use 15 3 = false from rfl, show P.use 15 4 = false from rfl, show P.use 15 5 = false from rfl, show P.use 15 6 = false from rfl, show List.range 7 = [0, 1, 2, 3, 4, 5, 6] from rfl, P.fOk, P.fZero, P.eqI, P.noX, P.noA]
  try (intros; constructor <;> (intro h; simp [h]))
theorem right_other (x : P.Ca) (h : ¬ (1 ≤ x.op ∧ x.op ≤ 15)) : P.rightC x = false := by
  unfold P.rightC P.knownB
  rw [decide_eq_false h]
  rfl
set_option maxRecDepth 100000 in
theorem name_any (s : List UInt8) (hs : s.length ≤ 1000000000) (w : World) :
    Calls Tryd.prog 71 #[S s] w fun e w' => e = .returned (.bool (P.nameOk s)) ∧ Below w.heap.size w w' := by
  cases s with
  | nil =>
    go_enter Tryd.func71, Tryd.ntmps71
    go_wp2_with fail
    go_ret
    exact ⟨rfl, Below.refl _ _⟩
  | cons c t =>
    have hl : 1 ≤ (c :: t).length := by simp
    have Hr := Lib.hid (show P.nameOk (c :: t) = decide (((c :: t).length : Int) ≤ 32) by unfold P.nameOk; rw [decide_eq_decide]; omega)
    have he : (c :: t).isEmpty = false := rfl
    generalize c :: t = s at *
    go_enter Tryd.func71, Tryd.ntmps71
    go_wp2_with fail
    all_goals (go_ret; exact ⟨by rw [Hr.out]; rfl, Below.refl _ _⟩)
/-- The code behind so many parts of a row. -/
def afterSeq : Nat → Code → Code
  | 0, c => c
  | n + 1, .seq _ b => afterSeq n b
  | _, c => c
noncomputable def restR : Code := afterSeq 4 ((Tryd.f27.body).getD .skip)
end Go.Proofs.YtcobfoiajdbahaaDoor
