/- Laws for the walks: a region that draws its order, by an invariant: what each operation leaves in its slot is said once for each operation, whatever stands listed before it. -/
import Derived.WalkKit
import Derived.OrdersHeld
import Derived.Deep.RegionHeld
namespace Go.Proofs.Ytoaecmaphpnolaa
open Go.RowKit

section
variable {P : Program} {ops : Array Oper} {Q : Exit → Act → World → Prop}

/-- The state in which each slot of the list holds a value of its own. -/
def fillA : List (Nat × Option Tmp) → (Nat → Value) → Act → Act
  | [], _, a => a
  | p :: r, v, a => fillA r v (a.put p.2 (v p.1))
def updV (v : Nat → Value) (i : Nat) (x : Value) : Nat → Value := fun j => if j = i then x else v j
/-- Numbers and slots of the list are all different. -/
def sepR : List (Nat × Option Tmp) → Bool
  | [] => true
  | p :: r => r.all (fun q => q.1 != p.1 && (p.2.isNone || q.2 != p.2)) && sepR r

theorem put_put (a : Act) (d : Option Tmp) (u v : Value) : (a.put d u).put d v = a.put d v := by
  cases d with
  | none => rfl
  | some d => simp [Act.put]
theorem fillA_out (r : List (Nat × Option Tmp)) (v : Nat → Value) (d : Option Tmp) (x : Value) (h : ∀ q ∈ r, d.isNone = true ∨ q.2 ≠ d) : ∀ a : Act, (fillA r v a).put d x = fillA r v (a.put d x) := by
  induction r with
  | nil => intro a; rfl
  | cons p r ih =>
    intro a
    show (fillA r v (a.put p.2 (v p.1))).put d x = fillA r v ((a.put d x).put p.2 (v p.1))
    rw [ih (fun q hq => h q (List.mem_cons_of_mem _ hq))]
    congr 1
    rcases h p (List.mem_cons_self ..) with hd | hd
    · cases d with
      | none => rfl
      | some d => cases hd
    · exact Act.put_comm a _ _ (fun t ht he => hd (by rw [ht, he]))
theorem fillA_congr (r : List (Nat × Option Tmp)) (u v : Nat → Value) (h : ∀ q ∈ r, u q.1 = v q.1) : ∀ a : Act, fillA r u a = fillA r v a := by
  induction r with
  | nil => intro a; rfl
  | cons p r ih =>
    intro a
    show fillA r u (a.put p.2 (u p.1)) = fillA r v (a.put p.2 (v p.1))
    rw [ih (fun q hq => h q (List.mem_cons_of_mem _ hq)), h p (List.mem_cons_self ..)]
theorem fillA_put (r : List (Nat × Option Tmp)) (v : Nat → Value) (x : Value) (p : Nat × Option Tmp) (hs : sepR r = true) (hm : p ∈ r) : ∀ a : Act, (fillA r v a).put p.2 x = fillA r (updV v p.1 x) a := by
  induction r with
  | nil => cases hm
  | cons q r ih =>
    intro a
    simp only [sepR, Bool.and_eq_true, List.all_eq_true] at hs
    show (fillA r v (a.put q.2 (v q.1))).put p.2 x = fillA r (updV v p.1 x) (a.put q.2 (updV v p.1 x q.1))
    rcases List.mem_cons.1 hm with rfl | hm
    · rw [fillA_out r v p.2 x (fun q hq => by have := hs.1 q hq; simp at this; exact this.2.imp (fun h => by rw [h]; rfl) id), put_put]
      have : updV v p.1 x p.1 = x := by simp [updV]
      rw [this]
      exact fillA_congr r _ _ (fun q hq => by have := (hs.1 q hq).1; simp only [updV]; rw [if_neg (by intro h; rw [h] at this; simp at this)]) _
    · have hne : q.1 ≠ p.1 := fun h => by have := (hs.1 p hm).1; rw [h] at this; simp at this
      rw [ih hs.2 hm]
      congr 2
      simp [updV, hne]

/-- The operations that number i waits for. -/
def needsB (ops : Array Oper) (i j : Nat) : Bool := ((ops[i]?).map (·.after.any fun e => e.on == j && Region.binds .any e)).getD false
/-- Each operation waits for earlier ones alone. -/
def forwardB (ops : Array Oper) : Bool := (List.range ops.size).all fun i => ((ops[i]?).map (·.after.all fun e => decide (e.on < i))).getD true
def unlisted (ops : Array Oper) (listed : Array Bool) : Nat := (List.range ops.size).countP fun i => !listed.getD i true

theorem countP_lt {l : List Nat} {p q : Nat → Bool} (h : ∀ x, q x = true → p x = true) (y : Nat) (hy : y ∈ l) (hp : p y = true) (hq : q y = false) : l.countP q < l.countP p := by
  induction l with
  | nil => cases hy
  | cons x l ih =>
    have hle : l.countP q ≤ l.countP p := List.countP_mono_left (fun x _ => h x)
    rcases List.mem_cons.1 hy with rfl | hy
    · rw [List.countP_cons_of_neg (by rw [hq]; exact Bool.false_ne_true), List.countP_cons_of_pos hp]; omega
    · have := ih hy
      cases hx : q x with
      | true => rw [List.countP_cons_of_pos hx, List.countP_cons_of_pos (h x hx)]; omega
      | false =>
        rw [List.countP_cons_of_neg (by rw [hx]; exact Bool.false_ne_true)]
        cases hx' : p x with
        | true => rw [List.countP_cons_of_pos hx']; omega
        | false => rw [List.countP_cons_of_neg (by rw [hx']; exact Bool.false_ne_true)]; exact this

/-- What one operation must do: from every state in which what it waits for is as it was said. -/
def StepI (P : Program) (ops : Array Oper) (Q : Exit → Act → World → Prop) (R : Nat → Value → World → Prop) (S : World → Prop) (Le : World → World → Prop) (rem : List (Nat × Option Tmp)) (a0 : Act) (i : Nat) (o : Oper) : Prop :=
  ∀ (vals : Nat → Value) (w : World), S w → (∀ j d, (j, d) ∈ rem → needsB ops i j = true → R j (vals j) w) →
    ∀ K : Act → World → Prop, Shut (∀ v w', R i v w' → S w' → Le w w' → K ((fillA rem vals a0).put o.dst v) w') →
      if Region.wanted o (yielded ops (fillA rem vals a0).tmps) = true then Oper.wp P o (fillA rem vals a0) w K Q else K ((fillA rem vals a0).put o.dst undef) w

theorem all_listed {listed : Array Bool} (hf : forwardB ops = true) (hr : Region.ready .any ops listed = []) : ∀ n i, i < n → i < ops.size → listed.getD i true = true := by
  intro n
  induction n with
  | zero => intro i h; omega
  | succ n ih =>
    intro i h hi
    cases hl : listed.getD i true with
    | true => rfl
    | false =>
      exfalso
      have hm : i ∈ Region.ready .any ops listed := by
        rw [mem_ready]
        refine ⟨hl, ops[i], Array.getElem?_eq_getElem hi, fun e he _ => ?_⟩
        have h1 := (List.all_eq_true.1 hf) i (List.mem_range.2 hi)
        rw [Array.getElem?_eq_getElem hi] at h1
        have h2 := (Array.all_eq_true'.1 h1) e he
        have h3 : e.on < i := by simpa using h2
        have h4 := ih e.on (by omega) (by omega)
        have h5 : i < listed.size := by
          rcases Nat.lt_or_ge i listed.size with h | h
          · exact h
          · rw [Array.getD_eq_getD_getElem?, Array.getElem?_eq_none h] at hl; cases hl
        rw [Array.getD_eq_getD_getElem?, Array.getElem?_eq_getElem (by omega)] at h4 ⊢
        exact h4
      rw [hr] at hm
      cases hm

theorem wpAny_inv (R : Nat → Value → World → Prop) (S : World → Prop) (Le : World → World → Prop) (rem : List (Nat × Option Tmp)) (a0 : Act)
    (hsep : sepR rem = true) (hf : forwardB ops = true) (hdst : ∀ p ∈ rem, (ops[p.1]?).map (·.dst) = some p.2)
    (hstab : ∀ i v w w', R i v w → Le w w' → R i v w')
    (hstep : ∀ p ∈ rem, ∀ o, ops[p.1]? = some o → StepI P ops Q R S Le rem a0 p.1 o)
    (hend : ∀ vals w, S w → (∀ p ∈ rem, R p.1 (vals p.1) w) → Q .normal (fillA rem vals a0) w) :
    ∀ fuel listed vals w, unlisted ops listed ≤ fuel → (∀ i, i < ops.size → listed.getD i true = false → ∃ d, (i, d) ∈ rem) → (∀ p ∈ rem, p.1 < listed.size) →
      S w → (∀ p ∈ rem, listed.getD p.1 false = true → R p.1 (vals p.1) w) → wpAny P .any ops Q fuel listed (fillA rem vals a0) w := by
  have done : ∀ listed vals w, (∀ p ∈ rem, p.1 < listed.size) → Region.ready .any ops listed = [] → S w → (∀ p ∈ rem, listed.getD p.1 false = true → R p.1 (vals p.1) w) → Q .normal (fillA rem vals a0) w := by
    intro listed vals w hsz hr hS hR
    refine hend vals w hS (fun p hp => hR p hp ?_)
    have hlt : p.1 < ops.size := by
      have h := hdst p hp
      rcases Nat.lt_or_ge p.1 ops.size with h' | h'
      · exact h'
      · rw [Array.getElem?_eq_none h'] at h; cases h
    have := all_listed hf hr _ p.1 (Nat.lt_succ_self _) hlt
    rw [Array.getD_eq_getD_getElem?, Array.getElem?_eq_getElem (hsz p hp)] at this ⊢
    exact this
  intro fuel
  induction fuel with
  | zero =>
    intro listed vals w hu hx hsz hS hR
    have hr : Region.ready .any ops listed = [] := by
      cases hr : Region.ready .any ops listed with
      | nil => rfl
      | cons i rs =>
        exfalso
        have hi : i ∈ Region.ready .any ops listed := by rw [hr]; exact List.mem_cons_self ..
        obtain ⟨hun, o, ho, _⟩ := mem_ready.1 hi
        have hlt : i < ops.size := by
          rcases Nat.lt_or_ge i ops.size with h' | h'
          · exact h'
          · rw [Array.getElem?_eq_none h'] at ho; cases ho
        have : 0 < unlisted ops listed := List.countP_pos_iff.2 ⟨i, List.mem_range.2 hlt, by rw [hun]; rfl⟩
        omega
    exact ⟨hr, done listed vals w hsz hr hS hR⟩
  | succ fuel ih =>
    intro listed vals w hu hx hsz hS hR
    refine ⟨fun hr => done listed vals w hsz hr hS hR, fun i hi => ?_⟩
    obtain ⟨hun, o, ho, hall⟩ := mem_ready.1 hi
    have hlt : i < ops.size := by
      rcases Nat.lt_or_ge i ops.size with h' | h'
      · exact h'
      · rw [Array.getElem?_eq_none h'] at ho; cases ho
    obtain ⟨d, hd⟩ := hx i hlt hun
    have hod : o.dst = d := by have := hdst _ hd; simp only [ho, Option.map_some] at this; exact Option.some.inj this
    refine wpOp_step ho (fun K hK => ?_)
    refine hstep _ hd o ho vals w hS (fun j e hj hne => hR _ hj ?_) K (fun v w' hv hS' hle => hK _ _ ?_)
    · simp only [needsB, ho, Option.map_some, Option.getD_some, Array.any_eq_true] at hne
      obtain ⟨k, hk, he⟩ := hne
      simp only [Bool.and_eq_true, beq_iff_eq] at he
      have := hall _ (Array.getElem_mem hk) he.2
      rw [he.1] at this
      exact this
    · subst hod
      rw [fillA_put rem vals v (i, o.dst) hsep hd]
      refine ih _ _ _ ?_ ?_ ?_ hS' ?_
      · have hsi := hsz _ hd
        have : unlisted ops (listed.setIfInBounds i true) < unlisted ops listed := by
          refine countP_lt (fun x hx => ?_) i (List.mem_range.2 hlt) (by rw [hun]; rfl) ?_
          · by_cases hxi : i = x
            · subst hxi; rw [hun]; rfl
            · rw [getD_set_ne true hxi] at hx; exact hx
          · simp [Array.getD_eq_getD_getElem?, hsi]
        omega
      · intro x hxs hxl
        by_cases hxi : i = x
        · subst hxi; exact ⟨_, hd⟩
        · rw [getD_set_ne true hxi] at hxl; exact hx x hxs hxl
      · intro p hp; simpa using hsz p hp
      · intro p hp hpl
        by_cases hpi : p.1 = i
        · rw [hpi]; simp only [updV, if_true]; exact hv
        · rw [show updV vals i v p.1 = vals p.1 from by simp [updV, hpi]]
          exact hstab _ _ _ _ (hR p hp (by rw [getD_set_ne false (Ne.symm hpi)] at hpl; exact hpl)) hle

/-- The steps of a list of operations, one behind the other. -/
def StepsI (P : Program) (ops : Array Oper) (Q : Exit → Act → World → Prop) (R : Nat → Value → World → Prop) (S : World → Prop) (Le : World → World → Prop) (rem : List (Nat × Option Tmp)) (a0 : Act) : List Oper → Nat → Prop
  | [], _ => True
  | o :: r, i => ((∃ d, (i, d) ∈ rem) → StepI P ops Q R S Le rem a0 i o) ∧ StepsI P ops Q R S Le rem a0 r (i + 1)
variable {R : Nat → Value → World → Prop} {S : World → Prop} {Le : World → World → Prop} {rem : List (Nat × Option Tmp)} {a0 : Act}
theorem StepsI.nil {i : Nat} : StepsI P ops Q R S Le rem a0 [] i := trivial
theorem StepsI.cons {i : Nat} {o : Oper} {r : List Oper} (h : StepI P ops Q R S Le rem a0 i o) (hr : StepsI P ops Q R S Le rem a0 r (i + 1)) : StepsI P ops Q R S Le rem a0 (o :: r) i := ⟨fun _ => h, hr⟩
theorem StepsI.skip {i : Nat} {o : Oper} {r : List Oper} (h : rem.all (fun p => p.1 != i) = true) (hr : StepsI P ops Q R S Le rem a0 r (i + 1)) : StepsI P ops Q R S Le rem a0 (o :: r) i :=
  ⟨fun ⟨d, hd⟩ => by have := (List.all_eq_true.1 h) _ hd; simp at this, hr⟩
theorem StepsI.at {l : List Oper} : ∀ {k : Nat}, StepsI P ops Q R S Le rem a0 l k → ∀ i o, l[i]? = some o → (∃ d, (k + i, d) ∈ rem) → StepI P ops Q R S Le rem a0 (k + i) o := by
  induction l with
  | nil => intro k _ i o h; cases h
  | cons x l ih =>
    intro k hs i o h hd
    cases i with
    | zero => rw [List.getElem?_cons_zero] at h; cases h; exact hs.1 hd
    | succ i =>
      rw [List.getElem?_cons_succ] at h
      have := ih hs.2 i o h (by rw [show k + 1 + i = k + (i + 1) by omega]; exact hd)
      rw [show k + (i + 1) = k + 1 + i by omega]
      exact this

/-- The rule: the rest of a region, each operation once. -/
theorem wpAny_by {l : List Oper} (R : Nat → Value → World → Prop) (S : World → Prop) (Le : World → World → Prop) (rem : List (Nat × Option Tmp)) {a0 : Act} {fuel : Nat} {listed : Array Bool} {w : World}
    (hops : ops = l.toArray) (hsep : sepR rem = true) (hf : forwardB ops = true) (hdst : (rem.all fun p => ((ops[p.1]?).map (·.dst)).any (· == p.2)) = true)
    (hun : ((List.range ops.size).all fun i => listed.getD i true || rem.any (fun p => p.1 == i)) = true) (hsz : (rem.all fun p => decide (p.1 < listed.size) && !listed.getD p.1 false) = true)
    (hfuel : Nat.ble (unlisted ops listed) fuel = true) (ha0 : fillA rem (fun _ => undef) a0 = a0)
    (hstab : ∀ i v w w', R i v w → Le w w' → R i v w') (hS : S w)
    (hstep : StepsI P ops Q R S Le rem a0 l 0)
    (hend : ∀ vals w, S w → (∀ p ∈ rem, R p.1 (vals p.1) w) → Q .normal (fillA rem vals a0) w) :
    wpAny P .any ops Q fuel listed a0 w := by
  subst hops
  rw [← ha0]
  refine wpAny_inv R S Le rem a0 hsep hf (fun p hp => ?_) hstab (fun p hp o ho => ?_) hend fuel listed _ w (Nat.le_of_ble_eq_true hfuel) (fun i hi hl => ?_) (fun p hp => ?_) hS (fun p hp hl => ?_)
  · have := (List.all_eq_true.1 hdst) p hp
    cases h : (l.toArray[p.1]?).map (·.dst) with
    | none => rw [h] at this; cases this
    | some d => rw [h] at this; simp only [Option.any_some, beq_iff_eq] at this; rw [this]
  · have := StepsI.at hstep p.1 o (by simpa using ho) ⟨p.2, by rw [Nat.zero_add]; exact hp⟩
    rw [Nat.zero_add] at this
    exact this
  · have := (List.all_eq_true.1 hun) i (List.mem_range.2 hi)
    rw [hl, Bool.false_or, List.any_eq_true] at this
    obtain ⟨p, hp, he⟩ := this
    exact ⟨p.2, by rw [← show p.1 = i from by simpa using he]; exact hp⟩
  · have := (List.all_eq_true.1 hsz) p hp
    simp only [Bool.and_eq_true, decide_eq_true_eq] at this
    exact this.1
  · have := (List.all_eq_true.1 hsz) p hp
    simp only [Bool.and_eq_true] at this
    rw [hl] at this
    cases this.2
end
end Go.Proofs.Ytoaecmaphpnolaa
