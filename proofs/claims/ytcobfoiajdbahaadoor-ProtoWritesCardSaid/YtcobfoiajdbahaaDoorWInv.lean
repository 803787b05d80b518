/- Laws for the walks: a region that draws its order, by an invariant: what each operation leaves in its slot is said once for each operation, whatever stands listed before it. -/
import Derived.WalkKit
import Derived.OrdersHeld
import Derived.Deep.RegionHeld
namespace Go.Proofs.YtcobfoiajdbahaaDoor
open Go.RowKit

section
variable {P : Program} {ops : Array Oper} {Q : Exit → Act → World → Prop}

/-- The state in which each slot of the list holds a value of its own. -/
def fillA : List (Nat × Option Tmp) → (Nat → Value) → Act → Act
  | [], _, a => a
  | p :: r, v, a => fillA r v (a.put p.2 (v p.1))
def updV (v : Nat → Value) (i : Nat) (x : Value) : Nat → Value := fun j => if j = i then x else v j
/-- Numbers and slots of the list are all different. -/
def sepR : List (Nat × Option Tmp) → Bool
  | [] => true
  | p :: r => r.all (fun q => q.1 != p.1 && (p.2.isNone || q.2 != p.2)) && sepR r

theorem put_put (a : Act) (d : Option Tmp) (u v : Value) : (a.put d u).put d v = a.put d v := by
  cases d with
  | none => rfl
  | some d => simp [Act.put]
theorem fillA_out (r : List (Nat × Option Tmp)) (v : Nat → Value) (d : Option Tmp) (x : Value) (h : ∀ q ∈ r, d.isNone = true ∨ q.2 ≠ d) : ∀ a : Act, (fillA r v a).put d x = fillA r v (a.put d x) := by
  induction r with
  | nil => intro a; rfl
  | cons p r ih =>
    intro a
    show (fillA r v (a.put p.2 (v p.1))).put d x = fillA r v ((a.put d x).put p.2 (v p.1))
    rw [ih (fun q hq => h q (List.mem_cons_of_mem _ hq))]
    congr 1
    rcases h p (List.mem_cons_self ..) with hd | hd
    · cases d with
      | none => rfl
      | some d => cases hd
    · exact Act.put_comm a _ _ (fun t ht he => hd (by rw [ht, he]))
theorem fillA_congr (r : List (Nat × Option Tmp)) (u v : Nat → Value) (h : ∀ q ∈ r, u q.1 = v q.1) : ∀ a : Act, fillA r u a = fillA r v a := by
  induction r with
  | nil => intro a; rfl
  | cons p r ih =>
    intro a
    show fillA r u (a.put p.2 (u p.1)) = fillA r v (a.put p.2 (v p.1))
    rw [ih (fun q hq => h q (List.mem_cons_of_mem _ hq)), h p (List.mem_cons_self ..)]
theorem fillA_put (r : List (Nat × Option Tmp)) (v : Nat → Value) (x : Value) (p : Nat × Option Tmp) (hs : sepR r = true) (hm : p ∈ r) : ∀ a : Act, (fillA r v a).put p.2 x = fillA r (updV v p.1 x) a := by
  induction r with
  | nil => cases hm
  | cons q r ih =>
    intro a
    simp only [sepR, Bool.and_eq_true, List.all_eq_true] at hs
    show (fillA r v (a.put q.2 (v q.1))).put p.2 x = fillA r (updV v p.1 x) (a.put q.2 (updV v p.1 x q.1))
    rcases List.mem_cons.1 hm with rfl | hm
    · rw [fillA_out r v p.2 x (fun q hq => by have := hs.1 q hq; simp at this; exact this.2.imp (fun h => by rw [h]; rfl) id), put_put]
      have : updV v p.1 x p.1 = x := by simp [updV]
      rw [this]
      exact fillA_congr r _ _ (fun q hq => by have := (hs.1 q hq).1; simp only [updV]; rw [if_neg (by intro h; rw [h] at this; simp at this)]) _
    · have hne : q.1 ≠ p.1 := fun h => by have := (hs.1 p hm).1; rw [h] at this; simp at this
      rw [ih hs.2 hm]
      congr 2
      simp [updV, hne]

theorem put_keep (a : Act) (d : Tmp) : a.put (some d) (a.tmps.getD d undef) = a := by
  have : a.tmps.setIfInBounds d (a.tmps.getD d undef) = a.tmps := by
    refine Array.ext_getElem? (fun i => ?_)
    by_cases h : d = i
    · subst h
      rcases Nat.lt_or_ge d a.tmps.size with hd | hd
      · simp [hd]
      · rw [Array.getElem?_eq_none (by simpa using hd), Array.getElem?_eq_none hd]
    · rw [Array.getElem?_setIfInBounds_ne h]
  simp only [Act.put, this]
theorem fillA_keep (rem : List (Nat × Option Tmp)) (v : Nat → Value) (a : Act) (h : ∀ p ∈ rem, ∀ d, p.2 = some d → v p.1 = a.tmps.getD d undef) : fillA rem v a = a := by
  induction rem with
  | nil => rfl
  | cons p r ih =>
    have hp : a.put p.2 (v p.1) = a := by
      cases hd : p.2 with
      | none => rfl
      | some d => rw [h p (List.mem_cons_self ..) d hd]; exact put_keep a d
    show fillA r v (a.put p.2 (v p.1)) = a
    rw [hp]
    exact ih (fun q hq => h q (List.mem_cons_of_mem _ hq))
theorem keep_ex (rem : List (Nat × Option Tmp)) (a : Act) (hs : sepR rem = true) : ∃ v : Nat → Value, ∀ p ∈ rem, ∀ d, p.2 = some d → v p.1 = a.tmps.getD d undef := by
  induction rem with
  | nil => exact ⟨fun _ => undef, fun p hp => by cases hp⟩
  | cons p r ih =>
    simp only [sepR, Bool.and_eq_true, List.all_eq_true] at hs
    obtain ⟨v, hv⟩ := ih hs.2
    refine ⟨updV v p.1 (match p.2 with | some d => a.tmps.getD d undef | none => undef), fun q hq d hd => ?_⟩
    rcases List.mem_cons.1 hq with rfl | hq
    · simp [updV, hd]
    · have hne : q.1 ≠ p.1 := by have := (hs.1 q hq).1; simpa using this
      simp only [updV, if_neg hne]
      exact hv q hq d hd

/-- The operations that number i waits for. -/
def needsB (ops : Array Oper) (i j : Nat) : Bool := ((ops[i]?).map (·.after.any fun e => e.on == j && Region.binds .any e)).getD false
/-- Each operation waits for earlier ones alone. -/
def forwardB (ops : Array Oper) : Bool := (List.range ops.size).all fun i => ((ops[i]?).map (·.after.all fun e => decide (e.on < i))).getD true
theorem countP_lt {l : List Nat} {p q : Nat → Bool} (h : ∀ x, q x = true → p x = true) (y : Nat) (hy : y ∈ l) (hp : p y = true) (hq : q y = false) : l.countP q < l.countP p := by
  induction l with
  | nil => cases hy
  | cons x l ih =>
    have hle : l.countP q ≤ l.countP p := List.countP_mono_left (fun x _ => h x)
    rcases List.mem_cons.1 hy with rfl | hy
    · rw [List.countP_cons_of_neg (by rw [hq]; exact Bool.false_ne_true), List.countP_cons_of_pos hp]; omega
    · have := ih hy
      cases hx : q x with
      | true => rw [List.countP_cons_of_pos hx, List.countP_cons_of_pos (h x hx)]; omega
      | false =>
        rw [List.countP_cons_of_neg (by rw [hx]; exact Bool.false_ne_true)]
        cases hx' : p x with
        | true => rw [List.countP_cons_of_pos hx']; omega
        | false => rw [List.countP_cons_of_neg (by rw [hx']; exact Bool.false_ne_true)]; exact this

/-- What one operation must do: from every state in which what it waits for is as it was said. -/
def StepI (P : Program) (ops : Array Oper) (Q : Exit → Act → World → Prop) (R : Nat → Value → World → Prop) (S : World → Prop) (Le : World → World → Prop) (rem : List (Nat × Option Tmp)) (a0 : Act) (i : Nat) (o : Oper) : Prop :=
  ∀ (vals : Nat → Value) (w : World), S w → (∀ j d, (j, d) ∈ rem → needsB ops i j = true → R j (vals j) w) →
    ∀ K : Act → World → Prop, Shut (∀ v w', R i v w' → S w' → Le w w' → K ((fillA rem vals a0).put o.dst v) w') →
      if Region.wanted o (yielded ops (fillA rem vals a0).tmps) = true then Oper.wp P o (fillA rem vals a0) w K Q else K ((fillA rem vals a0).put o.dst undef) w

theorem ready_of_unlisted {listed : Array Bool} (hf : forwardB ops = true) (hsz : listed.size = ops.size) (i : Nat) (hi : i < ops.size) (hl : listed.getD i true = false) : Region.ready .any ops listed ≠ [] := by
  intro hr
  have all : ∀ n i, i < n → i < ops.size → listed.getD i true = true := by
    intro n
    induction n with
    | zero => intro i h; omega
    | succ n ih =>
      intro i h hi
      cases hl : listed.getD i true with
      | true => rfl
      | false =>
        exfalso
        have hm : i ∈ Region.ready .any ops listed := by
          rw [mem_ready]
          refine ⟨hl, ops[i], Array.getElem?_eq_getElem hi, fun e he _ => ?_⟩
          have h1 := (List.all_eq_true.1 hf) i (List.mem_range.2 hi)
          rw [Array.getElem?_eq_getElem hi] at h1
          have h2 := (Array.all_eq_true'.1 h1) e he
          have h3 : e.on < i := by simpa using h2
          have h4 := ih e.on (by omega) (by omega)
          rw [Array.getD_eq_getD_getElem?, Array.getElem?_eq_getElem (by omega)] at h4 ⊢
          exact h4
        rw [hr] at hm
        cases hm
  rw [all _ i (Nat.lt_succ_self _) hi] at hl
  cases hl
/-- What is waited for, a step at a time, through the operations of the list. -/
def behind (ops : Array Oper) (rem : List (Nat × Option Tmp)) : Nat → List Nat → List Nat
  | 0, js => js
  | n + 1, js => behind ops rem n ((List.range ops.size).filter fun x => js.contains x || js.any fun y => rem.any (fun p => p.1 == y) && needsB ops y x)
/-- It waits for one that stands neither listed nor in the rest. -/
def waitsB (ops : Array Oper) (rem : List (Nat × Option Tmp)) (listed : Array Bool) (j : Nat) : Bool := (List.range ops.size).any fun x => needsB ops j x && (!listed.getD x true && !rem.any (fun p => p.1 == x))
/-- All are listed. -/
def listAll (listed : Array Bool) (rem : List (Nat × Option Tmp)) : Array Bool := rem.foldl (fun l p => l.setIfInBounds p.1 true) listed
theorem listAll_size (rem : List (Nat × Option Tmp)) : ∀ listed : Array Bool, (listAll listed rem).size = listed.size := by
  induction rem with
  | nil => intro l; rfl
  | cons p r ih => intro l; show (listAll (l.setIfInBounds p.1 true) r).size = _; rw [ih]; simp
theorem listAll_at (rem : List (Nat × Option Tmp)) (i : Nat) (h : ∀ p ∈ rem, p.1 ≠ i) : ∀ listed : Array Bool, (listAll listed rem)[i]? = listed[i]? := by
  induction rem with
  | nil => intro l; rfl
  | cons p r ih =>
    intro l
    show (listAll (l.setIfInBounds p.1 true) r)[i]? = _
    rw [ih (fun q hq => h q (List.mem_cons_of_mem _ hq)), Array.getElem?_setIfInBounds_ne (h p (List.mem_cons_self ..))]
theorem listAll_in (rem : List (Nat × Option Tmp)) (i : Nat) (h : ∃ p ∈ rem, p.1 = i) : ∀ listed : Array Bool, i < listed.size → (listAll listed rem)[i]? = some true := by
  induction rem with
  | nil => obtain ⟨p, hp, _⟩ := h; cases hp
  | cons p r ih =>
    intro l hi
    show (listAll (l.setIfInBounds p.1 true) r)[i]? = _
    by_cases hr : ∃ q ∈ r, q.1 = i
    · exact ih hr _ (by simpa using hi)
    · rw [listAll_at r i (fun q hq he => hr ⟨q, hq, he⟩)]
      obtain ⟨q, hq, he⟩ := h
      rcases List.mem_cons.1 hq with rfl | hq
      · subst he; simp [hi]
      · exact absurd ⟨q, hq, he⟩ hr

theorem wpAnyH_inv (R : Nat → Value → World → Prop) (S T : World → Prop) (hT : ∀ w, T w → S w) (Le : World → World → Prop) (rem : List (Nat × Option Tmp)) (a0 : Act) (listed0 : Array Bool) (k : Nat)
    (hsep : sepR rem = true) (hf : forwardB ops = true) (hdst : ∀ p ∈ rem, (ops[p.1]?).map (·.dst) = some p.2) (hsz0 : listed0.size = ops.size)
    (hpost : ∀ j, j < ops.size → listed0.getD j true = false → (∃ d, (j, d) ∈ rem) ∨ (∀ p ∈ rem, ∃ n, p.1 ∈ behind ops rem n ((List.range ops.size).filter (needsB ops j))) ∨ ∃ x, needsB ops j x = true ∧ listed0.getD x true = false ∧ ∀ p ∈ rem, p.1 ≠ x)
    (hstab : ∀ i v w w', R i v w → Le w w' → R i v w')
    (hstep : ∀ p ∈ rem, ∀ o, ops[p.1]? = some o → StepI P ops Q R T Le rem a0 p.1 o)
    (hend : ∀ vals w, T w → (∀ p ∈ rem, R p.1 (vals p.1) w) → wpAnyH P .any ops Q S k (listAll listed0 rem) (fillA rem vals a0) w) :
    ∀ n listed vals w, rem.countP (fun p => !listed.getD p.1 true) = n → listed.size = ops.size → (∀ i, (∀ p ∈ rem, p.1 ≠ i) → listed[i]? = listed0[i]?) →
      (∀ p ∈ rem, listed.getD p.1 false = true → ∀ x, needsB ops p.1 x = true → listed.getD x false = true) →
      T w → (∀ p ∈ rem, listed.getD p.1 false = true → R p.1 (vals p.1) w) → wpAnyH P .any ops Q S (n + k) listed (fillA rem vals a0) w := by
  have lt_of : ∀ p ∈ rem, p.1 < ops.size := fun p hp => by
    have h := hdst p hp
    rcases Nat.lt_or_ge p.1 ops.size with h' | h'
    · exact h'
    · rw [Array.getElem?_eq_none h'] at h; cases h
  intro n
  induction n with
  | zero =>
    intro listed vals w hc hsz hout hdown hS hR
    have hall : ∀ p ∈ rem, listed[p.1]? = some true := fun p hp => by
      have h0 := List.countP_eq_zero.1 hc p hp
      have hlt := lt_of p hp
      have h1 : listed.getD p.1 true = true := by simpa using h0
      rw [Array.getD_eq_getD_getElem?, Array.getElem?_eq_getElem (by omega)] at h1
      rw [Array.getElem?_eq_getElem (by omega)]
      simpa using h1
    have he : listed = listAll listed0 rem := by
      refine Array.ext_getElem? (fun i => ?_)
      by_cases hi : ∃ p ∈ rem, p.1 = i
      · obtain ⟨p, hp, rfl⟩ := hi
        rw [hall p hp, listAll_in rem p.1 ⟨p, hp, rfl⟩ _ (by rw [hsz0]; exact lt_of p hp)]
      · have hi' : ∀ p ∈ rem, p.1 ≠ i := fun p hp e => hi ⟨p, hp, e⟩
        rw [listAll_at rem i hi', hout i hi']
    rw [Nat.zero_add, he]
    exact hend vals w hS (fun p hp => hR p hp (by rw [Array.getD_eq_getD_getElem?, hall p hp]; rfl))
  | succ n ih =>
    intro listed vals w hc hsz hout hdown hS hR
    rw [Nat.succ_add]
    obtain ⟨p0, hp0, hp0l⟩ : ∃ p ∈ rem, listed.getD p.1 true = false := by
      have h0 := List.countP_pos_iff.1 (show 0 < rem.countP (fun p => !listed.getD p.1 true) by omega)
      obtain ⟨p, hp, h⟩ := h0
      exact ⟨p, hp, by simpa using h⟩
    refine ⟨fun hr => absurd hr (ready_of_unlisted hf hsz p0.1 (lt_of p0 hp0) hp0l), fun i hi => ?_⟩
    obtain ⟨hun, o, ho, hall⟩ := mem_ready.1 hi
    have hlt : i < ops.size := by
      rcases Nat.lt_or_ge i ops.size with h' | h'
      · exact h'
      · rw [Array.getElem?_eq_none h'] at ho; cases ho
    have hdeps : ∀ x, needsB ops i x = true → listed.getD x false = true := fun x hx => by
      simp only [needsB, ho, Option.map_some, Option.getD_some, Array.any_eq_true] at hx
      obtain ⟨q, hq, he⟩ := hx
      simp only [Bool.and_eq_true, beq_iff_eq] at he
      have := hall _ (Array.getElem_mem hq) he.2
      rw [he.1] at this
      exact this
    obtain ⟨d, hd⟩ : ∃ d, (i, d) ∈ rem := by
      by_cases hin : ∃ d, (i, d) ∈ rem
      · exact hin
      · exfalso
        have hni : ∀ p ∈ rem, p.1 ≠ i := fun p hp e => hin ⟨p.2, by rw [← e]; exact hp⟩
        have h0 : listed0.getD i true = false := by
          rw [Array.getD_eq_getD_getElem?, ← hout i hni, ← Array.getD_eq_getD_getElem?]
          exact hun
        rcases hpost i hlt h0 with h1 | h1 | ⟨x, h1, h2, h3⟩
        · exact hin h1
        · obtain ⟨m, hm⟩ := h1 p0 hp0
          have key : ∀ m js, (∀ x ∈ js, listed.getD x false = true) → ∀ x ∈ behind ops rem m js, listed.getD x false = true := by
            intro m
            induction m with
            | zero => intro js h x hx; exact h x hx
            | succ m ihm =>
              intro js h x hx
              refine ihm _ (fun y hy => ?_) x hx
              obtain ⟨_, hy2⟩ := List.mem_filter.1 hy
              simp only [Bool.or_eq_true, List.any_eq_true, Bool.and_eq_true, List.contains_iff_mem] at hy2
              rcases hy2 with hy2 | ⟨z, hz, ⟨p, hp, hpz⟩, hn⟩
              · exact h y hy2
              · have hpz' : p.1 = z := by simpa using hpz
                subst hpz'
                exact hdown p hp (h _ hz) y hn
          have h2 := key m _ (fun x hx => hdeps x (List.mem_filter.1 hx).2) p0.1 hm
          rw [Array.getD_eq_getD_getElem?] at h2 hp0l
          cases hq : listed[p0.1]? with
          | none => rw [hq] at hp0l; cases hp0l
          | some b => rw [hq] at h2 hp0l; simp at h2 hp0l; rw [h2] at hp0l; cases hp0l
        · have h4 := hdeps x h1
          rw [Array.getD_eq_getD_getElem?, hout x h3] at h4
          rw [Array.getD_eq_getD_getElem?] at h2
          cases hq : listed0[x]? with
          | none => rw [hq] at h4; cases h4
          | some b => rw [hq] at h2 h4; simp at h2 h4; rw [h2] at h4; cases h4
    have hod : o.dst = d := by have := hdst _ hd; simp only [ho, Option.map_some] at this; exact Option.some.inj this
    refine wpOp_step ho (fun K hK => ?_)
    refine hstep _ hd o ho vals w hS (fun j e hj hne => hR _ hj (hdeps j hne)) K (fun v w' hv hS' hle => hK _ _ ⟨hT _ hS', ?_⟩)
    subst hod
    rw [fillA_put rem vals v (i, o.dst) hsep hd]
    have hget : ∀ x, x ≠ i → (listed.setIfInBounds i true)[x]? = listed[x]? := fun x hx => Array.getElem?_setIfInBounds_ne (Ne.symm hx)
    have hsel : (listed.setIfInBounds i true)[i]? = some true := by simp [hsz, hlt]
    refine ih _ _ _ ?_ (by simpa using hsz) (fun x hx => ?_) (fun p hp hpl x hx => ?_) hS' (fun p hp hpl => ?_)
    · have hone : ∀ r : List (Nat × Option Tmp), sepR r = true → (i, o.dst) ∈ r → r.countP (fun p => !listed.getD p.1 true) = r.countP (fun p => !(listed.setIfInBounds i true).getD p.1 true) + 1 := by
        intro r
        induction r with
        | nil => intro _ h; cases h
        | cons q r ihr =>
          intro hs hm
          simp only [sepR, Bool.and_eq_true, List.all_eq_true] at hs
          rcases List.mem_cons.1 hm with hq | hm
          · subst hq
            have hsame : r.countP (fun p => !listed.getD p.1 true) = r.countP (fun p => !(listed.setIfInBounds i true).getD p.1 true) := by
              refine List.countP_congr (fun p hp => ?_)
              have hne : p.1 ≠ i := by have := (hs.1 p hp).1; simpa using this
              rw [Array.getD_eq_getD_getElem?, Array.getD_eq_getD_getElem?, hget _ hne]
            rw [List.countP_cons_of_pos (by simp [hun]), List.countP_cons_of_neg (by rw [Array.getD_eq_getD_getElem?, hsel]; simp), hsame]
          · have hne : q.1 ≠ i := by have := (hs.1 _ hm).1; simp at this; exact fun e => this e.symm
            have e1 : (listed.setIfInBounds i true).getD q.1 true = listed.getD q.1 true := by
              rw [Array.getD_eq_getD_getElem?, Array.getD_eq_getD_getElem?, hget _ hne]
            rw [List.countP_cons, List.countP_cons, e1, ihr hs.2 hm]
            omega
      have := hone rem hsep hd
      omega
    · rw [hget x (fun e => hx _ hd e.symm)]; exact hout x hx
    · by_cases hpi : p.1 = i
      · have h1 := hdeps x (by rw [← hpi]; exact hx)
        by_cases hxi : x = i
        · subst hxi; rw [Array.getD_eq_getD_getElem?, hsel]; rfl
        · rw [Array.getD_eq_getD_getElem?, hget _ hxi, ← Array.getD_eq_getD_getElem?]; exact h1
      · have h1 : listed.getD p.1 false = true := by rw [Array.getD_eq_getD_getElem?, ← hget _ hpi, ← Array.getD_eq_getD_getElem?]; exact hpl
        have h2 := hdown p hp h1 x hx
        by_cases hxi : x = i
        · subst hxi; rw [Array.getD_eq_getD_getElem?, hsel]; rfl
        · rw [Array.getD_eq_getD_getElem?, hget _ hxi, ← Array.getD_eq_getD_getElem?]; exact h2
    · by_cases hpi : p.1 = i
      · rw [hpi]; simp only [updV, if_true]; exact hv
      · rw [show updV vals i v p.1 = vals p.1 from by simp [updV, hpi]]
        exact hstab _ _ _ _ (hR p hp (by rw [Array.getD_eq_getD_getElem?, ← hget _ hpi, ← Array.getD_eq_getD_getElem?]; exact hpl)) hle

/-- The steps of a list of operations, one behind the other. -/
def StepsI (P : Program) (ops : Array Oper) (Q : Exit → Act → World → Prop) (R : Nat → Value → World → Prop) (S : World → Prop) (Le : World → World → Prop) (rem : List (Nat × Option Tmp)) (a0 : Act) : List Oper → Nat → Prop
  | [], _ => True
  | o :: r, i => ((∃ d, (i, d) ∈ rem) → StepI P ops Q R S Le rem a0 i o) ∧ StepsI P ops Q R S Le rem a0 r (i + 1)
variable {R : Nat → Value → World → Prop} {S : World → Prop} {Le : World → World → Prop} {rem : List (Nat × Option Tmp)} {a0 : Act}
theorem StepsI.nil {i : Nat} : StepsI P ops Q R S Le rem a0 [] i := trivial
theorem StepsI.cons {i : Nat} {o : Oper} {r : List Oper} (h : StepI P ops Q R S Le rem a0 i o) (hr : StepsI P ops Q R S Le rem a0 r (i + 1)) : StepsI P ops Q R S Le rem a0 (o :: r) i := ⟨fun _ => h, hr⟩
theorem StepsI.skip {i : Nat} {o : Oper} {r : List Oper} (h : rem.all (fun p => p.1 != i) = true) (hr : StepsI P ops Q R S Le rem a0 r (i + 1)) : StepsI P ops Q R S Le rem a0 (o :: r) i :=
  ⟨fun ⟨d, hd⟩ => by have := (List.all_eq_true.1 h) _ hd; simp at this, hr⟩
theorem StepsI.get {l : List Oper} : ∀ {k : Nat}, StepsI P ops Q R S Le rem a0 l k → ∀ i o, l[i]? = some o → (∃ d, (k + i, d) ∈ rem) → StepI P ops Q R S Le rem a0 (k + i) o := by
  induction l with
  | nil => intro k _ i o h; cases h
  | cons x l ih =>
    intro k hs i o h hd
    cases i with
    | zero => rw [List.getElem?_cons_zero] at h; cases h; exact hs.1 hd
    | succ i =>
      rw [List.getElem?_cons_succ] at h
      have := ih hs.2 i o h (by rw [show k + 1 + i = k + (i + 1) by omega]; exact hd)
      rw [show k + (i + 1) = k + 1 + i by omega]
      exact this

/-- The rule: the rest of a region, each operation once; what waits for all of them comes behind. -/
theorem wpAnyH_by2 {l : List Oper} (R : Nat → Value → World → Prop) (T : World → Prop) (Le : World → World → Prop) (rem : List (Nat × Option Tmp)) (k : Nat) {S : World → Prop} {a0 : Act} {fuel : Nat} {listed : Array Bool} {w : World}
    (hT : ∀ w, T w → S w) (hops : ops = l.toArray) (hsep : sepR rem = true) (hf : forwardB ops = true) (hdst : (rem.all fun p => ((ops[p.1]?).map (·.dst)).any (· == p.2)) = true) (hsz : Nat.beq listed.size ops.size = true)
    (hpost : ((List.range ops.size).all fun j => listed.getD j true || (rem.any (fun p => p.1 == j) || ((rem.all fun p => (behind ops rem 4 ((List.range ops.size).filter (needsB ops j))).contains p.1) || waitsB ops rem listed j))) = true)
    (hrem : (rem.all fun p => !listed.getD p.1 true) = true) (hfuel : Nat.beq fuel (rem.length + k) = true)
    (hstab : ∀ i v w w', R i v w → Le w w' → R i v w') (hS : T w)
    (hstep : StepsI P ops Q R T Le rem a0 l 0)
    (hend : ∀ vals w, T w → (∀ p ∈ rem, R p.1 (vals p.1) w) → wpAnyH P .any ops Q S k (listAll listed rem) (fillA rem vals a0) w) :
    wpAnyH P .any ops Q S fuel listed a0 w := by
  subst hops
  obtain ⟨v0, hv0⟩ := keep_ex rem a0 hsep
  rw [← fillA_keep rem v0 a0 hv0, Nat.eq_of_beq_eq_true hfuel]
  have hsz' := Nat.eq_of_beq_eq_true hsz
  have hun : ∀ p ∈ rem, listed.getD p.1 true = false := fun p hp => by have := (List.all_eq_true.1 hrem) p hp; simpa using this
  have hno : ∀ p ∈ rem, listed.getD p.1 false = true → False := fun p hp h => by
    have h1 := hun p hp
    rw [Array.getD_eq_getD_getElem?] at h h1
    cases hq : listed[p.1]? with
    | none => rw [hq] at h1; cases h1
    | some b => rw [hq] at h h1; simp at h h1; rw [h] at h1; cases h1
  refine wpAnyH_inv R S T hT Le rem a0 listed k hsep hf (fun p hp => ?_) hsz' (fun j hj hl => ?_) hstab (fun p hp o ho => ?_) hend _ listed _ w ?_ hsz' (fun i _ => rfl) (fun p hp hl => (hno p hp hl).elim) hS (fun p hp hl => (hno p hp hl).elim)
  · have := (List.all_eq_true.1 hdst) p hp
    cases h : (l.toArray[p.1]?).map (·.dst) with
    | none => rw [h] at this; cases this
    | some d => rw [h] at this; simp only [Option.any_some, beq_iff_eq] at this; rw [this]
  · have := (List.all_eq_true.1 hpost) j (List.mem_range.2 hj)
    rw [hl, Bool.false_or, Bool.or_eq_true, List.any_eq_true, Bool.or_eq_true, List.all_eq_true] at this
    rcases this with ⟨p, hp, he⟩ | h | h
    · exact .inl ⟨p.2, by rw [← show p.1 = j from by simpa using he]; exact hp⟩
    · exact .inr (.inl fun p hp => ⟨4, by simpa using h p hp⟩)
    · unfold waitsB at h
      obtain ⟨x, hx, h⟩ := List.any_eq_true.1 h
      simp only [Bool.and_eq_true, Bool.not_eq_true'] at h
      exact .inr (.inr ⟨x, h.1, h.2.1, fun p hp e => by
        have := List.any_eq_false.1 h.2.2 p hp
        simp [e] at this⟩)
  · have := StepsI.get hstep p.1 o (by simpa using ho) ⟨p.2, by rw [Nat.zero_add]; exact hp⟩
    rw [Nat.zero_add] at this
    exact this
  · rw [List.countP_eq_length.2]
    intro p hp
    rw [hun p hp]
    rfl
/-- The same with the region's own condition. -/
theorem wpAnyH_by {l : List Oper} (R : Nat → Value → World → Prop) (Le : World → World → Prop) (rem : List (Nat × Option Tmp)) (k : Nat) {S : World → Prop} {a0 : Act} {fuel : Nat} {listed : Array Bool} {w : World}
    (hops : ops = l.toArray) (hsep : sepR rem = true) (hf : forwardB ops = true) (hdst : (rem.all fun p => ((ops[p.1]?).map (·.dst)).any (· == p.2)) = true) (hsz : Nat.beq listed.size ops.size = true)
    (hpost : ((List.range ops.size).all fun j => listed.getD j true || (rem.any (fun p => p.1 == j) || ((rem.all fun p => (behind ops rem 4 ((List.range ops.size).filter (needsB ops j))).contains p.1) || waitsB ops rem listed j))) = true)
    (hrem : (rem.all fun p => !listed.getD p.1 true) = true) (hfuel : Nat.beq fuel (rem.length + k) = true)
    (hstab : ∀ i v w w', R i v w → Le w w' → R i v w') (hS : S w)
    (hstep : StepsI P ops Q R S Le rem a0 l 0)
    (hend : ∀ vals w, S w → (∀ p ∈ rem, R p.1 (vals p.1) w) → wpAnyH P .any ops Q S k (listAll listed rem) (fillA rem vals a0) w) :
    wpAnyH P .any ops Q S fuel listed a0 w :=
  wpAnyH_by2 R S Le rem k (fun _ h => h) hops hsep hf hdst hsz hpost hrem hfuel hstab hS hstep hend
/-- The same of a whole rest, with nothing behind. -/
theorem wpAny_by {l : List Oper} (R : Nat → Value → World → Prop) (S : World → Prop) (Le : World → World → Prop) (rem : List (Nat × Option Tmp)) (k : Nat) {a0 : Act} {fuel : Nat} {listed : Array Bool} {w : World}
    (hops : ops = l.toArray) (hsep : sepR rem = true) (hf : forwardB ops = true) (hdst : (rem.all fun p => ((ops[p.1]?).map (·.dst)).any (· == p.2)) = true) (hsz : Nat.beq listed.size ops.size = true)
    (hpost : ((List.range ops.size).all fun j => listed.getD j true || (rem.any (fun p => p.1 == j) || ((rem.all fun p => (behind ops rem 4 ((List.range ops.size).filter (needsB ops j))).contains p.1) || waitsB ops rem listed j))) = true)
    (hrem : (rem.all fun p => !listed.getD p.1 true) = true) (hfuel : Nat.beq fuel (rem.length + k) = true)
    (hstab : ∀ i v w w', R i v w → Le w w' → R i v w') (hS : S w)
    (hstep : StepsI P ops Q R S Le rem a0 l 0) (hnone : Region.ready .any ops (listAll listed rem) = [])
    (hend : ∀ vals w, S w → (∀ p ∈ rem, R p.1 (vals p.1) w) → Q .normal (fillA rem vals a0) w) :
    wpAny P .any ops Q fuel listed a0 w :=
  wpAny_of_held _ _ _ _ (wpAnyH_by R Le rem k hops hsep hf hdst hsz hpost hrem hfuel hstab hS hstep fun vals w hS hR => wpAnyH_done hnone (hend vals w hS hR) k)
/-- One operation alone may come up. -/
theorem wpAnyH_one {i : Nat} {o : Oper} {fuel : Nat} {listed : Array Bool} {a : Act} {w : World} {S : World → Prop} (hr : Region.ready .any ops listed = [i]) (ho : ops[i]? = some o)
    (h : ∀ K' : Act → World → Prop, Shut (∀ a w, S w → wpAnyH P .any ops Q S fuel (listed.setIfInBounds i true) a w → K' a w) → if Region.wanted o (yielded ops a.tmps) = true then Oper.wp P o a w K' Q else K' (a.put o.dst undef) w) :
    wpAnyH P .any ops Q S (fuel + 1) listed a w :=
  ⟨(fun h0 => by rw [hr] at h0; cases h0), fun j hj => by
    rw [hr, List.mem_singleton] at hj
    subst hj
    exact wpOp_step ho (fun K' hK => h K' (fun a w hS hW => hK a w ⟨hS, hW⟩))⟩
end
end Go.Proofs.YtcobfoiajdbahaaDoor
