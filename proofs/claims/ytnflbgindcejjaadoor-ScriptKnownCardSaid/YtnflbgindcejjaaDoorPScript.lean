/- Plain law of layer 29: acts and their script. No program here. -/
import Derived.Test.YtnflbgindcejjaaDoorPOrd
namespace Go.Proofs.YtnflbgindcejjaaDoor.P
set_option linter.unusedVariables false
set_option linter.unusedSimpArgs false

/-! ### Acts -/
structure Cr where
  names : Int
  keep : List Int
  spoil : List (Int × Nat)
structure Ac where
  kind : Nat
  n : Nat
  text : List UInt8
  draws : List UInt8
  cr : Cr
def noCr : Cr := ⟨0, [], []⟩
def noAc : Ac := ⟨0, 0, [], [], noCr⟩
def smallB (n : Int) : Bool := decide (0 ≤ n ∧ n ≤ 2147483647)
def crB (c : Cr) : Bool := smallB c.names && decide (c.keep.length ≤ 255) && decide (c.spoil.length ≤ 255) && c.keep.all smallB && c.spoil.all (fun x => smallB x.1)
def plainB (c : Cr) : Bool := decide (c.names = 0) && decide (c.keep.length = 0) && decide (c.spoil.length = 0)
/-- May an act be? -/
def rightB (a : Ac) : Bool :=
  decide (1 ≤ a.kind ∧ a.kind ≤ 7) && decide (a.text.length ≤ 65536) && decide (a.draws.length ≤ 255) && crB a.cr &&
  (decide (a.kind = 1) || decide (a.text.length = 0)) && (decide (a.kind = 2) || decide (a.kind = 6) || decide (a.n = 0)) && (decide (a.kind = 5) || decide (a.draws.length = 0)) && (decide (6 ≤ a.kind) || plainB a.cr)
/-- Its bytes. -/
def keepB (l : List Int) : List UInt8 := (l.map fun n => row n.toNat).flatten
def spoilB (l : List (Int × Nat)) : List UInt8 := (l.map fun x => row x.1.toNat ++ be 4 x.2).flatten
def crashB (c : Cr) : List UInt8 := row c.names.toNat ++ (byt c.keep.length :: (keepB c.keep ++ (byt c.spoil.length :: spoilB c.spoil)))
def actB (a : Ac) : List UInt8 :=
  byt a.kind :: ((if a.kind = 1 then row a.text.length ++ a.text else []) ++ ((if a.kind = 2 ∨ a.kind = 6 then row a.n else []) ++ ((if a.kind = 5 then byt a.draws.length :: a.draws else []) ++ (if 6 ≤ a.kind then crashB a.cr else []))))
def scriptB (l : List Ac) : List UInt8 := (l.map actB).flatten
theorem scriptB_nil : scriptB [] = [] := rfl
theorem scriptB_cons (a : Ac) (l : List Ac) : scriptB (a :: l) = actB a ++ scriptB l := rfl
theorem scriptB_app (l m : List Ac) : scriptB (l ++ m) = scriptB l ++ scriptB m := by simp [scriptB]
theorem keepB_cons (n : Int) (l : List Int) : keepB (n :: l) = row n.toNat ++ keepB l := rfl
theorem spoilB_cons (x : Int × Nat) (l : List (Int × Nat)) : spoilB (x :: l) = row x.1.toNat ++ (be 4 x.2 ++ spoilB l) := by simp [spoilB]
theorem keepB_snoc (l : List Int) (n : Int) : keepB (l ++ [n]) = keepB l ++ row n.toNat := by simp [keepB]
theorem spoilB_snoc (l : List (Int × Nat)) (x : Int × Nat) : spoilB (l ++ [x]) = spoilB l ++ (row x.1.toNat ++ be 4 x.2) := by simp [spoilB]
/-- What the types of the fields say. -/
def tyAc (a : Ac) : Prop := a.kind < 256 ∧ a.n < 18446744073709551616 ∧ ∀ x ∈ a.cr.spoil, x.2 < 4294967296

/-! ### Reading -/
def rdN (s : List UInt8) : Option (Nat × List UInt8) := if rOk s = true then some (rNum s, s.drop (rSize s)) else none
def rdS (s : List UInt8) : Option (Nat × List UInt8) := if rOk s = true ∧ rNum s ≤ 2147483647 then some (rNum s, s.drop (rSize s)) else none
def rdC (s : List UInt8) : Option (Nat × List UInt8) := match s with | [] => none | c :: t => some (c.toNat, t)
def rdP (n : Nat) (s : List UInt8) : Option (List UInt8 × List UInt8) := if n ≤ s.length then some (s.take n, s.drop n) else none
def rdKeep : Nat → List UInt8 → Option (List Int × List UInt8)
  | 0, s => some ([], s)
  | k + 1, s => match rdS s with
    | none => none
    | some (n, t) => match rdKeep k t with
      | none => none
      | some (l, u) => some ((n : Int) :: l, u)
def rdSpot (s : List UInt8) : Option ((Int × Nat) × List UInt8) := match rdS s with
  | none => none
  | some (n, t) => match rdP 4 t with
    | none => none
    | some (m, u) => some (((n : Int), val m), u)
def rdSpoil : Nat → List UInt8 → Option (List (Int × Nat) × List UInt8)
  | 0, s => some ([], s)
  | k + 1, s => match rdSpot s with
    | none => none
    | some (x, t) => match rdSpoil k t with
      | none => none
      | some (l, u) => some (x :: l, u)
def rdCrash (s : List UInt8) : Option (Cr × List UInt8) := match rdS s with
  | none => none
  | some (n, s1) => match rdC s1 with
    | none => none
    | some (k, s2) => match rdKeep k s2 with
      | none => none
      | some (l, s3) => match rdC s3 with
        | none => none
        | some (q, s4) => match rdSpoil q s4 with
          | none => none
          | some (m, s5) => some (⟨(n : Int), l, m⟩, s5)
def rdAct (s : List UInt8) : Option (Ac × List UInt8) := match rdC s with
  | none => none
  | some (k, t) =>
    if k = 1 then (if tOk t 65536 = true then some (⟨1, 0, tText t 65536, [], noCr⟩, t.drop (tSize t 65536)) else none)
    else if k = 2 then (match rdN t with | none => none | some (n, u) => some (⟨2, n, [], [], noCr⟩, u))
    else if k = 3 ∨ k = 4 then some (⟨k, 0, [], [], noCr⟩, t)
    else if k = 5 then (match rdC t with | none => none | some (n, u) => match rdP n u with | none => none | some (d, x) => some (⟨5, 0, [], d, noCr⟩, x))
    else if k = 6 then (match rdN t with | none => none | some (n, u) => match rdCrash u with | none => none | some (c, x) => some (⟨6, n, [], [], c⟩, x))
    else if k = 7 then (match rdCrash t with | none => none | some (c, x) => some (⟨7, 0, [], [], c⟩, x))
    else none
/-- The acts of a text. -/
def rdActs : Nat → List UInt8 → List Ac
  | 0, _ => []
  | f + 1, s => match rdAct s with
    | none => []
    | some (a, t) => a :: rdActs f t

/-! ### What is written is read -/
theorem rdN_row (n : Nat) (h : n < 18446744073709551616) (x : List UInt8) : rdN (row n ++ x) = some (n, x) := by
  obtain ⟨h1, h2, h3⟩ := read_row n h x
  unfold rdN
  rw [if_pos h1, h2, h3, List.drop_left]
theorem rdS_row (n : Int) (h : smallB n = true) (x : List UInt8) : rdS (row n.toNat ++ x) = some (n.toNat, x) := by
  simp only [smallB, decide_eq_true_eq] at h
  obtain ⟨h1, h2, h3⟩ := read_row n.toNat (by omega) x
  unfold rdS
  rw [if_pos ⟨h1, by rw [h2]; omega⟩, h2, h3, List.drop_left]
theorem small_back {n : Int} (h : smallB n = true) : ((n.toNat : Nat) : Int) = n := by
  simp only [smallB, decide_eq_true_eq] at h
  omega
theorem rdC_byt (n : Nat) (h : n < 256) (x : List UInt8) : rdC (byt n :: x) = some (n, x) := by
  show some ((byt n).toNat, x) = _
  rw [byt_toNat, Nat.mod_eq_of_lt h]
theorem rdP_app (l x : List UInt8) (n : Nat) (h : n = l.length) : rdP n (l ++ x) = some (l, x) := by
  subst h
  unfold rdP
  rw [if_pos (by rw [List.length_append]; omega), List.take_left, List.drop_left]
theorem rdKeep_app : ∀ (l : List Int) (x : List UInt8), l.all smallB = true → rdKeep l.length (keepB l ++ x) = some (l, x)
  | [], x, _ => rfl
  | n :: l, x, h => by
    rw [List.all_cons, Bool.and_eq_true] at h
    rw [keepB_cons, List.append_assoc, List.length_cons]
    unfold rdKeep
    rw [rdS_row n h.1]
    simp only
    rw [rdKeep_app l x h.2, small_back h.1]
theorem rdSpoil_app : ∀ (l : List (Int × Nat)) (x : List UInt8), l.all (fun y => smallB y.1) = true → (∀ y ∈ l, y.2 < 4294967296) → rdSpoil l.length (spoilB l ++ x) = some (l, x)
  | [], x, _, _ => rfl
  | y :: l, x, h, h2 => by
    rw [List.all_cons, Bool.and_eq_true] at h
    have hy := h2 y (List.mem_cons_self ..)
    rw [spoilB_cons, List.append_assoc, List.append_assoc, List.length_cons]
    unfold rdSpoil rdSpot
    rw [rdS_row y.1 h.1]
    simp only
    rw [rdP_app (be 4 y.2) _ 4 (by rw [be_length])]
    simp only
    rw [rdSpoil_app l x h.2 (fun z hz => h2 z (List.mem_cons_of_mem _ hz)), small_back h.1, val_be, Nat.mod_eq_of_lt (by omega)]
theorem rdCrash_app (c : Cr) (x : List UInt8) (h : crB c = true) (h2 : ∀ y ∈ c.spoil, y.2 < 4294967296) : rdCrash (crashB c ++ x) = some (c, x) := by
  unfold crB at h
  simp only [Bool.and_eq_true, decide_eq_true_eq] at h
  obtain ⟨⟨⟨⟨h3, h4⟩, h5⟩, h6⟩, h7⟩ := h
  unfold rdCrash crashB
  simp only [List.append_assoc, List.cons_append]
  rw [rdS_row c.names h3]
  simp only
  rw [rdC_byt _ (by omega)]
  simp only
  rw [rdKeep_app c.keep _ h6]
  simp only
  rw [rdC_byt _ (by omega)]
  simp only
  rw [rdSpoil_app c.spoil x h7 h2, small_back h3]
theorem plain_no {c : Cr} (h : plainB c = true) : c = noCr := by
  obtain ⟨n, k, s⟩ := c
  unfold plainB at h
  simp only [Bool.and_eq_true, decide_eq_true_eq, List.length_eq_zero_iff] at h
  obtain ⟨⟨rfl, rfl⟩, rfl⟩ := h
  rfl
theorem right_kind {a : Ac} (h : rightB a = true) : (1 ≤ a.kind ∧ a.kind ≤ 7) ∧ a.text.length ≤ 65536 ∧ a.draws.length ≤ 255 ∧ crB a.cr = true ∧ (a.kind ≠ 1 → a.text = []) ∧ (a.kind ≠ 2 → a.kind ≠ 6 → a.n = 0) ∧ (a.kind ≠ 5 → a.draws = []) ∧ (a.kind < 6 → a.cr = noCr) := by
  unfold rightB at h
  simp only [Bool.and_eq_true, Bool.or_eq_true, decide_eq_true_eq, List.length_eq_zero_iff] at h
  obtain ⟨⟨⟨⟨⟨⟨⟨h1, h2⟩, h3⟩, h4⟩, h5⟩, h6⟩, h7⟩, h8⟩ := h
  exact ⟨h1, h2, h3, h4, fun h => h5.resolve_left h, fun p q => (h6.resolve_left (fun h => h.elim p q)), fun h => h7.resolve_left h, fun h => plain_no (h8.resolve_left (by omega))⟩
theorem rdAct_app (a : Ac) (x : List UInt8) (h : rightB a = true) (ht : tyAc a) : rdAct (actB a ++ x) = some (a, x) := by
  obtain ⟨h1, h2, h3, h4, h5, h6, h7, h8⟩ := right_kind h
  obtain ⟨t1, t2, t3⟩ := ht
  obtain ⟨kind, n, text, draws, cr⟩ := a
  simp only at *
  unfold rdAct actB
  rw [List.cons_append, rdC_byt kind t1]
  simp only
  by_cases k1 : kind = 1
  · subst k1
    obtain rfl := h6 (by omega) (by omega)
    obtain rfl := h7 (by omega)
    obtain rfl := h8 (by omega)
    have := text_read text x (by omega) 65536 (by omega)
    simp only [if_true, List.nil_append, List.append_assoc, show ¬ (1 = 2 ∨ 1 = 6) by omega, show ¬ (1 = 5) by omega, show ¬ (6 ≤ 1) by omega, if_false]
    rw [this.1, this.2.1, this.2.2, if_pos rfl, ← List.append_assoc, ← List.length_append, List.drop_left]
  obtain rfl := h5 k1
  rw [if_neg k1, if_neg k1]
  by_cases k2 : kind = 2
  · subst k2
    obtain rfl := h7 (by omega)
    obtain rfl := h8 (by omega)
    simp only [if_true, true_or, List.nil_append, List.append_assoc, show ¬ (2 = 5) by omega, show ¬ (6 ≤ 2) by omega, if_false]
    rw [rdN_row n t2]
  rw [if_neg k2]
  by_cases k34 : kind = 3 ∨ kind = 4
  · obtain rfl := h6 (by omega) (by omega)
    obtain rfl := h7 (by omega)
    obtain rfl := h8 (by omega)
    rw [if_pos k34, if_neg (by omega), if_neg (by omega), if_neg (by omega)]
    rfl
  rw [if_neg k34]
  by_cases k5 : kind = 5
  · subst k5
    obtain rfl := h6 (by omega) (by omega)
    obtain rfl := h8 (by omega)
    simp only [if_true, List.nil_append, List.append_assoc, List.cons_append, show ¬ (5 = 2 ∨ 5 = 6) by omega, show ¬ (6 ≤ 5) by omega, if_false]
    rw [rdC_byt _ (by omega)]
    simp only
    rw [rdP_app draws x _ rfl]
  obtain rfl := h7 k5
  rw [if_neg k5, if_neg k5]
  by_cases k6 : kind = 6
  · subst k6
    simp only [if_true, or_true, List.nil_append, List.append_assoc, show 6 ≤ 6 by omega]
    rw [rdN_row n t2]
    simp only
    rw [rdCrash_app cr x h4 t3]
  obtain rfl := h6 k2 k6
  obtain rfl : kind = 7 := by omega
  simp only [List.nil_append, show ¬ (7 = 2) by omega, show ¬ (7 = 6) by omega, or_self, show 6 ≤ 7 by omega, if_true, if_false]
  rw [rdCrash_app cr x h4 t3]

/-! ### What is read is written -/
theorem rdN_is {s : List UInt8} {n : Nat} {t : List UInt8} (h : rdN s = some (n, t)) : s = row n ++ t ∧ n < 18446744073709551616 := by
  unfold rdN at h
  split at h
  · next ho =>
    simp only [Option.some.injEq, Prod.mk.injEq] at h
    obtain ⟨rfl, rfl⟩ := h
    obtain ⟨_, _, h3, h4⟩ := row_read s ho
    rw [h3, List.take_append_drop]
    exact ⟨rfl, h4⟩
  · cases h
theorem rdS_is {s : List UInt8} {n : Nat} {t : List UInt8} (h : rdS s = some (n, t)) : s = row n ++ t ∧ n ≤ 2147483647 := by
  unfold rdS at h
  split at h
  · next ho =>
    simp only [Option.some.injEq, Prod.mk.injEq] at h
    obtain ⟨rfl, rfl⟩ := h
    obtain ⟨_, _, h3, h4⟩ := row_read s ho.1
    rw [h3, List.take_append_drop]
    exact ⟨rfl, ho.2⟩
  · cases h
theorem rdC_is {s : List UInt8} {n : Nat} {t : List UInt8} (h : rdC s = some (n, t)) : s = byt n :: t ∧ n < 256 := by
  cases s with
  | nil => cases h
  | cons c s =>
    simp only [rdC, Option.some.injEq, Prod.mk.injEq] at h
    obtain ⟨rfl, rfl⟩ := h
    exact ⟨by rw [byt_eq], c.toNat_lt⟩
theorem rdP_is {n : Nat} {s l t : List UInt8} (h : rdP n s = some (l, t)) : s = l ++ t ∧ l.length = n := by
  unfold rdP at h
  split at h
  · next ho =>
    simp only [Option.some.injEq, Prod.mk.injEq] at h
    obtain ⟨rfl, rfl⟩ := h
    exact ⟨(List.take_append_drop n s).symm, by rw [List.length_take]; omega⟩
  · cases h
theorem rdKeep_is : ∀ (k : Nat) (s : List UInt8) (l : List Int) (t : List UInt8), rdKeep k s = some (l, t) → s = keepB l ++ t ∧ l.length = k ∧ l.all smallB = true
  | 0, s, l, t, h => by
    simp only [rdKeep, Option.some.injEq, Prod.mk.injEq] at h
    obtain ⟨rfl, rfl⟩ := h
    exact ⟨rfl, rfl, rfl⟩
  | k + 1, s, l, t, h => by
    unfold rdKeep at h
    split at h
    · cases h
    · next n u hs =>
      split at h
      · cases h
      · next m v hk =>
        simp only [Option.some.injEq, Prod.mk.injEq] at h
        obtain ⟨rfl, rfl⟩ := h
        obtain ⟨rfl, h1⟩ := rdS_is hs
        obtain ⟨rfl, h2, h3⟩ := rdKeep_is k u m v hk
        refine ⟨by rw [keepB_cons, List.append_assoc]; rfl, by rw [List.length_cons, h2], ?_⟩
        rw [List.all_cons, h3, Bool.and_true]
        simp only [smallB, decide_eq_true_eq]; omega
theorem rdSpot_is {s : List UInt8} {x : Int × Nat} {t : List UInt8} (h : rdSpot s = some (x, t)) : s = row x.1.toNat ++ (be 4 x.2 ++ t) ∧ smallB x.1 = true ∧ x.2 < 4294967296 := by
  unfold rdSpot at h
  split at h
  · cases h
  · next n u hs =>
    split at h
    · cases h
    · next m v hp =>
      simp only [Option.some.injEq, Prod.mk.injEq] at h
      obtain ⟨rfl, rfl⟩ := h
      obtain ⟨rfl, h1⟩ := rdS_is hs
      obtain ⟨rfl, h2⟩ := rdP_is hp
      have hb := be_val m
      rw [h2] at hb
      have hv := val_lt m
      rw [h2] at hv
      refine ⟨by simp only; rw [hb]; rfl, by simp only [smallB, decide_eq_true_eq]; omega, by simpa using hv⟩
theorem rdSpoil_is : ∀ (k : Nat) (s : List UInt8) (l : List (Int × Nat)) (t : List UInt8), rdSpoil k s = some (l, t) → s = spoilB l ++ t ∧ l.length = k ∧ l.all (fun x => smallB x.1) = true ∧ ∀ x ∈ l, x.2 < 4294967296
  | 0, s, l, t, h => by
    simp only [rdSpoil, Option.some.injEq, Prod.mk.injEq] at h
    obtain ⟨rfl, rfl⟩ := h
    exact ⟨rfl, rfl, rfl, fun x hx => by simp at hx⟩
  | k + 1, s, l, t, h => by
    unfold rdSpoil at h
    split at h
    · cases h
    · next x u hs =>
      split at h
      · cases h
      · next m v hk =>
        simp only [Option.some.injEq, Prod.mk.injEq] at h
        obtain ⟨rfl, rfl⟩ := h
        obtain ⟨rfl, h1, h1'⟩ := rdSpot_is hs
        obtain ⟨rfl, h2, h3, h4⟩ := rdSpoil_is k u m v hk
        refine ⟨by rw [spoilB_cons, List.append_assoc, List.append_assoc], by rw [List.length_cons, h2], by rw [List.all_cons, h3, Bool.and_true]; exact h1, fun y hy => ?_⟩
        rcases List.mem_cons.1 hy with rfl | hy
        · exact h1'
        · exact h4 y hy
theorem rdCrash_is {s : List UInt8} {c : Cr} {t : List UInt8} (h : rdCrash s = some (c, t)) : s = crashB c ++ t ∧ crB c = true ∧ ∀ x ∈ c.spoil, x.2 < 4294967296 := by
  unfold rdCrash at h
  split at h
  · cases h
  · next n s1 hs =>
    split at h
    · cases h
    · next k s2 hk =>
      split at h
      · cases h
      · next l s3 hl =>
        split at h
        · cases h
        · next q s4 hq =>
          split at h
          · cases h
          · next m s5 hm =>
            simp only [Option.some.injEq, Prod.mk.injEq] at h
            obtain ⟨rfl, rfl⟩ := h
            obtain ⟨rfl, h1⟩ := rdS_is hs
            obtain ⟨rfl, h2⟩ := rdC_is hk
            obtain ⟨rfl, h3, h4⟩ := rdKeep_is _ _ _ _ hl
            obtain ⟨rfl, h5⟩ := rdC_is hq
            obtain ⟨rfl, h6, h7, h8⟩ := rdSpoil_is _ _ _ _ hm
            refine ⟨?_, ?_, h8⟩
            · unfold crashB
              simp only [h3, h6, List.append_assoc, List.cons_append]
              rfl
            · unfold crB
              simp only [Bool.and_eq_true, decide_eq_true_eq]
              exact ⟨⟨⟨⟨by simp only [smallB, decide_eq_true_eq]; omega, by omega⟩, by omega⟩, h4⟩, h7⟩
theorem crB_no : crB noCr = true := rfl
theorem rdAct_is {s : List UInt8} {a : Ac} {t : List UInt8} (h : rdAct s = some (a, t)) : s = actB a ++ t ∧ rightB a = true ∧ tyAc a := by
  unfold rdAct at h
  split at h
  · cases h
  · next k u hk =>
    obtain ⟨rfl, hk2⟩ := rdC_is hk
    split at h
    · next k1 =>
      subst k1
      split at h
      · next ho =>
        simp only [Option.some.injEq, Prod.mk.injEq] at h
        obtain ⟨rfl, rfl⟩ := h
        have ho' := ho
        unfold tOk at ho'
        simp only [Bool.and_eq_true, decide_eq_true_eq] at ho'
        obtain ⟨q1, q2, q3, q4⟩ := ho'
        obtain ⟨r1, r2, r3, r4⟩ := row_read u q1
        have hl : (tText u 65536).length = rNum u := by unfold tText; rw [if_pos ho, List.length_take, List.length_drop]; omega
        refine ⟨?_, ?_, ⟨by simp only; omega, by simp only; omega, fun x hx => by simp [noCr] at hx⟩⟩
        · unfold actB
          simp only [if_true, List.append_nil, List.nil_append, List.append_assoc, List.cons_append, show ¬ (1 = 2 ∨ 1 = 6) by omega, show ¬ (1 = 5) by omega, show ¬ (6 ≤ 1) by omega, if_false]
          rw [hl, r3]
          unfold tText tSize
          rw [if_pos ho, if_pos ho, ← List.drop_drop, List.take_append_drop, List.take_append_drop]
        · unfold rightB
          simp only [Bool.and_eq_true, Bool.or_eq_true, decide_eq_true_eq]
          exact ⟨⟨⟨⟨⟨⟨⟨by omega, by omega⟩, by simp⟩, crB_no⟩, by simp⟩, by simp⟩, by simp⟩, .inr rfl⟩
      · cases h
    · next k1 =>
      split at h
      · next k2 =>
        subst k2
        split at h
        · cases h
        · next n v hn =>
          simp only [Option.some.injEq, Prod.mk.injEq] at h
          obtain ⟨rfl, rfl⟩ := h
          obtain ⟨rfl, h1⟩ := rdN_is hn
          refine ⟨?_, rfl, ⟨by simp only; omega, h1, fun x hx => by simp [noCr] at hx⟩⟩
          simp [actB]
      · next k2 =>
        split at h
        · next k34 =>
          simp only [Option.some.injEq, Prod.mk.injEq] at h
          obtain ⟨rfl, rfl⟩ := h
          refine ⟨?_, ?_, ⟨hk2, by simp only; omega, fun x hx => by simp [noCr] at hx⟩⟩
          · unfold actB
            simp only
            rw [if_neg k1, if_neg (by omega), if_neg (by omega), if_neg (by omega)]
            rfl
          · rcases k34 with rfl | rfl <;> rfl
        · next k34 =>
          split at h
          · next k5 =>
            subst k5
            split at h
            · cases h
            · next n v hn =>
              split at h
              · cases h
              · next d x hd =>
                simp only [Option.some.injEq, Prod.mk.injEq] at h
                obtain ⟨rfl, rfl⟩ := h
                obtain ⟨rfl, h1⟩ := rdC_is hn
                obtain ⟨rfl, h2⟩ := rdP_is hd
                refine ⟨?_, ?_, ⟨by simp only; omega, by simp only; omega, fun x hx => by simp [noCr] at hx⟩⟩
                · simp [actB, h2]
                · unfold rightB
                  simp only [Bool.and_eq_true, Bool.or_eq_true, decide_eq_true_eq]
                  exact ⟨⟨⟨⟨⟨⟨⟨by omega, by simp⟩, by omega⟩, crB_no⟩, by simp⟩, by simp⟩, by simp⟩, .inr rfl⟩
          · next k5 =>
            split at h
            · next k6 =>
              subst k6
              split at h
              · cases h
              · next n v hn =>
                split at h
                · cases h
                · next c x hc =>
                  simp only [Option.some.injEq, Prod.mk.injEq] at h
                  obtain ⟨rfl, rfl⟩ := h
                  obtain ⟨rfl, h1⟩ := rdN_is hn
                  obtain ⟨rfl, h2, h3⟩ := rdCrash_is hc
                  refine ⟨by simp [actB], ?_, ⟨by simp only; omega, h1, h3⟩⟩
                  unfold rightB
                  simp [h2]
            · next k6 =>
              split at h
              · next k7 =>
                subst k7
                split at h
                · cases h
                · next c x hc =>
                  simp only [Option.some.injEq, Prod.mk.injEq] at h
                  obtain ⟨rfl, rfl⟩ := h
                  obtain ⟨rfl, h2, h3⟩ := rdCrash_is hc
                  refine ⟨by simp [actB], ?_, ⟨by simp only; omega, by simp only; omega, h3⟩⟩
                  unfold rightB
                  simp [h2]
              · cases h

/-! ### Scripts -/
def RightL (l : List Ac) : Prop := ∀ a ∈ l, rightB a = true ∧ tyAc a
theorem actB_pos (a : Ac) : 1 ≤ (actB a).length := by unfold actB; rw [List.length_cons]; omega
theorem scriptB_len : ∀ l : List Ac, l.length ≤ (scriptB l).length
  | [] => by simp
  | a :: l => by
    have := scriptB_len l
    have := actB_pos a
    rw [scriptB_cons, List.length_append, List.length_cons]; omega
theorem rdActs_app : ∀ (l : List Ac) (f : Nat) (x : List UInt8), RightL l → rdActs (l.length + f) (scriptB l ++ x) = l ++ rdActs f x
  | [], f, x, _ => by rw [List.length_nil, Nat.zero_add]; rfl
  | a :: l, f, x, h => by
    obtain ⟨h1, h2⟩ := h a (List.mem_cons_self ..)
    rw [scriptB_cons, List.append_assoc, List.length_cons, show l.length + 1 + f = (l.length + f) + 1 by omega]
    show (match rdAct (actB a ++ (scriptB l ++ x)) with | none => [] | some (a, t) => a :: rdActs (l.length + f) t) = _
    rw [rdAct_app a _ h1 h2]
    simp only
    rw [rdActs_app l f x (fun b hb => h b (List.mem_cons_of_mem _ hb))]
    rfl
theorem rdActs_nil : ∀ f, rdActs f [] = []
  | 0 => rfl
  | f + 1 => rfl
theorem rdActs_all (l : List Ac) (f : Nat) (h : RightL l) (hf : l.length ≤ f) : rdActs f (scriptB l) = l := by
  have := rdActs_app l (f - l.length) [] h
  rw [List.append_nil, rdActs_nil, List.append_nil, show l.length + (f - l.length) = f by omega] at this
  exact this
/-- What is decoded may be, and its script is a beginning of the text; behind it no act stands. -/
theorem rdActs_is : ∀ (f : Nat) (s : List UInt8), RightL (rdActs f s) ∧ (rdActs f s).length ≤ f ∧ ∃ x, s = scriptB (rdActs f s) ++ x ∧ ((rdActs f s).length < f → rdAct x = none)
  | 0, s => ⟨fun a h => by simp [rdActs] at h, Nat.le_refl _, s, rfl, fun h => by simp [rdActs] at h⟩
  | f + 1, s => by
    unfold rdActs
    cases h : rdAct s with
    | none => exact ⟨fun a h => by simp at h, by simp, s, rfl, fun _ => h⟩
    | some p =>
      obtain ⟨a, t⟩ := p
      obtain ⟨rfl, h1, h2⟩ := rdAct_is h
      obtain ⟨i1, i2, x, i3, i4⟩ := rdActs_is f t
      refine ⟨fun b hb => ?_, by simp only [List.length_cons]; omega, x, ?_, fun hl => i4 (by simp only [List.length_cons] at hl; omega)⟩
      · rcases List.mem_cons.1 hb with rfl | hb
        · exact ⟨h1, h2⟩
        · exact i1 b hb
      · simp only
        rw [scriptB_cons, List.append_assoc, ← i3]
/-- No act's bytes are the beginning of another one's. -/
theorem act_one {a b : Ac} {x y : List UInt8} (ha : rightB a = true ∧ tyAc a) (hb : rightB b = true ∧ tyAc b) (h : actB a ++ x = actB b ++ y) : a = b ∧ x = y := by
  have h1 := rdAct_app a x ha.1 ha.2
  have h2 := rdAct_app b y hb.1 hb.2
  rw [h, h2] at h1
  simp only [Option.some.injEq, Prod.mk.injEq] at h1
  exact ⟨h1.1.symm, h1.2.symm⟩
/-- Cut inside, an act is none. -/
theorem act_cut {a : Ac} (ha : rightB a = true ∧ tyAc a) (k : Nat) (hk : k < (actB a).length) : rdAct ((actB a).take k) = none := by
  cases h : rdAct ((actB a).take k) with
  | none => rfl
  | some p =>
    obtain ⟨b, t⟩ := p
    obtain ⟨h1, h2, h3⟩ := rdAct_is h
    have e : actB a ++ [] = actB b ++ (t ++ (actB a).drop k) := by
      rw [List.append_nil, ← List.append_assoc, ← h1, List.take_append_drop]
    have := (act_one ha ⟨h2, h3⟩ e).2
    have hl := congrArg List.length this
    rw [List.length_append, List.length_drop, List.length_nil] at hl
    omega
/-- A beginning of a script says a beginning of its acts. -/
theorem acts_cut : ∀ (l : List Ac) (f k : Nat), RightL l → l.length ≤ f → ∃ j, j ≤ l.length ∧ rdActs f ((scriptB l).take k) = l.take j ∧ (k < (scriptB l).length → j < l.length)
  | [], f, k, _, _ => ⟨0, Nat.le_refl _, by rw [scriptB_nil, List.take_nil, rdActs_nil]; rfl, fun h => by simp [scriptB_nil] at h⟩
  | a :: l, 0, k, h, hf => by simp at hf
  | a :: l, f + 1, k, h, hf => by
    obtain ⟨h1, h2⟩ := h a (List.mem_cons_self ..)
    by_cases hk : k < (actB a).length
    · refine ⟨0, Nat.zero_le _, ?_, fun _ => by simp⟩
      rw [scriptB_cons, List.take_append_of_le_length (by omega)]
      unfold rdActs
      rw [act_cut ⟨h1, h2⟩ k hk]
      rfl
    · obtain ⟨j, j1, j2, j3⟩ := acts_cut l f (k - (actB a).length) (fun b hb => h b (List.mem_cons_of_mem _ hb)) (by simpa using hf)
      refine ⟨j + 1, by simpa using j1, ?_, fun hlt => ?_⟩
      · rw [scriptB_cons, List.take_append, List.take_of_length_le (by omega)]
        unfold rdActs
        rw [rdAct_app a _ h1 h2]
        simp only
        rw [j2, List.take_succ_cons]
      · rw [scriptB_cons, List.length_append] at hlt
        have := j3 (by omega)
        simpa using this
end Go.Proofs.YtnflbgindcejjaaDoor.P
