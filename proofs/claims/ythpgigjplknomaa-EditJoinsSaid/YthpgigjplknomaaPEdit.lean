/- Plain law: edits: which may be, their bytes, and what is read of bytes. No program here. -/
import Derived.Test.YthpgigjplknomaaPOrd
namespace Go.Proofs.Ythpgigjplknomaa.P
open Go.Op (bytesLess)

structure Tab where
  n : Nat
  level : Int
  count : Int
  size : Int
  first : List UInt8
  last : List UInt8
  least : Nat
  most : Nat
deriving DecidableEq
structure Ed where
  add : List Tab
  drop : List Nat
  log : Nat
  seq : Nat
  next : Nat
deriving DecidableEq
def numB (n : Nat) : Bool := decide (1 ≤ n ∧ n ≤ 1099511627776)
def keyB (s : List UInt8) : Bool := decide (1 ≤ s.length ∧ s.length ≤ 64)
/-- Is a text behind another one? -/
def gtB (a b : List UInt8) : Bool := !bytesLess a b && !(a == b)
def wrongB (t : Tab) : Bool :=
  decide (t.level < 0) || (decide (4 ≤ t.level) || (decide (t.count < 1) || (decide (t.size < 1) || (!numB t.n || (!keyB t.first || (!keyB t.last || (gtB t.first t.last || (decide (t.least < 1) || decide (t.most < t.least)))))))))
def mayB (e : Ed) : Bool := !e.add.any wrongB && !e.drop.any (fun n => !numB n)
def chkE (e : Ed) : Nat := if mayB e then 0 else 1
theorem may_iff {e : Ed} (h : mayB e = true) : (∀ t ∈ e.add, wrongB t = false) ∧ ∀ n ∈ e.drop, 1 ≤ n ∧ n ≤ 1099511627776 := by
  unfold mayB at h
  simp only [Bool.and_eq_true, Bool.not_eq_true', List.any_eq_false, Bool.not_eq_true] at h
  refine ⟨h.1, fun n hn => ?_⟩
  have h2 := h.2 n hn
  cases hb : numB n with
  | true => exact of_decide_eq_true hb
  | false => rw [hb] at h2; simp at h2
theorem wrong_no {t : Tab} (h : wrongB t = false) : 0 ≤ t.level ∧ t.level < 4 ∧ 1 ≤ t.count ∧ 1 ≤ t.size ∧ (1 ≤ t.n ∧ t.n ≤ 1099511627776) ∧ (1 ≤ t.first.length ∧ t.first.length ≤ 64) ∧ (1 ≤ t.last.length ∧ t.last.length ≤ 64) ∧ gtB t.first t.last = false ∧ 1 ≤ t.least ∧ t.least ≤ t.most := by
  unfold wrongB numB keyB at h
  simp only [Bool.or_eq_false_iff, decide_eq_false_iff_not, Bool.not_eq_false', decide_eq_true_eq] at h
  obtain ⟨h1, h2, h3, h4, h5, h6, h7, h8, h9, h10⟩ := h
  exact ⟨by omega, by omega, by omega, by omega, h5, h6, h7, h8, by omega, by omega⟩

def tabRow (t : Tab) : List UInt8 := vars [t.n, t.level.toNat, t.count.toNat, t.size.toNat, t.least, t.most] ++ texts [t.first, t.last]
def tabRows (l : List Tab) : List UInt8 := (l.map tabRow).flatten
theorem tabRows_cons (t : Tab) (l : List Tab) : tabRows (t :: l) = tabRow t ++ tabRows l := by simp [tabRows]
theorem tabRows_snoc (l : List Tab) (t : Tab) : tabRows (l ++ [t]) = tabRows l ++ tabRow t := by simp [tabRows]
/-- An edit's bytes. -/
def encE (e : Ed) : List UInt8 := row e.add.length ++ (tabRows e.add ++ (row e.drop.length ++ (vars e.drop ++ vars [e.log, e.seq, e.next])))

/-! ### Readers: what is read, and what is left -/
def rd (s : List UInt8) : Option (Nat × List UInt8) := if rOk s = true then some (rNum s, s.drop (rSize s)) else none
def rdI (s : List UInt8) : Option (Nat × List UInt8) := if rOk s = true ∧ rNum s ≤ 9223372036854775807 then some (rNum s, s.drop (rSize s)) else none
def rdT (s : List UInt8) : Option (List UInt8 × List UInt8) := if tOk s 64 = true then some (tText s 64, s.drop (tSize s 64)) else none
def rdTab (s0 : List UInt8) : Option (Tab × List UInt8) := do
  let (n, s1) ← rd s0
  let (lv, s2) ← rdI s1
  let (ct, s3) ← rdI s2
  let (sz, s4) ← rdI s3
  let (le, s5) ← rd s4
  let (mo, s6) ← rd s5
  let (a, s7) ← rdT s6
  let (b, s8) ← rdT s7
  some (⟨n, lv, ct, sz, a, b, le, mo⟩, s8)
def rdTabs : Nat → List UInt8 → Option (List Tab × List UInt8)
  | 0, s => some ([], s)
  | n + 1, s => do
    let (t, s1) ← rdTab s
    let (l, s2) ← rdTabs n s1
    some (t :: l, s2)
def rdNums : Nat → List UInt8 → Option (List Nat × List UInt8)
  | 0, s => some ([], s)
  | n + 1, s => do
    let (t, s1) ← rd s
    let (l, s2) ← rdNums n s1
    some (t :: l, s2)
def rdEd (s0 : List UInt8) : Option (Ed × List UInt8) := do
  let (n, s1) ← rd s0
  let (add, s2) ← rdTabs n s1
  let (k, s3) ← rd s2
  let (drop, s4) ← rdNums k s3
  let (a, s5) ← rd s4
  let (b, s6) ← rd s5
  let (c, s7) ← rd s6
  some (⟨add, drop, a, b, c⟩, s7)
/-- The edit of some bytes. -/
def decE (s : List UInt8) : Option Ed :=
  if s.length ≤ 524288 then match rdEd s with
    | some (e, []) => if mayB e = true then some e else none
    | _ => none
  else none

theorem rd_row (n : Nat) (h : n < 18446744073709551616) (x : List UInt8) : rd (row n ++ x) = some (n, x) := by
  obtain ⟨h1, h2, h3⟩ := read_row n h x
  unfold rd
  rw [if_pos h1, h2, h3, List.drop_left]
theorem rdI_row (n : Nat) (h : n ≤ 9223372036854775807) (x : List UInt8) : rdI (row n ++ x) = some (n, x) := by
  obtain ⟨h1, h2, h3⟩ := read_row n (by omega) x
  unfold rdI
  rw [h1, h2, h3, if_pos ⟨rfl, h⟩, List.drop_left]
theorem rdT_row (a : List UInt8) (h : a.length ≤ 64) (x : List UInt8) : rdT (row a.length ++ (a ++ x)) = some (a, x) := by
  obtain ⟨h1, h2, h3⟩ := text_read a x (by omega) 64 (by omega)
  unfold rdT
  rw [if_pos h1, h2, h3]
  congr 2
  rw [← List.append_assoc, ← List.length_append, List.drop_left]
/-- What is read of a text is a row's beginning. -/
theorem tOk_row {s : List UInt8} {k : Int} (h : tOk s k = true) : (tText s k).length ≤ k ∧ tSize s k ≤ s.length ∧ row (tText s k).length ++ tText s k = s.take (tSize s k) := by
  have h0 := h
  unfold tOk at h
  simp only [Bool.and_eq_true, decide_eq_true_eq] at h
  obtain ⟨hr, h1, h2, h3⟩ := h
  obtain ⟨r1, r2, r3, r4⟩ := row_read s hr
  have e1 : tText s k = (s.drop (rSize s)).take (rNum s) := by unfold tText; rw [h0, if_pos rfl]
  have e2 : tSize s k = rSize s + rNum s := by unfold tSize; rw [h0, if_pos rfl]
  have e3 : (tText s k).length = rNum s := by rw [e1, List.length_take, List.length_drop]; omega
  rw [e3, e2]
  refine ⟨by omega, by omega, ?_⟩
  rw [e1, r3, List.take_add]
theorem rd_some {s r : List UInt8} {n : Nat} (h : rd s = some (n, r)) : s = row n ++ r ∧ n < 18446744073709551616 := by
  unfold rd at h
  split at h
  · next h1 =>
    simp only [Option.some.injEq, Prod.mk.injEq] at h
    obtain ⟨rfl, rfl⟩ := h
    obtain ⟨_, _, r3, r4⟩ := row_read s h1
    exact ⟨by rw [r3, List.take_append_drop], r4⟩
  · cases h
theorem rdI_some {s r : List UInt8} {n : Nat} (h : rdI s = some (n, r)) : s = row n ++ r ∧ n ≤ 9223372036854775807 := by
  unfold rdI at h
  split at h
  · next h1 =>
    simp only [Option.some.injEq, Prod.mk.injEq] at h
    obtain ⟨rfl, rfl⟩ := h
    obtain ⟨_, _, r3, r4⟩ := row_read s h1.1
    exact ⟨by rw [r3, List.take_append_drop], h1.2⟩
  · cases h
theorem rdT_some {s r : List UInt8} {a : List UInt8} (h : rdT s = some (a, r)) : s = row a.length ++ (a ++ r) ∧ a.length ≤ 64 := by
  unfold rdT at h
  split at h
  · next h1 =>
    simp only [Option.some.injEq, Prod.mk.injEq] at h
    obtain ⟨rfl, rfl⟩ := h
    obtain ⟨t1, t2, t3⟩ := tOk_row h1
    exact ⟨by rw [← List.append_assoc, t3, List.take_append_drop], by omega⟩
  · cases h
/-- A table of numbers that its fields have. -/
def tyT (t : Tab) : Prop := t.n < 18446744073709551616 ∧ t.level ≤ 9223372036854775807 ∧ t.count ≤ 9223372036854775807 ∧ t.size ≤ 9223372036854775807 ∧ t.least < 18446744073709551616 ∧ t.most < 18446744073709551616
def tyE (e : Ed) : Prop := (∀ t ∈ e.add, tyT t) ∧ e.add.length < 18446744073709551616 ∧ e.drop.length < 18446744073709551616 ∧ (∀ n ∈ e.drop, n < 18446744073709551616) ∧ e.log < 18446744073709551616 ∧ e.seq < 18446744073709551616 ∧ e.next < 18446744073709551616
theorem tabRow_is (t : Tab) (x : List UInt8) : tabRow t ++ x = row t.n ++ (row t.level.toNat ++ (row t.count.toNat ++ (row t.size.toNat ++ (row t.least ++ (row t.most ++ (row t.first.length ++ (t.first ++ (row t.last.length ++ (t.last ++ x))))))))) := by
  simp [tabRow, vars, texts]
theorem rdTab_row (t : Tab) (hw : wrongB t = false) (ht : tyT t) (x : List UInt8) : rdTab (tabRow t ++ x) = some (t, x) := by
  obtain ⟨h1, h2, h3, h4, h5, h6, h7, h8, h9, h10⟩ := wrong_no hw
  obtain ⟨k1, k2, k3, k4, k5, k6⟩ := ht
  rw [tabRow_is]
  unfold rdTab
  simp only [rd_row _ k1, rdI_row _ (show t.level.toNat ≤ 9223372036854775807 by omega), rdI_row _ (show t.count.toNat ≤ 9223372036854775807 by omega), rdI_row _ (show t.size.toNat ≤ 9223372036854775807 by omega), rd_row _ k5, rd_row _ k6, rdT_row _ h6.2, rdT_row _ h7.2, Option.bind_eq_bind, Option.bind_some]
  rw [Int.toNat_of_nonneg h1, Int.toNat_of_nonneg (by omega), Int.toNat_of_nonneg (by omega)]
theorem rdTab_some {s r : List UInt8} {t : Tab} (h : rdTab s = some (t, r)) : s = tabRow t ++ r ∧ tyT t := by
  unfold rdTab at h
  simp only [Option.bind_eq_bind, Option.bind_eq_some_iff, Prod.exists] at h
  obtain ⟨n, s1, h1, lv, s2, h2, ct, s3, h3, sz, s4, h4, le, s5, h5, mo, s6, h6, a, s7, h7, b, s8, h8, h9⟩ := h
  simp only [Option.some.injEq, Prod.mk.injEq] at h9
  obtain ⟨rfl, rfl⟩ := h9
  obtain ⟨e1, b1⟩ := rd_some h1
  obtain ⟨e2, b2⟩ := rdI_some h2
  obtain ⟨e3, b3⟩ := rdI_some h3
  obtain ⟨e4, b4⟩ := rdI_some h4
  obtain ⟨e5, b5⟩ := rd_some h5
  obtain ⟨e6, b6⟩ := rd_some h6
  obtain ⟨e7, b7⟩ := rdT_some h7
  obtain ⟨e8, b8⟩ := rdT_some h8
  refine ⟨?_, b1, by show (lv : Int) ≤ _; omega, by show (ct : Int) ≤ _; omega, by show (sz : Int) ≤ _; omega, b5, b6⟩
  rw [tabRow_is, e1, e2, e3, e4, e5, e6, e7, e8]
  rfl
theorem rdTabs_row : ∀ (l : List Tab) (x : List UInt8), (∀ t ∈ l, wrongB t = false ∧ tyT t) → rdTabs l.length (tabRows l ++ x) = some (l, x)
  | [], x, _ => by simp [rdTabs, tabRows]
  | t :: l, x, h => by
    have h0 := h t (List.mem_cons_self ..)
    have ih := rdTabs_row l x (fun q hq => h q (List.mem_cons_of_mem _ hq))
    rw [tabRows_cons, List.append_assoc, List.length_cons]
    simp only [rdTabs, rdTab_row t h0.1 h0.2, ih, Option.bind_eq_bind, Option.bind_some]
theorem rdTabs_some : ∀ (n : Nat) (s r : List UInt8) (l : List Tab), rdTabs n s = some (l, r) → s = tabRows l ++ r ∧ l.length = n ∧ ∀ t ∈ l, tyT t
  | 0, s, r, l, h => by
    simp only [rdTabs, Option.some.injEq, Prod.mk.injEq] at h
    obtain ⟨rfl, rfl⟩ := h
    simp [tabRows]
  | n + 1, s, r, l, h => by
    simp only [rdTabs, Option.bind_eq_bind, Option.bind_eq_some_iff, Prod.exists] at h
    obtain ⟨t, s1, h1, l', s2, h2, h3⟩ := h
    simp only [Option.some.injEq, Prod.mk.injEq] at h3
    obtain ⟨rfl, rfl⟩ := h3
    obtain ⟨e1, b1⟩ := rdTab_some h1
    obtain ⟨e2, b2, b3⟩ := rdTabs_some n _ _ _ h2
    refine ⟨by rw [tabRows_cons, e1, e2, List.append_assoc], by simp [b2], fun q hq => ?_⟩
    rcases List.mem_cons.1 hq with rfl | hq
    · exact b1
    · exact b3 q hq
theorem vars_cons (n : Nat) (l : List Nat) : vars (n :: l) = row n ++ vars l := by simp [vars]
theorem rdNums_row : ∀ (l : List Nat) (x : List UInt8), (∀ n ∈ l, n < 18446744073709551616) → rdNums l.length (vars l ++ x) = some (l, x)
  | [], x, _ => by simp [rdNums, vars]
  | n :: l, x, h => by
    have h0 := h n (List.mem_cons_self ..)
    have ih := rdNums_row l x (fun q hq => h q (List.mem_cons_of_mem _ hq))
    rw [vars_cons, List.append_assoc, List.length_cons]
    simp only [rdNums, rd_row n h0, ih, Option.bind_eq_bind, Option.bind_some]
theorem rdNums_some : ∀ (n : Nat) (s r : List UInt8) (l : List Nat), rdNums n s = some (l, r) → s = vars l ++ r ∧ l.length = n ∧ ∀ t ∈ l, t < 18446744073709551616
  | 0, s, r, l, h => by
    simp only [rdNums, Option.some.injEq, Prod.mk.injEq] at h
    obtain ⟨rfl, rfl⟩ := h
    simp [vars]
  | n + 1, s, r, l, h => by
    simp only [rdNums, Option.bind_eq_bind, Option.bind_eq_some_iff, Prod.exists] at h
    obtain ⟨t, s1, h1, l', s2, h2, h3⟩ := h
    simp only [Option.some.injEq, Prod.mk.injEq] at h3
    obtain ⟨rfl, rfl⟩ := h3
    obtain ⟨e1, b1⟩ := rd_some h1
    obtain ⟨e2, b2, b3⟩ := rdNums_some n _ _ _ h2
    refine ⟨by rw [vars_cons, e1, e2, List.append_assoc], by simp [b2], fun q hq => ?_⟩
    rcases List.mem_cons.1 hq with rfl | hq
    · exact b1
    · exact b3 q hq
theorem encE_is (e : Ed) (x : List UInt8) : encE e ++ x = row e.add.length ++ (tabRows e.add ++ (row e.drop.length ++ (vars e.drop ++ (row e.log ++ (row e.seq ++ (row e.next ++ x)))))) := by
  simp [encE, vars]
theorem rdEd_row (e : Ed) (hm : mayB e = true) (ht : tyE e) (x : List UInt8) : rdEd (encE e ++ x) = some (e, x) := by
  obtain ⟨h1, h2⟩ := may_iff hm
  obtain ⟨k1, k2, k3, k4, k5, k6, k7⟩ := ht
  rw [encE_is]
  unfold rdEd
  simp only [rd_row _ k2, rdTabs_row _ _ (fun t h => ⟨h1 t h, k1 t h⟩), rd_row _ k3, rdNums_row _ _ k4, rd_row _ k5, rd_row _ k6, rd_row _ k7, Option.bind_eq_bind, Option.bind_some]
theorem rdEd_some {s r : List UInt8} {e : Ed} (h : rdEd s = some (e, r)) : s = encE e ++ r ∧ tyE e := by
  unfold rdEd at h
  simp only [Option.bind_eq_bind, Option.bind_eq_some_iff, Prod.exists] at h
  obtain ⟨n, s1, h1, add, s2, h2, k, s3, h3, drop, s4, h4, a, s5, h5, b, s6, h6, c, s7, h7, h8⟩ := h
  simp only [Option.some.injEq, Prod.mk.injEq] at h8
  obtain ⟨rfl, rfl⟩ := h8
  obtain ⟨e1, b1⟩ := rd_some h1
  obtain ⟨e2, b2, c2⟩ := rdTabs_some _ _ _ _ h2
  obtain ⟨e3, b3⟩ := rd_some h3
  obtain ⟨e4, b4, c4⟩ := rdNums_some _ _ _ _ h4
  obtain ⟨e5, b5⟩ := rd_some h5
  obtain ⟨e6, b6⟩ := rd_some h6
  obtain ⟨e7, b7⟩ := rd_some h7
  refine ⟨?_, c2, by rw [b2]; exact b1, by rw [b4]; exact b3, c4, b5, b6, b7⟩
  rw [encE_is]
  simp only
  rw [b2, b4, e1, e2, e3, e4, e5, e6, e7]
theorem decE_some {s : List UInt8} {e : Ed} (h : decE s = some e) : mayB e = true ∧ encE e = s ∧ s.length ≤ 524288 ∧ tyE e := by
  unfold decE at h
  split at h
  · next h0 =>
    split at h
    · next e' he =>
      split at h
      · next hm =>
        simp only [Option.some.injEq] at h
        subst h
        obtain ⟨h1, h2⟩ := rdEd_some he
        rw [List.append_nil] at h1
        exact ⟨hm, h1.symm, h0, h2⟩
      · cases h
    · cases h
  · cases h
theorem decE_enc (e : Ed) (hm : mayB e = true) (ht : tyE e) (hl : (encE e).length ≤ 524288) : decE (encE e) = some e := by
  have h := rdEd_row e hm ht []
  rw [List.append_nil] at h
  unfold decE
  rw [if_pos hl, h]
  simp only
  rw [if_pos hm]
theorem encE_prefix {e e' : Ed} {y : List UInt8} (h : mayB e = true) (ht : tyE e) (h' : mayB e' = true) (ht' : tyE e') (he : encE e = encE e' ++ y) : e = e' ∧ y = [] := by
  have r1 := rdEd_row e h ht []
  rw [List.append_nil, he, rdEd_row e' h' ht' y] at r1
  simp only [Option.some.injEq, Prod.mk.injEq] at r1
  exact ⟨r1.1.symm, r1.2⟩
theorem encE_pos (e : Ed) : 1 ≤ (encE e).length := by
  unfold encE
  rw [List.length_append, row_length]
  omega
theorem decE_cut {e : Ed} (h : mayB e = true) (ht : tyE e) (m : Nat) (hm : m < (encE e).length) : decE ((encE e).take m) = none := by
  cases hd : decE ((encE e).take m) with
  | none => rfl
  | some e' =>
    obtain ⟨h1, h2, _, h3⟩ := decE_some hd
    have he : encE e = encE e' ++ (encE e).drop m := by rw [h2, List.take_append_drop]
    have h4 := congrArg List.length (encE_prefix h ht h1 h3 he).2
    rw [List.length_drop, List.length_nil] at h4
    omega
theorem decE_more {e : Ed} (h : mayB e = true) (ht : tyE e) (x : List UInt8) (hx : x ≠ []) : decE (encE e ++ x) = none := by
  cases hd : decE (encE e ++ x) with
  | none => rfl
  | some e' =>
    obtain ⟨h1, h2, _, h3⟩ := decE_some hd
    exact absurd (encE_prefix h1 h3 h ht h2).2 hx
end Go.Proofs.Ythpgigjplknomaa.P
