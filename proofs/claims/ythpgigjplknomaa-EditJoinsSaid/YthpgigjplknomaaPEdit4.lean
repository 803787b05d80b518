/- Plain law: the document's way of reading edits: numbers, a table, the whole. -/
import Derived.Test.YthpgigjplknomaaPEdit2
namespace Go.Proofs.Ythpgigjplknomaa.P

theorem rd_def {s : List UInt8} (h : rOk s = true) : rd s = some (rNum s, s.drop (rSize s)) := by unfold rd; rw [if_pos h]
theorem rd_bad {s : List UInt8} (h : rOk s = false) : rd s = none := by unfold rd; rw [h]; simp
/-- So many numbers in a row and so many more. -/
theorem rdNums_add : ∀ (n m : Nat) (s : List UInt8), rdNums (n + m) s = (do let (l, s1) ← rdNums n s; let (k, s2) ← rdNums m s1; some (l ++ k, s2))
  | 0, m, s => by
    simp only [Nat.zero_add, rdNums, Option.bind_eq_bind, Option.bind_some, List.nil_append]
    cases rdNums m s with
    | none => rfl
    | some q => rfl
  | n + 1, m, s => by
    rw [show n + 1 + m = (n + m) + 1 by omega]
    show (do let (t, s1) ← rd s; let (l, s2) ← rdNums (n + m) s1; some (t :: l, s2)) = _
    simp only [rdNums_add n m]
    cases h : rd s with
    | none => simp [rdNums, h]
    | some q =>
      obtain ⟨t, s1⟩ := q
      simp only [rdNums, h, Option.bind_eq_bind, Option.bind_some]
      cases h2 : rdNums n s1 with
      | none => simp
      | some q =>
        obtain ⟨l, s2⟩ := q
        simp only [Option.bind_some]
        cases h3 : rdNums m s2 with
        | none => simp
        | some q => simp
/-- What numbers gives back: the numbers, and how many bytes they have; -1. -/
def nl (n : Nat) (s : List UInt8) : List Nat := ((rdNums n s).map (·.1)).getD []
def nz (n : Nat) (s : List UInt8) : Int := ((rdNums n s).map (fun q => ((s.length - q.2.length : Nat) : Int))).getD (-1)
/-- A text's rest is its end. -/
theorem rdNums_drop {n : Nat} {s r : List UInt8} {l : List Nat} (h : rdNums n s = some (l, r)) : r = s.drop (s.length - r.length) ∧ r.length ≤ s.length := by
  have h1 := (rdNums_some _ _ _ _ h).1
  have h2 : (vars l).length + r.length = s.length := by rw [h1, List.length_append]
  refine ⟨?_, by omega⟩
  rw [show s.length - r.length = (vars l).length by omega, h1, List.drop_left]
theorem rdTab_drop {s r : List UInt8} {t : Tab} (h : rdTab s = some (t, r)) : r = s.drop (s.length - r.length) ∧ r.length ≤ s.length := by
  have h1 := (rdTab_some h).1
  have h2 : (tabRow t).length + r.length = s.length := by rw [h1, List.length_append]
  refine ⟨?_, by omega⟩
  rw [show s.length - r.length = (tabRow t).length by omega, h1, List.drop_left]
/-- A table as the document reads it: six numbers, two texts; a level above 3 is none. -/
def rdTabR (s : List UInt8) : Option (Tab × List UInt8) := do
  let (t, r) ← rdTab s
  if t.level ≤ 3 then some (t, r) else none
theorem rdNums_six {s r : List UInt8} {l : List Nat} (h : rdNums 6 s = some (l, r)) : ∃ n lv ct sz le mo s1 s2 s3 s4 s5, l = [n, lv, ct, sz, le, mo] ∧ rd s = some (n, s1) ∧ rd s1 = some (lv, s2) ∧ rd s2 = some (ct, s3) ∧ rd s3 = some (sz, s4) ∧ rd s4 = some (le, s5) ∧ rd s5 = some (mo, r) := by
  simp only [rdNums, Option.bind_eq_bind, Option.bind_eq_some_iff, Prod.exists, Option.some.injEq, Prod.mk.injEq] at h
  obtain ⟨n, s1, h1, l1, r1, ⟨lv, s2, h2, l2, r2, ⟨ct, s3, h3, l3, r3, ⟨sz, s4, h4, l4, r4, ⟨le, s5, h5, l5, r5, ⟨mo, s6, h6, l6, r6, ⟨rfl, rfl⟩, rfl, rfl⟩, rfl, rfl⟩, rfl, rfl⟩, rfl, rfl⟩, rfl, rfl⟩, rfl, rfl⟩ := h
  exact ⟨n, lv, ct, sz, le, mo, s1, s2, s3, s4, s5, rfl, h1, h2, h3, h4, h5, h6⟩
theorem rdI_of {s r : List UInt8} {n : Nat} (h : rd s = some (n, r)) : rdI s = if n ≤ 9223372036854775807 then some (n, r) else none := by
  unfold rd at h
  unfold rdI
  split at h
  · next h1 =>
    simp only [Option.some.injEq, Prod.mk.injEq] at h
    obtain ⟨rfl, rfl⟩ := h
    by_cases hn : rNum s ≤ 9223372036854775807
    · rw [if_pos ⟨h1, hn⟩, if_pos hn]
    · rw [if_neg (fun q => hn q.2), if_neg hn]
  · cases h
theorem rdI_rd {s r : List UInt8} {n : Nat} (h : rdI s = some (n, r)) : rd s = some (n, r) := by
  unfold rdI at h
  unfold rd
  split at h
  · next h1 => rw [if_pos h1.1]; exact h
  · cases h
/-- No six numbers: no table. -/
theorem tab_no6 {s : List UInt8} (h : rdNums 6 s = none) : rdTab s = none := by
  cases ht : rdTab s with
  | none => rfl
  | some q =>
    exfalso
    unfold rdTab at ht
    simp only [Option.bind_eq_bind, Option.bind_eq_some_iff, Prod.exists] at ht
    obtain ⟨n, s1, h1, lv, s2, h2, ct, s3, h3, sz, s4, h4, le, s5, h5, mo, s6, h6, _⟩ := ht
    simp only [rdNums, h1, rdI_rd h2, rdI_rd h3, rdI_rd h4, h5, h6, Option.bind_eq_bind, Option.bind_some] at h
    cases h
/-- Behind six numbers: the table as the document reads it. -/
theorem tabR_six {s r : List UInt8} {n lv ct sz le mo : Nat} (h : rdNums 6 s = some ([n, lv, ct, sz, le, mo], r)) :
    rdTabR s = if lv ≤ 3 ∧ ct ≤ 9223372036854775807 ∧ sz ≤ 9223372036854775807 then (do let (a, s7) ← rdT r; let (b, s8) ← rdT s7; some (⟨n, lv, ct, sz, a, b, le, mo⟩, s8)) else none := by
  obtain ⟨n', lv', ct', sz', le', mo', s1, s2, s3, s4, s5, e, h1, h2, h3, h4, h5, h6⟩ := rdNums_six h
  simp only [List.cons.injEq, and_true] at e
  obtain ⟨rfl, rfl, rfl, rfl, rfl, rfl⟩ := e
  unfold rdTabR rdTab
  simp only [h1, rdI_of h2, Option.bind_eq_bind, Option.bind_some]
  by_cases hl : lv ≤ 9223372036854775807
  · rw [if_pos hl]
    simp only [Option.bind_some, rdI_of h3]
    by_cases hc : ct ≤ 9223372036854775807
    · rw [if_pos hc]
      simp only [Option.bind_some, rdI_of h4]
      by_cases hz : sz ≤ 9223372036854775807
      · rw [if_pos hz]
        simp only [Option.bind_some, h5, h6]
        cases ha : rdT r with
        | none => simp
        | some q =>
          obtain ⟨a, s7⟩ := q
          simp only [Option.bind_some]
          cases hb : rdT s7 with
          | none => simp
          | some q =>
            obtain ⟨b, s8⟩ := q
            simp only [Option.bind_some]
            by_cases h3 : lv ≤ 3
            · rw [if_pos (by omega), if_pos ⟨h3, hc, hz⟩]
            · rw [if_neg (by omega), if_neg (fun q => h3 q.1)]
      · rw [if_neg hz, if_neg (fun q => hz q.2.2)]; rfl
    · rw [if_neg hc, if_neg (fun q => hc q.2.1)]; rfl
  · rw [if_neg hl, if_neg (fun q => hl (by omega))]; rfl
theorem rdTabR_some {s r : List UInt8} {t : Tab} (h : rdTabR s = some (t, r)) : rdTab s = some (t, r) ∧ t.level ≤ 3 := by
  unfold rdTabR at h
  simp only [Option.bind_eq_bind, Option.bind_eq_some_iff, Prod.exists] at h
  obtain ⟨t', r', h1, h2⟩ := h
  split at h2
  · next h3 =>
    simp only [Option.some.injEq, Prod.mk.injEq] at h2
    obtain ⟨rfl, rfl⟩ := h2
    exact ⟨h1, h3⟩
  · cases h2
theorem rdTabs_prefix : ∀ (k n : Nat) (s r st : List UInt8) (l l' : List Tab) (t : Tab), k < n → rdTabs k s = some (l, st) → rdTabs n s = some (l', r) → ∀ st', rdTab st = some (t, st') → t ∈ l'
  | 0, n + 1, s, r, st, l, l', t, _, h, h', st', ht => by
    simp only [rdTabs, Option.some.injEq, Prod.mk.injEq] at h
    obtain ⟨rfl, rfl⟩ := h
    simp only [rdTabs, ht, Option.bind_eq_bind, Option.bind_some, Option.bind_eq_some_iff, Prod.exists, Option.some.injEq, Prod.mk.injEq] at h'
    obtain ⟨l2, s2, _, rfl, _⟩ := h'
    exact List.mem_cons_self ..
  | k + 1, n + 1, s, r, st, l, l', t, hk, h, h', st', ht => by
    simp only [rdTabs, Option.bind_eq_bind, Option.bind_eq_some_iff, Prod.exists, Option.some.injEq, Prod.mk.injEq] at h h'
    obtain ⟨t1, s1, h1, l2, s2, h2, rfl, rfl⟩ := h
    obtain ⟨t1', s1', h1', l2', s2', h2', rfl, rfl⟩ := h'
    rw [h1] at h1'
    simp only [Option.some.injEq, Prod.mk.injEq] at h1'
    obtain ⟨rfl, rfl⟩ := h1'
    exact List.mem_cons_of_mem _ (rdTabs_prefix k n _ _ _ _ _ _ (by omega) h2 h2' _ ht)
/-- A table that the document does not read: no edit. -/
theorem ed_noR {s s1 st : List UInt8} {n : Nat} {l : List Tab} (h : rd s = some (n, s1)) (hl : rdTabs l.length s1 = some (l, st)) (hk : l.length < n) (ht : rdTabR st = none) : decE s = none := by
  cases h1 : rdTab st with
  | none => exact ed_no2 h (rdTabs_stop _ _ _ _ _ hk hl h1)
  | some q =>
    obtain ⟨t, st'⟩ := q
    have hlv : ¬ t.level ≤ 3 := by
      intro hlv
      unfold rdTabR at ht
      simp only [h1, Option.bind_eq_bind, Option.bind_some, if_pos hlv] at ht
      cases ht
    cases hd : decE s with
    | none => rfl
    | some e =>
      exfalso
      unfold decE at hd
      split at hd
      · split at hd
        · next e' he =>
          split at hd
          · next hm =>
            have he' := he
            unfold rdEd at he'
            simp only [h, Option.bind_eq_bind, Option.bind_some, Option.bind_eq_some_iff, Prod.exists] at he'
            obtain ⟨add, s2, h2, k, s3, h3, drop, s4, h4, a, s5, h5, b, s6, h6, c, s7, h7, h8⟩ := he'
            simp only [Option.some.injEq, Prod.mk.injEq] at h8
            obtain ⟨rfl, _⟩ := h8
            have hmem := rdTabs_prefix _ _ _ _ _ _ _ _ hk hl h2 _ h1
            have hw := (may_iff hm).1 t hmem
            have := (wrong_no hw).2.1
            omega
          · cases hd
        · cases hd
      · cases hd
/-- More tables than bytes: no edit. -/
theorem ed_many {s s1 : List UInt8} {n : Nat} (h : rd s = some (n, s1)) (hn : s.length < n) : decE s = none := by
  cases h2 : rdTabs n s1 with
  | none => exact ed_no2 h h2
  | some q =>
    obtain ⟨l, r⟩ := q
    have a := rdTabs_len h2
    have b := (rdTabs_some _ _ _ _ h2).2.1
    have c := rd_len h
    omega
theorem ed_many2 {s s1 s2 s3 : List UInt8} {n m : Nat} {l : List Tab} (h : rd s = some (n, s1)) (h2 : rdTabs n s1 = some (l, s2)) (h3 : rd s2 = some (m, s3)) (hm : s.length < m) : decE s = none := by
  cases h4 : rdNums m s3 with
  | none => exact ed_no4 h h2 h3 h4
  | some q =>
    obtain ⟨d, r⟩ := q
    have a := rdNums_len h4
    have b := (rdNums_some _ _ _ _ h4).2.1
    have c := rd_len h
    have d1 := rdTabs_len h2
    have e := rd_len h3
    omega
/-- What stands behind: the numbers and three more. -/
theorem ed_last {s s1 s2 s3 : List UInt8} {n m : Nat} {l : List Tab} (hl : s.length ≤ 524288) (h : rd s = some (n, s1)) (h2 : rdTabs n s1 = some (l, s2)) (h3 : rd s2 = some (m, s3)) :
    (rdNums (m + 3) s3 = none → decE s = none) ∧ ∀ k r, rdNums (m + 3) s3 = some (k, r) → ∃ d x y z, k = d ++ [x, y, z] ∧ d.length = m ∧ decE s = if r = [] ∧ mayB ⟨l, d, x, y, z⟩ = true then some ⟨l, d, x, y, z⟩ else none := by
  have hr : rdEd s = (do let (drop, s4) ← rdNums m s3; let (a, s5) ← rd s4; let (b, s6) ← rd s5; let (c, s7) ← rd s6; some (⟨l, drop, a, b, c⟩, s7)) := by
    unfold rdEd
    simp only [h, h2, h3, Option.bind_eq_bind, Option.bind_some]
  have hd : decE s = match rdEd s with | some (e, []) => if mayB e = true then some e else none | _ => none := by unfold decE; rw [if_pos hl]; rfl
  rw [rdNums_add]
  constructor
  · intro hn
    cases h4 : rdNums m s3 with
    | none => exact ed_no4 h h2 h3 h4
    | some q =>
      obtain ⟨d, s4⟩ := q
      rw [h4] at hn hr
      refine decE_none ?_
      rw [hr]
      simp only [rdNums, Option.bind_eq_bind, Option.bind_some] at hn ⊢
      cases h5 : rd s4 with
      | none => rfl
      | some q =>
        obtain ⟨x, s5⟩ := q
        rw [h5] at hn
        simp only [Option.bind_some] at hn ⊢
        cases h6 : rd s5 with
        | none => rfl
        | some q =>
          obtain ⟨y, s6⟩ := q
          rw [h6] at hn
          simp only [Option.bind_some] at hn ⊢
          cases h7 : rd s6 with
          | none => rfl
          | some q => rw [h7] at hn; simp at hn
  · intro k r hk
    simp only [Option.bind_eq_bind, Option.bind_eq_some_iff, Prod.exists, Option.some.injEq, Prod.mk.injEq] at hk
    obtain ⟨d, s4, h4, k2, s7, hk2, rfl, rfl⟩ := hk
    simp only [rdNums, Option.bind_eq_bind, Option.bind_eq_some_iff, Prod.exists, Option.some.injEq, Prod.mk.injEq] at hk2
    obtain ⟨x, s5, h5, _, _, ⟨y, s6, h6, _, _, ⟨z, s7', h7, _, _, ⟨rfl, rfl⟩, rfl, rfl⟩, rfl, rfl⟩, rfl, rfl⟩ := hk2
    refine ⟨d, x, y, z, rfl, (rdNums_some _ _ _ _ h4).2.1, ?_⟩
    rw [hd, hr]
    simp only [h4, h5, h6, h7, Option.bind_eq_bind, Option.bind_some]
    cases s7' with
    | nil => simp
    | cons c q => simp
theorem tabRows_count : ∀ l : List Tab, 8 * l.length ≤ (tabRows l).length
  | [] => by simp [tabRows]
  | t :: l => by
    have ih := tabRows_count l
    have h := congrArg List.length (tabRow_is t [])
    simp only [List.append_nil, List.length_append, row_length] at h
    rw [tabRows_cons, List.length_append, List.length_cons]
    omega
theorem vars_count : ∀ l : List Nat, l.length ≤ (vars l).length
  | [] => by simp [vars]
  | n :: l => by
    have ih := vars_count l
    rw [vars_cons, List.length_append, row_length, List.length_cons]
    omega
/-- An edit has no more tables and numbers than bytes. -/
theorem encE_count (e : Ed) : e.add.length ≤ (encE e).length ∧ e.drop.length ≤ (encE e).length := by
  have a := tabRows_count e.add
  have b := vars_count e.drop
  unfold encE
  simp only [List.length_append]
  omega
end Go.Proofs.Ythpgigjplknomaa.P
