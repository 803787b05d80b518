/- Plain law of layer 11: blocks of entries. No program here. -/
import Derived.Test.YthaiekilifoegaaPOrd
namespace Go.Proofs.Ythaiekilifoegaa.P
open Go.Op (bytesLess)
set_option linter.unusedVariables false

/-! ### The order of texts -/
theorem less_irrefl : ∀ a : List UInt8, bytesLess a a = false
  | [] => rfl
  | c :: a => by simp [bytesLess, less_irrefl a, UInt8.lt_irrefl]
theorem less_trans : ∀ a b c : List UInt8, bytesLess a b = true → bytesLess b c = true → bytesLess a c = true
  | a, b, [], _, h => by cases b <;> simp [bytesLess] at h
  | a, [], z :: c, h, _ => by cases a <;> simp [bytesLess] at h
  | [], y :: b, z :: c, _, _ => rfl
  | x :: a, y :: b, z :: c, h1, h2 => by
    simp only [bytesLess, Bool.or_eq_true, Bool.and_eq_true, decide_eq_true_eq, beq_iff_eq] at h1 h2 ⊢
    rcases h1 with h1 | ⟨rfl, h1⟩
    · rcases h2 with h2 | ⟨rfl, h2⟩
      · exact .inl (UInt8.lt_trans h1 h2)
      · exact .inl h1
    · rcases h2 with h2 | ⟨rfl, h2⟩
      · exact .inl h2
      · exact .inr ⟨rfl, less_trans a b c h1 h2⟩
theorem less_or : ∀ a b : List UInt8, (bytesLess a b || a == b) = !bytesLess b a
  | [], [] => rfl
  | [], y :: b => rfl
  | x :: a, [] => by simp [bytesLess]
  | x :: a, y :: b => by
    have hi := less_or a b
    have hb : (x :: a == y :: b) = (x == y && a == b) := rfl
    rw [hb]
    simp only [bytesLess]
    by_cases hxy : x = y
    · subst hxy
      simp only [UInt8.lt_irrefl, decide_false, beq_self_eq_true, Bool.true_and, Bool.false_or]
      exact hi
    · have hyx : ¬ y = x := fun h => hxy h.symm
      have e1 : (x == y) = false := by simpa using hxy
      have e2 : (y == x) = false := by simpa using hyx
      simp only [e1, e2, Bool.false_and, Bool.or_false]
      have hne : x.toNat ≠ y.toNat := fun h => hxy (UInt8.toNat_inj.1 h)
      by_cases hlt : x < y
      · have h2 : ¬ y < x := fun h => UInt8.lt_irrefl _ (UInt8.lt_trans hlt h)
        simp [hlt, h2]
      · have h2 : y < x := by rw [UInt8.lt_iff_toNat_lt] at *; omega
        simp [hlt, h2]
theorem less_ne {a b : List UInt8} (h : bytesLess a b = true) : a ≠ b := fun e => by rw [e, less_irrefl] at h; cases h
theorem less_asymm {a b : List UInt8} (h : bytesLess a b = true) : bytesLess b a = false := by
  cases hb : bytesLess b a with
  | false => rfl
  | true => have := less_trans _ _ _ h hb; rw [less_irrefl] at this; cases this
/-- A text not below another, and not its like, is above it. -/
theorem less_of_not {a b : List UInt8} (h : bytesLess a b = false) : b = a ∨ bytesLess b a = true := by
  have := less_or b a
  rw [h, Bool.not_false, Bool.or_eq_true, beq_iff_eq] at this
  exact this.symm

/-! ### How many bytes two texts begin with alike -/
def lcp : List UInt8 → List UInt8 → Nat
  | a :: l, b :: m => if a = b then lcp l m + 1 else 0
  | _, _ => 0
theorem lcp_le : ∀ a b : List UInt8, lcp a b ≤ a.length ∧ lcp a b ≤ b.length
  | a :: l, b :: m => by
    have := lcp_le l m
    unfold lcp
    split
    · simp only [List.length_cons]; omega
    · exact ⟨Nat.zero_le _, Nat.zero_le _⟩
  | [], _ => by unfold lcp; exact ⟨Nat.zero_le _, Nat.zero_le _⟩
  | _ :: _, [] => by unfold lcp; exact ⟨Nat.zero_le _, Nat.zero_le _⟩
theorem lcp_take : ∀ a b : List UInt8, a.take (lcp a b) = b.take (lcp a b)
  | a :: l, b :: m => by
    unfold lcp
    split
    · next h => subst h; rw [List.take_succ_cons, List.take_succ_cons, lcp_take l m]
    · rfl
  | [], b => by unfold lcp; rfl
  | _ :: _, [] => by unfold lcp; rfl
theorem lcp_at : ∀ (a b : List UInt8) (i : Nat), i < lcp a b → at_ a i = at_ b i
  | a :: l, b :: m, i, h => by
    unfold lcp at h
    split at h
    · next he =>
      subst he
      cases i with
      | zero => rfl
      | succ i => exact lcp_at l m i (by omega)
    · omega
  | [], b, i, h => by unfold lcp at h; omega
  | _ :: _, [], i, h => by unfold lcp at h; omega
theorem lcp_end : ∀ a b : List UInt8, lcp a b < a.length → lcp a b < b.length → at_ a (lcp a b) ≠ at_ b (lcp a b)
  | a :: l, b :: m, h1, h2 => by
    unfold lcp at h1 h2 ⊢
    split
    · next he =>
      subst he
      rw [if_pos rfl] at h1 h2
      exact lcp_end l m (by simpa using h1) (by simpa using h2)
    · next he =>
      intro h
      exact he (UInt8.toNat_inj.1 h)
  | [], b, h, _ => by simp at h
  | _ :: _, [], _, h => by simp at h

/-! ### Entries, and their bytes -/
structure En where
  k : List UInt8
  v : List UInt8
def keyAt (l : List En) (i : Nat) : List UInt8 := ((l[i]?).map En.k).getD []
def valAt (l : List En) (i : Nat) : List UInt8 := ((l[i]?).map En.v).getD []
def lastK (l : List En) : List UInt8 := keyAt l (l.length - 1)
def shN (l : List En) (i : Nat) : Nat := if i % 4 = 0 then 0 else lcp (keyAt l (i - 1)) (keyAt l i)
def entB (n : Nat) (k v : List UInt8) : List UInt8 := row n ++ texts [k.drop n, v]
def entAt (l : List En) (i : Nat) : List UInt8 := entB (shN l i) (keyAt l i) (valAt l i)
def upTo (l : List En) : Nat → List UInt8
  | 0 => []
  | i + 1 => upTo l i ++ entAt l i
def starts (l : List En) (n : Nat) : List Nat := (List.range ((n + 3) / 4)).map fun r => (upTo l (4 * r)).length
def tailB (l : List En) (n : Nat) : List UInt8 := ((starts l n).map (be 4)).flatten
/-- A block's bytes. -/
def bytesB (l : List En) : List UInt8 := upTo l l.length ++ tailB l l.length ++ be 4 l.length

theorem keyAt_get (l : List En) (i : Nat) (h : i < l.length) : keyAt l i = l[i].k := by simp [keyAt, h]
theorem valAt_get (l : List En) (i : Nat) (h : i < l.length) : valAt l i = l[i].v := by simp [valAt, h]
theorem keyAt_app (l m : List En) (i : Nat) (h : i < l.length) : keyAt (l ++ m) i = keyAt l i := by unfold keyAt; rw [List.getElem?_append_left h]
theorem valAt_app (l m : List En) (i : Nat) (h : i < l.length) : valAt (l ++ m) i = valAt l i := by unfold valAt; rw [List.getElem?_append_left h]
theorem keyAt_snoc (l : List En) (e : En) : keyAt (l ++ [e]) l.length = e.k := by simp [keyAt]
theorem valAt_snoc (l : List En) (e : En) : valAt (l ++ [e]) l.length = e.v := by simp [valAt]
theorem keyAt_take (l : List En) (n i : Nat) (h : i < n) : keyAt (l.take n) i = keyAt l i := by unfold keyAt; rw [List.getElem?_take, if_pos h]
theorem valAt_take (l : List En) (n i : Nat) (h : i < n) : valAt (l.take n) i = valAt l i := by unfold valAt; rw [List.getElem?_take, if_pos h]
theorem lastK_snoc (l : List En) (e : En) : lastK (l ++ [e]) = e.k := by unfold lastK; rw [List.length_append, List.length_singleton, Nat.add_sub_cancel, keyAt_snoc]
theorem lastK_nil : lastK [] = [] := rfl
theorem upTo_congr (l m : List En) : ∀ n, (∀ i, i < n → keyAt l i = keyAt m i ∧ valAt l i = valAt m i) → upTo l n = upTo m n
  | 0, _ => rfl
  | n + 1, h => by
    have h1 := upTo_congr l m n (fun i hi => h i (by omega))
    have e1 := (h n (by omega)).1
    have e2 := (h n (by omega)).2
    have e3 := (h (n - 1) (by omega)).1
    show upTo l n ++ entAt l n = upTo m n ++ entAt m n
    unfold entAt shN
    rw [h1, e1, e2, e3]
theorem upTo_app (l m : List En) (n : Nat) (h : n ≤ l.length) : upTo (l ++ m) n = upTo l n := upTo_congr _ _ n fun i hi => ⟨keyAt_app l m i (by omega), valAt_app l m i (by omega)⟩
theorem upTo_take (l : List En) (k n : Nat) (h : n ≤ k) : upTo (l.take k) n = upTo l n := upTo_congr _ _ n fun i hi => ⟨keyAt_take l k i (by omega), valAt_take l k i (by omega)⟩
theorem starts_congr (l m : List En) (n : Nat) (h : ∀ j, j < n → upTo l j = upTo m j) : starts l n = starts m n := by
  unfold starts
  apply List.map_congr_left
  intro r hr
  have := List.mem_range.1 hr
  rw [h (4 * r) (by omega)]
theorem starts_app (l m : List En) (n : Nat) (h : n ≤ l.length) : starts (l ++ m) n = starts l n := starts_congr _ _ n fun j hj => upTo_app l m j (by omega)
theorem starts_len (l : List En) (n : Nat) : (starts l n).length = (n + 3) / 4 := by simp [starts]
theorem starts_at (l : List En) (n r : Nat) (h : r < (starts l n).length) : (starts l n)[r] = (upTo l (4 * r)).length := by simp [starts]
theorem starts_succ (l : List En) (n : Nat) : starts l (n + 1) = starts l n ++ (if n % 4 = 0 then [(upTo l n).length] else []) := by
  unfold starts
  split
  · next h =>
    rw [show (n + 1 + 3) / 4 = (n + 3) / 4 + 1 by omega, List.range_succ, List.map_append]
    have e : 4 * ((n + 3) / 4) = n := by omega
    simp [e]
  · next h => rw [show (n + 1 + 3) / 4 = (n + 3) / 4 by omega, List.append_nil]
theorem upTo_succ (l : List En) (i : Nat) : upTo l (i + 1) = upTo l i ++ entAt l i := rfl
theorem upTo_snoc (l : List En) (e : En) : upTo (l ++ [e]) (l.length + 1) = upTo l l.length ++ entB (if l.length % 4 = 0 then 0 else lcp (lastK l) e.k) e.k e.v := by
  rw [upTo_succ, upTo_app _ _ _ (Nat.le_refl _)]
  unfold entAt shN
  rw [keyAt_snoc, valAt_snoc]
  congr 2
  split
  · rfl
  · next h => rw [keyAt_app _ _ _ (by omega)]; rfl
theorem starts_snoc (l : List En) (e : En) : starts (l ++ [e]) (l.length + 1) = starts l l.length ++ (if l.length % 4 = 0 then [(upTo l l.length).length] else []) := by
  rw [starts_succ, starts_app _ _ _ (Nat.le_refl _), upTo_app _ _ _ (Nat.le_refl _)]
/-- The beginning of entries' bytes, and what stands behind. -/
theorem upTo_split (l : List En) (i : Nat) : ∀ n, i ≤ n → ∃ x, upTo l n = upTo l i ++ x ∧ (i < n → ∃ y, x = entAt l i ++ y)
  | 0, h => by obtain rfl : i = 0 := by omega
               exact ⟨[], rfl, fun h => by omega⟩
  | n + 1, h => by
    by_cases hi : i = n + 1
    · subst hi; exact ⟨[], by simp, fun h => by omega⟩
    · obtain ⟨x, hx, hy⟩ := upTo_split l i n (by omega)
      refine ⟨x ++ entAt l n, by rw [upTo_succ, hx, List.append_assoc], fun _ => ?_⟩
      by_cases hin : i < n
      · obtain ⟨y, rfl⟩ := hy hin
        exact ⟨y ++ entAt l n, by rw [List.append_assoc]⟩
      · obtain rfl : i = n := by omega
        have : x = [] := by
          have := congrArg List.length hx
          rw [List.length_append] at this
          exact List.length_eq_zero_iff.1 (by omega)
        subst this
        exact ⟨[], by simp⟩
theorem upTo_mono (l : List En) (i n : Nat) (h : i ≤ n) : (upTo l i).length ≤ (upTo l n).length := by
  obtain ⟨x, hx, _⟩ := upTo_split l i n h
  rw [hx, List.length_append]; omega

/-! ### Which entries may be added -/
def addE (n : Nat) (last k v : List UInt8) : Nat := if 1024 < k.length ∨ 1024 < v.length then 3 else if 0 < n ∧ bytesLess last k = false then 1 else 0
theorem addE_zero {n : Nat} {last k v : List UInt8} : addE n last k v = 0 ↔ k.length ≤ 1024 ∧ v.length ≤ 1024 ∧ (0 < n → bytesLess last k = true) := by
  unfold addE
  split
  · next h => constructor
              · intro h0; cases h0
              · intro h0; omega
  · next h =>
    split
    · next h2 => constructor
                 · intro h0; cases h0
                 · intro h0; have := h0.2.2 h2.1; rw [h2.2] at this; cases this
    · next h2 =>
      refine ⟨fun _ => ⟨by omega, by omega, fun hn => ?_⟩, fun _ => rfl⟩
      cases hb : bytesLess last k with
      | true => rfl
      | false => exact absurd ⟨hn, hb⟩ h2
/-- Entries that a block may have. -/
def Good (l : List En) : Prop := ∀ i, i < l.length → addE i (keyAt l (i - 1)) (keyAt l i) (valAt l i) = 0
def addL (l : List En) (k v : List UInt8) : List En := if addE l.length (lastK l) k v = 0 then l ++ [⟨k, v⟩] else l
theorem good_nil : Good [] := fun i h => by simp at h
theorem Good.snoc {l : List En} (h : Good l) {e : En} (he : addE l.length (lastK l) e.k e.v = 0) : Good (l ++ [e]) := by
  intro i hi
  rw [List.length_append, List.length_singleton] at hi
  by_cases hil : i < l.length
  · rw [keyAt_app _ _ _ (by omega), keyAt_app _ _ _ hil, valAt_app _ _ _ hil]
    exact h i hil
  · obtain rfl : i = l.length := by omega
    rw [keyAt_snoc, valAt_snoc]
    by_cases h0 : l.length = 0
    · rw [h0] at he ⊢
      rw [addE_zero] at he ⊢
      exact ⟨he.1, he.2.1, fun h => by omega⟩
    · rw [keyAt_app _ _ _ (by omega)]
      exact he
theorem Good.take {l : List En} (h : Good l) (n : Nat) : Good (l.take n) := by
  intro i hi
  rw [List.length_take] at hi
  rw [keyAt_take _ _ _ (by omega), keyAt_take _ _ _ (by omega), valAt_take _ _ _ (by omega)]
  exact h i (by omega)
theorem good_addL {l : List En} (h : Good l) (k v : List UInt8) : Good (addL l k v) := by
  unfold addL
  split
  · next he => exact h.snoc he
  · exact h
theorem Good.len {l : List En} (h : Good l) (i : Nat) (hi : i < l.length) : l[i].k.length ≤ 1024 ∧ l[i].v.length ≤ 1024 := by
  have := addE_zero.1 (h i hi)
  rw [keyAt_get _ _ hi, valAt_get _ _ hi] at this
  exact ⟨this.1, this.2.1⟩
theorem Good.lens {l : List En} (h : Good l) (i : Nat) : (keyAt l i).length ≤ 1024 ∧ (valAt l i).length ≤ 1024 := by
  by_cases hi : i < l.length
  · rw [keyAt_get _ _ hi, valAt_get _ _ hi]; exact h.len i hi
  · simp [keyAt, valAt, List.getElem?_eq_none (by omega : l.length ≤ i)]
theorem Good.next {l : List En} (h : Good l) (i : Nat) (hi : i + 1 < l.length) : bytesLess (keyAt l i) (keyAt l (i + 1)) = true := by
  have := (addE_zero.1 (h (i + 1) hi)).2.2 (by omega)
  rwa [Nat.add_sub_cancel] at this
theorem Good.rise {l : List En} (h : Good l) (i : Nat) : ∀ j, i < j → j < l.length → bytesLess (keyAt l i) (keyAt l j) = true
  | 0, hij, _ => by omega
  | j + 1, hij, hj => by
    by_cases he : i = j
    · subst he; exact h.next i hj
    · exact less_trans _ _ _ (h.rise i j (by omega) (by omega)) (h.next j hj)
/-- The entry at a place may be added behind those before it. -/
theorem Good.at {l : List En} (h : Good l) (i : Nat) (hi : i < l.length) : addE (l.take i).length (lastK (l.take i)) (keyAt l i) (valAt l i) = 0 := by
  have h1 := h i hi
  have hl : (l.take i).length = i := by rw [List.length_take]; omega
  rw [hl]
  by_cases h0 : i = 0
  · subst h0
    rw [addE_zero] at h1 ⊢
    exact ⟨h1.1, h1.2.1, fun h => by omega⟩
  · unfold lastK
    rw [hl, keyAt_take _ _ _ (by omega)]
    exact h1
theorem take_snoc (l : List En) (i : Nat) (hi : i < l.length) : l.take (i + 1) = l.take i ++ [⟨keyAt l i, valAt l i⟩] := by
  rw [keyAt_get _ _ hi, valAt_get _ _ hi, List.take_succ_eq_append_getElem hi]

/-! ### Lengths -/
theorem row_lens (n : Nat) : 1 ≤ (row n).length ∧ (row n).length ≤ 9 := by rw [row_length]; have := behind_le n; omega
theorem row_len3 (n : Nat) (h : n < 65536) : (row n).length ≤ 3 := by
  rw [row_length]
  unfold behind
  split
  · omega
  · have := (dig_iff n 2 (by omega)).2 (by omega); omega
theorem texts_pair (s t : List UInt8) : texts [s, t] = row s.length ++ (s ++ (row t.length ++ t)) := by simp [texts]
theorem entB_eq (n : Nat) (k v : List UInt8) : entB n k v = row n ++ (row (k.drop n).length ++ (k.drop n ++ (row v.length ++ v))) := by unfold entB; rw [texts_pair]
theorem entB_length (n : Nat) (k v : List UInt8) : (entB n k v).length = (row n).length + (row (k.length - n)).length + (k.length - n) + (row v.length).length + v.length := by
  rw [entB_eq]
  simp only [List.length_append, List.length_drop]
  omega
theorem entB_most (n : Nat) (k v : List UInt8) : (entB n k v).length ≤ 27 + k.length + v.length := by
  have h1 := row_lens n
  have h2 := row_lens (k.length - n)
  have h3 := row_lens v.length
  rw [entB_length]; omega
theorem entB_least (n : Nat) (k v : List UInt8) : 3 + v.length ≤ (entB n k v).length := by
  have h1 := row_lens n
  have h2 := row_lens (k.length - n)
  have h3 := row_lens v.length
  rw [entB_length]; omega
theorem shN_le (l : List En) (i : Nat) : shN l i ≤ (keyAt l i).length ∧ shN l i ≤ (keyAt l (i - 1)).length := by
  unfold shN
  split
  · omega
  · have := lcp_le (keyAt l (i - 1)) (keyAt l i); omega
theorem upTo_most {l : List En} (h : Good l) : ∀ n, (upTo l n).length ≤ n * 2100
  | 0 => by simp [upTo]
  | n + 1 => by
    have := upTo_most h n
    have h1 := entB_most (shN l n) (keyAt l n) (valAt l n)
    have h2 := h.lens n
    rw [upTo_succ, List.length_append]
    unfold entAt
    omega
theorem upTo_least (l : List En) : ∀ n, n * 3 ≤ (upTo l n).length
  | 0 => by simp
  | n + 1 => by
    have := upTo_least l n
    have h1 := entB_least (shN l n) (keyAt l n) (valAt l n)
    rw [upTo_succ, List.length_append]
    unfold entAt
    omega
theorem tail_length (l : List En) (n : Nat) : (tailB l n).length = 4 * ((n + 3) / 4) := by
  have : ∀ m : List Nat, ((m.map (be 4)).flatten).length = 4 * m.length := by
    intro m
    induction m with
    | nil => rfl
    | cons x m ih => rw [List.map_cons, List.flatten_cons, List.length_append, ih, be_length, List.length_cons]; omega
  unfold tailB
  rw [this, starts_len]
theorem bytesB_length (l : List En) : (bytesB l).length = (upTo l l.length).length + 4 * ((l.length + 3) / 4 + 1) := by
  unfold bytesB
  rw [List.length_append, List.length_append, tail_length, be_length]; omega
theorem bytesB_count (l : List En) : 3 * l.length + 4 ≤ (bytesB l).length := by
  have := upTo_least l l.length
  rw [bytesB_length]; omega

/-! ### An entry, read -/
def s1 (s : List UInt8) : List UInt8 := s.drop (rSize s)
def s2 (s : List UInt8) : List UInt8 := (s1 s).drop (tSize (s1 s) 1024)
def eOk (s : List UInt8) (m : Nat) : Bool := (rOk s && decide (rNum s ≤ m)) && (tOk (s1 s) 1024 && tOk (s2 s) 1024)
def eKey (s p : List UInt8) : List UInt8 := p.take (rNum s) ++ tText (s1 s) 1024
def eVal (s : List UInt8) : List UInt8 := tText (s2 s) 1024
def eSize (s : List UInt8) : Nat := rSize s + tSize (s1 s) 1024 + tSize (s2 s) 1024
theorem read_ent (n : Nat) (p k v x : List UInt8) (hn : n ≤ k.length) (hp : n ≤ p.length) (ht : p.take n = k.take n) (hk : k.length ≤ 1024) (hv : v.length ≤ 1024) :
    eOk (entB n k v ++ x) p.length = true ∧ eKey (entB n k v ++ x) p = k ∧ eVal (entB n k v ++ x) = v ∧ eSize (entB n k v ++ x) = (entB n k v).length := by
  have e0 : entB n k v ++ x = row n ++ (row (k.drop n).length ++ (k.drop n ++ (row v.length ++ (v ++ x)))) := by
    rw [entB_eq]; simp only [List.append_assoc]
  have hdl : (k.drop n).length ≤ 1024 := by rw [List.length_drop]; omega
  obtain ⟨a1, a2, a3⟩ := read_row n (by omega) (row (k.drop n).length ++ (k.drop n ++ (row v.length ++ (v ++ x))))
  obtain ⟨b1, b2, b3⟩ := text_read (k.drop n) (row v.length ++ (v ++ x)) (by omega) 1024 (by omega)
  obtain ⟨c1, c2, c3⟩ := text_read v x (by omega) 1024 (by omega)
  have d1 : s1 (entB n k v ++ x) = row (k.drop n).length ++ (k.drop n ++ (row v.length ++ (v ++ x))) := by
    unfold s1; rw [e0, a3, List.drop_left]
  have d2 : s2 (entB n k v ++ x) = row v.length ++ (v ++ x) := by
    unfold s2
    rw [d1, b3, ← List.append_assoc, ← List.length_append, List.drop_left]
  refine ⟨?_, ?_, ?_, ?_⟩
  · unfold eOk
    rw [d1, d2, e0, a1, a2, b1, c1]
    simpa using hp
  · unfold eKey
    rw [d1, b2, e0, a2, ht, List.take_append_drop]
  · unfold eVal; rw [d2, c2]
  · unfold eSize
    rw [d1, d2, b3, c3, e0, a3, entB_eq]
    simp only [List.length_append]; omega
theorem eSize_le {s : List UInt8} {m : Nat} (h : eOk s m = true) : 3 ≤ eSize s ∧ eSize s ≤ s.length ∧ rSize s ≤ s.length ∧ tSize (s1 s) 1024 ≤ (s1 s).length ∧ rNum s ≤ m ∧ (tText (s1 s) 1024).length ≤ 1024 ∧ (eVal s).length ≤ 1024 := by
  unfold eOk at h
  simp only [Bool.and_eq_true, decide_eq_true_eq] at h
  obtain ⟨⟨h1, h2⟩, h3, h4⟩ := h
  obtain ⟨r1, r2, _⟩ := row_read s h1
  have ht : ∀ t : List UInt8, tOk t 1024 = true → 1 ≤ tSize t 1024 ∧ tSize t 1024 ≤ t.length ∧ (tText t 1024).length ≤ 1024 := by
    intro t ht
    have ht' := ht
    unfold tOk at ht'
    simp only [Bool.and_eq_true, decide_eq_true_eq] at ht'
    obtain ⟨q1, q2, q3, q4⟩ := ht'
    have := (row_read t q1).1
    refine ⟨?_, ?_, ?_⟩
    · unfold tSize; rw [ht, if_pos rfl]; omega
    · unfold tSize; rw [ht, if_pos rfl]; omega
    · unfold tText; rw [ht, if_pos rfl, List.length_take, List.length_drop]; omega
  obtain ⟨u1, u2, u3⟩ := ht _ h3
  obtain ⟨v1, v2, v3⟩ := ht _ h4
  have l1 : (s1 s).length = s.length - rSize s := by unfold s1; simp
  have l2 : (s2 s).length = (s1 s).length - tSize (s1 s) 1024 := by unfold s2; simp
  unfold eSize
  exact ⟨by omega, by omega, r2, u2, h2, u3, v3⟩

/-! ### Which entries a text is the block of -/
def Opens (s : List UInt8) (l : List En) : Prop := Good l ∧ bytesB l = s
theorem Opens.len {s : List UInt8} {l : List En} (h : Opens s l) : 3 * l.length + 4 ≤ s.length := by rw [← h.2]; exact bytesB_count l
/-- What stands in it behind the first entries. -/
theorem Opens.drop {s : List UInt8} {l : List En} (h : Opens s l) (i : Nat) (hi : i < l.length) : ∃ x, s.drop (upTo l i).length = entAt l i ++ x := by
  obtain ⟨x, hx, hy⟩ := upTo_split l i l.length (by omega)
  obtain ⟨y, rfl⟩ := hy hi
  refine ⟨y ++ (tailB l l.length ++ be 4 l.length), ?_⟩
  rw [← h.2]
  unfold bytesB
  rw [hx]
  simp only [List.append_assoc]
  rw [List.drop_left]
theorem Opens.dropE {s : List UInt8} {l : List En} (h : Opens s l) (i : Nat) (hi : i < l.length) : ∃ x, (s.take (s.length - 4 * ((l.length + 3) / 4 + 1))).drop (upTo l i).length = entAt l i ++ x := by
  obtain ⟨x, hx, hy⟩ := upTo_split l i l.length (by omega)
  obtain ⟨y, rfl⟩ := hy hi
  refine ⟨y, ?_⟩
  have hb := bytesB_length l
  have h1 : s.take (s.length - 4 * ((l.length + 3) / 4 + 1)) = upTo l l.length := by
    rw [← h.2, hb, Nat.add_sub_cancel]
    unfold bytesB
    rw [List.append_assoc, List.take_left]
  rw [h1, hx, List.drop_left]
theorem Opens.ents {s : List UInt8} {l : List En} (h : Opens s l) : s.take (s.length - 4 * ((l.length + 3) / 4 + 1)) = upTo l l.length := by
  have hb := bytesB_length l
  rw [← h.2, hb, Nat.add_sub_cancel]
  unfold bytesB
  rw [List.append_assoc, List.take_left]
/-- The next entry is read. -/
theorem Good.read {l : List En} (h : Good l) (i : Nat) (hi : i < l.length) (p : List UInt8) (hp : i % 4 ≠ 0 → p = keyAt l (i - 1)) (x : List UInt8) :
    eOk (entAt l i ++ x) p.length = true ∧ eKey (entAt l i ++ x) p = keyAt l i ∧ eVal (entAt l i ++ x) = valAt l i ∧ eSize (entAt l i ++ x) = (entAt l i).length := by
  have hl := h.lens i
  have hs := shN_le l i
  by_cases h4 : i % 4 = 0
  · have h0 : shN l i = 0 := by unfold shN; rw [if_pos h4]
    unfold entAt
    rw [h0]
    exact read_ent 0 p _ _ x (by omega) (by omega) rfl hl.1 hl.2
  · obtain rfl := hp h4
    have hq : shN l i = lcp (keyAt l (i - 1)) (keyAt l i) := by unfold shN; rw [if_neg h4]
    exact read_ent (shN l i) (keyAt l (i - 1)) _ _ x hs.1 hs.2 (by rw [hq]; exact lcp_take _ _) hl.1 hl.2
/-- The number of entries stands at the end. -/
theorem Opens.count {s : List UInt8} {l : List En} (h : Opens s l) (hs : s.length < 4294967296) : bigOk (s.drop (s.length - 4)) 4 = true ∧ bigNum (s.drop (s.length - 4)) 4 = l.length := by
  have hc := h.len
  have hb := bytesB_length l
  rw [h.2] at hb
  have hd : s.drop (s.length - 4) = be 4 l.length ++ [] := by
    have : s = (upTo l l.length ++ tailB l l.length) ++ be 4 l.length := h.2.symm
    have hl : s.length - 4 = (upTo l l.length ++ tailB l l.length).length := by rw [List.length_append, tail_length]; omega
    rw [hl]
    conv => lhs; rw [this]
    rw [List.drop_left, List.append_nil]
  rw [hd]
  exact readBig_be 4 l.length (by omega) (by omega) (by omega) []
/-- A text is the block of one list of entries at the most. -/
theorem Opens.one {s : List UInt8} {l m : List En} (h : Opens s l) (h' : Opens s m) (hs : s.length < 4294967296) : l = m := by
  have hn : l.length = m.length := by have h1 := (h.count hs).2; have h2 := (h'.count hs).2; omega
  have key : ∀ i, i ≤ l.length → ∀ j, j < i → keyAt l j = keyAt m j ∧ valAt l j = valAt m j := by
    intro i
    induction i with
    | zero => intro _ j hj; omega
    | succ i ih =>
      intro hi j hj
      have hi' := ih (by omega)
      by_cases hji : j < i
      · exact hi' j hji
      · obtain rfl : j = i := by omega
        have hu := upTo_congr l m j hi'
        obtain ⟨x, hx⟩ := h.drop j (by omega)
        obtain ⟨y, hy⟩ := h'.drop j (by omega)
        rw [hu, hy] at hx
        obtain ⟨_, a2, a3, _⟩ := h.1.read j (by omega) (keyAt l (j - 1)) (fun _ => rfl) x
        obtain ⟨_, b2, b3, _⟩ := h'.1.read j (by omega) (keyAt l (j - 1)) (fun h4 => (hi' (j - 1) (by omega)).1) y
        rw [hx] at b2 b3
        exact ⟨a2.symm.trans b2, a3.symm.trans b3⟩
  apply List.ext_getElem hn
  intro i h1 h2
  have := key (i + 1) (by omega) i (by omega)
  rw [keyAt_get _ _ h1, valAt_get _ _ h1, keyAt_get _ _ h2, valAt_get _ _ h2] at this
  cases hl : l[i]
  cases hm : m[i]
  rw [hl, hm] at this
  simp only at this
  rw [this.1, this.2]

/-! ### Where a key stands -/
def seekL (l : List En) (k : List UInt8) : Nat := (l.takeWhile fun e => bytesLess e.k k).length
theorem seekL_le (l : List En) (k : List UInt8) : seekL l k ≤ l.length := by
  induction l with
  | nil => exact Nat.le_refl _
  | cons e l ih =>
    unfold seekL at ih ⊢
    rw [List.takeWhile_cons]
    split
    · simp only [List.length_cons]; omega
    · simp
theorem seekL_below : ∀ (l : List En) (k : List UInt8) (i : Nat), i < seekL l k → bytesLess (keyAt l i) k = true
  | [], k, i, h => by simp [seekL] at h
  | e :: l, k, i, h => by
    unfold seekL at h
    rw [List.takeWhile_cons] at h
    split at h
    · next he =>
      cases i with
      | zero => exact he
      | succ i => exact seekL_below l k i (by simpa [seekL] using h)
    · simp at h
theorem seekL_at : ∀ (l : List En) (k : List UInt8), seekL l k < l.length → bytesLess (keyAt l (seekL l k)) k = false
  | [], k, h => by simp at h
  | e :: l, k, h => by
    unfold seekL at h ⊢
    rw [List.takeWhile_cons] at h ⊢
    by_cases he : bytesLess e.k k = true
    · rw [if_pos he] at h ⊢
      exact seekL_at l k (by simpa [seekL] using h)
    · rw [if_neg he]
      simpa [keyAt] using he
/-- In entries that rise it parts them. -/
theorem Good.seek {l : List En} (h : Good l) (k : List UInt8) (i : Nat) (hi : i < l.length) : bytesLess (keyAt l i) k = decide (i < seekL l k) := by
  by_cases hlt : i < seekL l k
  · rw [seekL_below l k i hlt, decide_eq_true hlt]
  · rw [decide_eq_false hlt]
    have hat := seekL_at l k (by omega)
    by_cases he : i = seekL l k
    · rw [he]; exact hat
    · cases hb : bytesLess (keyAt l i) k with
      | false => rfl
      | true =>
        have := less_trans _ _ _ (h.rise (seekL l k) i (by omega) hi) hb
        rw [hat] at this
        cases this
theorem Good.seek_own {l : List En} (h : Good l) (i : Nat) (hi : i < l.length) : seekL l (keyAt l i) = i := by
  have h1 := h.seek (keyAt l i) i hi
  rw [less_irrefl] at h1
  have h2 : ¬ i < seekL l (keyAt l i) := by
    intro hh
    rw [decide_eq_true hh] at h1
    cases h1
  rcases Nat.lt_or_ge (seekL l (keyAt l i)) i with hlt | hge
  · have h3 := seekL_at l (keyAt l i) (by omega)
    rw [h.rise _ i hlt hi] at h3
    cases h3
  · omega
end Go.Proofs.Ythaiekilifoegaa.P
