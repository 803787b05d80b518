/- Plain law: the order of rows, byte by byte; of numbers of a width. No program here. -/
import Derived.Test.YtnflbgindcejjaaDoorPText
namespace Go.Proofs.YtnflbgindcejjaaDoor.P
open Go.Op (bytesLess)

theorem val_acc : ∀ (l : List UInt8) (k : Nat), l.foldl (fun a c => 256 * a + c.toNat) k = k * 256 ^ l.length + val l
  | [], k => by simp [val]
  | c :: l, k => by
    have h1 := val_acc l (256 * k + c.toNat)
    have h2 := val_acc l (256 * 0 + c.toNat)
    show l.foldl _ (256 * k + c.toNat) = k * 256 ^ (l.length + 1) + l.foldl _ (256 * 0 + c.toNat)
    rw [h1, h2, Nat.pow_succ, Nat.add_mul, Nat.add_mul, Nat.mul_comm 256 k, Nat.mul_assoc k, Nat.mul_comm 256 (256 ^ l.length)]
    omega
theorem val_cons (c : UInt8) (l : List UInt8) : val (c :: l) = c.toNat * 256 ^ l.length + val l := by
  show l.foldl _ (256 * 0 + c.toNat) = _
  rw [val_acc]; simp

theorem less_cut : ∀ (p : List UInt8) (c d : UInt8) (x y : List UInt8), c ≠ d → bytesLess (p ++ c :: x) (p ++ d :: y) = decide (c < d)
  | [], c, d, x, y, h => by
    have : (c == d) = false := by simpa using h
    simp [bytesLess, this]
  | a :: p, c, d, x, y, h => by
    have hi := less_cut p c d x y h
    simp only [List.cons_append, bytesLess, hi]
    have : ¬ a < a := UInt8.lt_irrefl a
    simp [this]
/-- Texts of one length whose numbers differ part somewhere, in the order of the numbers. -/
theorem val_parts : ∀ (l m : List UInt8), l.length = m.length → val l < val m → ∃ p c d x y, l = p ++ c :: x ∧ m = p ++ d :: y ∧ c < d
  | [], [], _, h => by simp [val] at h
  | c :: l, d :: m, hl, h => by
    have hl' : l.length = m.length := by simpa using hl
    rw [val_cons, val_cons, hl'] at h
    by_cases hcd : c = d
    · subst hcd
      obtain ⟨p, c', d', x, y, h1, h2, h3⟩ := val_parts l m hl' (by omega)
      exact ⟨c :: p, c', d', x, y, by rw [h1]; rfl, by rw [h2]; rfl, h3⟩
    · refine ⟨[], c, d, l, m, rfl, rfl, ?_⟩
      rw [UInt8.lt_iff_toNat_lt]
      have hne : c.toNat ≠ d.toNat := fun h => hcd (UInt8.toNat_inj.1 h)
      have hv := val_lt m
      by_cases hlt : c.toNat < d.toNat
      · exact hlt
      · exfalso
        have : d.toNat + 1 ≤ c.toNat := by omega
        have h3 := Nat.mul_le_mul_right (256 ^ m.length) this
        rw [Nat.add_mul] at h3
        omega
/-- The rows of two numbers part somewhere, in the order of the numbers. -/
theorem row_parts_lt (a b : Nat) (hb : b < 18446744073709551616) (h : a < b) : ∃ p c d x y, row a = p ++ c :: x ∧ row b = p ++ d :: y ∧ c < d := by
  have hd8 := dig_le a
  have hd8b := dig_le b
  by_cases ha : a < 248
  · by_cases hb8 : b < 248
    · refine ⟨[], byt a, byt b, [], [], by unfold row; rw [if_pos ha]; rfl, by unfold row; rw [if_pos hb8]; rfl, ?_⟩
      rw [UInt8.lt_iff_toNat_lt, byt_toNat, byt_toNat]; omega
    · refine ⟨[], byt a, byt (247 + dig b), [], be (dig b) b, by unfold row; rw [if_pos ha]; rfl, by unfold row; rw [if_neg hb8]; rfl, ?_⟩
      have := dig_pos b (by omega)
      rw [UInt8.lt_iff_toNat_lt, byt_toNat, byt_toNat]; omega
  · have hra : row a = byt (247 + dig a) :: be (dig a) a := by unfold row; rw [if_neg ha]
    have hrb : row b = byt (247 + dig b) :: be (dig b) b := by unfold row; rw [if_neg (by omega)]
    have h1 := (dig_iff a (dig a) (by omega)).1 (Nat.le_refl _)
    have h2 := (dig_iff b (dig b) hb).1 (Nat.le_refl _)
    have hle : dig a ≤ dig b := (dig_iff a _ (by omega)).2 (by omega)
    by_cases hlt : dig a < dig b
    · refine ⟨[], byt (247 + dig a), byt (247 + dig b), _, _, hra, hrb, ?_⟩
      rw [UInt8.lt_iff_toNat_lt, byt_toNat, byt_toNat]; omega
    · have he : dig a = dig b := by omega
      obtain ⟨p, c, d, x, y, e1, e2, e3⟩ := val_parts (be (dig a) a) (be (dig b) b) (by rw [be_length, be_length, he]) (by
        rw [val_be, val_be, Nat.mod_eq_of_lt h1, Nat.mod_eq_of_lt h2]; exact h)
      exact ⟨byt (247 + dig a) :: p, c, d, x, y, by rw [hra, e1]; rfl, by rw [hrb, e2, he]; rfl, e3⟩
theorem row_parts (a b : Nat) (ha : a < 18446744073709551616) (hb : b < 18446744073709551616) (h : a ≠ b) :
    ∃ p c d x y, row a = p ++ c :: x ∧ row b = p ++ d :: y ∧ c ≠ d ∧ (c < d ↔ a < b) := by
  by_cases hlt : a < b
  · obtain ⟨p, c, d, x, y, e1, e2, e3⟩ := row_parts_lt a b hb hlt
    exact ⟨p, c, d, x, y, e1, e2, UInt8.ne_of_lt e3, ⟨fun _ => hlt, fun _ => e3⟩⟩
  · obtain ⟨p, c, d, x, y, e1, e2, e3⟩ := row_parts_lt b a ha (by omega)
    exact ⟨p, d, c, y, x, e2, e1, (UInt8.ne_of_lt e3).symm, ⟨fun h => absurd (UInt8.lt_trans e3 h) (UInt8.lt_irrefl _), fun h => by omega⟩⟩
theorem row_inj {a b : Nat} (ha : a < 18446744073709551616) (hb : b < 18446744073709551616) (h : row a = row b) : a = b := by
  by_cases hab : a = b
  · exact hab
  · obtain ⟨p, c, d, x, y, e1, e2, hne, _⟩ := row_parts a b ha hb hab
    rw [e1, e2] at h
    have := List.append_cancel_left h
    simp only [List.cons.injEq] at this
    exact absurd this.1 hne
/-- Numbers of a width stand in the order of the numbers. -/
theorem be_less (k a b : Nat) (ha : a < 256 ^ k) (hb : b < 256 ^ k) : bytesLess (be k a) (be k b) = decide (a < b) := by
  have hva : val (be k a) = a := by rw [val_be, Nat.mod_eq_of_lt ha]
  have hvb : val (be k b) = b := by rw [val_be, Nat.mod_eq_of_lt hb]
  by_cases hlt : a < b
  · obtain ⟨p, c, d, x, y, e1, e2, e3⟩ := val_parts (be k a) (be k b) (by simp [be_length]) (by rw [hva, hvb]; exact hlt)
    rw [e1, e2, less_cut _ _ _ _ _ (UInt8.ne_of_lt e3)]
    simp [e3, hlt]
  · by_cases heq : a = b
    · subst heq
      simp only [Nat.lt_irrefl, decide_false]
      have : ∀ l : List UInt8, bytesLess l l = false := by
        intro l
        induction l with
        | nil => rfl
        | cons c l ih => simp [bytesLess, ih, UInt8.lt_irrefl]
      exact this _
    · obtain ⟨p, c, d, x, y, e1, e2, e3⟩ := val_parts (be k b) (be k a) (by simp [be_length]) (by rw [hva, hvb]; omega)
      rw [e1, e2, less_cut _ _ _ _ _ (UInt8.ne_of_lt e3).symm]
      have h1 : ¬ d < c := fun h => absurd (UInt8.lt_trans e3 h) (UInt8.lt_irrefl _)
      simp [h1, hlt]
/-- A number has a width if nothing is left when it is shifted away. -/
theorem fits_iff (n m : Nat) (hn : n < 18446744073709551616) : dig n ≤ m ↔ n / 2 ^ (8 * m) = 0 := by
  rw [dig_iff n m hn, Nat.div_eq_zero_iff, Nat.pow_mul]
  have : 0 < (2 ^ 8) ^ m := Nat.pow_pos (by decide)
  constructor
  · intro h; right; exact h
  · rintro (h | h)
    · omega
    · exact h
/-- What is read of a number of a width, whatever stands behind it. -/
theorem readBig_be (k n : Nat) (h1 : 1 ≤ k) (h8 : k ≤ 8) (hn : n < 256 ^ k) (x : List UInt8) : bigOk (be k n ++ x) k = true ∧ bigNum (be k n ++ x) k = n := by
  have hok : bigOk (be k n ++ x) k = true := decide_eq_true ⟨by omega, by omega, by rw [List.length_append, be_length]; omega⟩
  refine ⟨hok, ?_⟩
  unfold bigNum
  rw [hok, if_pos rfl, Int.toNat_natCast, List.take_append_of_le_length (by rw [be_length]; exact Nat.le_refl _), List.take_of_length_le (by rw [be_length]; exact Nat.le_refl _), val_be, Nat.mod_eq_of_lt hn]

/-- A text's row is read with a bound that it keeps. -/
theorem text_read (s x : List UInt8) (hs : s.length < 18446744073709551616) (k : Int) (hk : (s.length : Int) ≤ k) :
    tOk (row s.length ++ (s ++ x)) k = true ∧ tText (row s.length ++ (s ++ x)) k = s ∧ tSize (row s.length ++ (s ++ x)) k = (row s.length).length + s.length := by
  obtain ⟨h1, h2, h3⟩ := read_row s.length hs (s ++ x)
  have hok : tOk (row s.length ++ (s ++ x)) k = true := by
    unfold tOk
    rw [h1, h2, h3, Bool.true_and]
    exact decide_eq_true ⟨by omega, hk, by simp only [List.length_append]; omega⟩
  refine ⟨hok, ?_, ?_⟩
  · unfold tText
    rw [hok, if_pos rfl, h2, h3, List.drop_left, List.take_left]
  · unfold tSize
    rw [hok, if_pos rfl, h2, h3]
theorem text_less (s x : List UInt8) (hs : s.length < 18446744073709551616) (k : Int) (hk : k < s.length) : tOk (row s.length ++ (s ++ x)) k = false := by
  obtain ⟨h1, h2, h3⟩ := read_row s.length hs (s ++ x)
  unfold tOk
  rw [h1, h2, Bool.true_and]
  exact decide_eq_false (by omega)
theorem text_cut (s x : List UInt8) (hs : s.length < 18446744073709551616) (k : Int) : tOk ((row s.length ++ (s ++ x)).take ((row s.length).length + s.length - 1)) k = false := by
  rcases Nat.eq_zero_or_pos s.length with h0 | h0
  · have hr : row 0 = [byt 0] := rfl
    rw [h0, hr]
    rfl
  · obtain ⟨h1, h2, h3⟩ := read_row s.length hs (s.take (s.length - 1))
    have : (row s.length ++ (s ++ x)).take ((row s.length).length + s.length - 1) = row s.length ++ s.take (s.length - 1) := by
      rw [List.take_append, List.take_of_length_le (by omega), show (row s.length).length + s.length - 1 - (row s.length).length = s.length - 1 by omega, List.take_append_of_le_length (by omega)]
    rw [this]
    unfold tOk
    rw [h1, h2, h3, Bool.true_and]
    exact decide_eq_false (by simp only [List.length_append, List.length_take]; omega)
end Go.Proofs.YtnflbgindcejjaaDoor.P
