/- Plain law of layer 26: the types and lengths of what is read; what is told is heard, what is heard was told. -/
import Derived.Test.YtcobfoiajdbahaaDoorPProto3
namespace Go.Proofs.YtcobfoiajdbahaaDoor.P
set_option linter.unusedVariables false
set_option linter.unusedSimpArgs false

theorem tText_len (s : List UInt8) (k : Nat) : (tText s (k : Int)).length ≤ k := by
  unfold tText
  by_cases h : tOk s (k : Int) = true
  · rw [if_pos h]
    unfold tOk at h
    simp only [Bool.and_eq_true, decide_eq_true_eq] at h
    rw [List.length_take]
    omega
  · rw [if_neg h]; simp
theorem qO_len (q : Qs) : (qO q).1.length ≤ 32 := tText_len q.1 32
theorem qL_len (q : Qs) : (qL q).1.1.length ≤ 32 := qO_len q
theorem qL_ty (q : Qs) : (qL q).1.2 < 18446744073709551616 := qN_ty _
theorem qH_ty (q : Qs) : (qH q).1.1 < 256 ∧ (qH q).1.2.1 < 256 ∧ (qH q).1.2.2 < 18446744073709551616 := ⟨qB_lt _ _ _, qB_lt _ _ _, bigNum_lt _⟩
theorem qF_le (c : Ca) (q : Qs) (i : Nat) : (qF c q i).2.1.length ≤ q.1.length := by
  match i with
  | 0 => exact qX_le q
  | 1 => exact qA_le q
  | 2 => exact qO_le q
  | 3 => exact qO_le q
  | 4 => exact qN_le q
  | 5 => exact qN_le q
  | 6 => exact qB_le 1 16 q
  | n + 7 => exact Nat.le_refl _
theorem qF_tyC (c : Ca) (q : Qs) (i : Nat) (h : tyC c) : tyC (qF c q i).1 := by
  obtain ⟨t1, t2, t3, t4, t5, t6, t7, t8, t9⟩ := h
  match i with
  | 0 => exact ⟨t1, t2, t3, qX_ty q, t5, t6, t7, t8, t9⟩
  | 1 => exact ⟨t1, t2, t3, t4, qA_ty q, t6, t7, t8, t9⟩
  | 2 => exact ⟨t1, t2, t3, t4, t5, t6, t7, t8, t9⟩
  | 3 => exact ⟨t1, t2, t3, t4, t5, t6, t7, t8, t9⟩
  | 4 => exact ⟨t1, t2, t3, t4, t5, qN_ty q, t7, t8, t9⟩
  | 5 => exact ⟨t1, t2, t3, t4, t5, t6, qN_ty q, t8, t9⟩
  | 6 => exact ⟨t1, t2, t3, t4, t5, t6, t7, by have := qB_lt 1 16 q; show _ ≤ ((qB 1 16 q).1 : Int); omega, by have := qB_lt 1 16 q; show ((qB 1 16 q).1 : Int) ≤ _; omega⟩
  | n + 7 => exact ⟨t1, t2, t3, t4, t5, t6, t7, t8, t9⟩
/-- Its texts are short. -/
def shC (c : Ca) : Prop := c.owner.length ≤ 32 ∧ c.to.length ≤ 32
theorem qF_sh (c : Ca) (q : Qs) (i : Nat) (h : shC c) : shC (qF c q i).1 := by
  match i with
  | 0 => exact h
  | 1 => exact h
  | 2 => exact ⟨qO_len q, h.2⟩
  | 3 => exact ⟨h.1, qO_len q⟩
  | 4 => exact h
  | 5 => exact h
  | 6 => exact h
  | n + 7 => exact h
theorem qFs_all (op : Nat) (r : Ca × Qs) (h : tyC r.1) (hs : shC r.1) : ∀ k, (qFs op r k).2.1.length ≤ r.2.1.length ∧ tyC (qFs op r k).1 ∧ shC (qFs op r k).1
  | 0 => ⟨Nat.le_refl _, h, hs⟩
  | k + 1 => by
    obtain ⟨h1, h2, h3⟩ := qFs_all op r h hs k
    rw [qFs_succ]
    unfold qStep
    by_cases hu : use op k = true
    · rw [if_pos hu]
      exact ⟨Nat.le_trans (qF_le _ _ _) h1, qF_tyC _ _ _ h2, qF_sh _ _ _ h3⟩
    · rw [if_neg hu]
      exact ⟨h1, h2, h3⟩
theorem headC_ty {h : Nat × Nat × Nat} (ht : h.1 < 256 ∧ h.2.1 < 256 ∧ h.2.2 < 18446744073709551616) : tyC (headC h) ∧ shC (headC h) :=
  ⟨⟨ht.1, ht.2.1, ht.2.2, ty_noX, ty_noA, by show (0:Nat) < _; decide, by show (0:Nat) < _; decide, by show _ ≤ (0:Int); decide, by show (0:Int) ≤ _; decide⟩, by show ([]:List UInt8).length ≤ 32; decide, by show ([]:List UInt8).length ≤ 32; decide⟩
theorem readQ_ty (s : List UInt8) : tyC (readQ s).1 ∧ shC (readQ s).1 := (qFs_all _ _ (headC_ty (qH_ty (s, false))).1 (headC_ty (qH_ty (s, false))).2 7).2
theorem noC_ty : tyC noC ∧ shC noC := headC_ty (h := (0, 0, 0)) ⟨by decide, by decide, by decide⟩
theorem readC_ty (s : List UInt8) : tyC (readC s) ∧ shC (readC s) := by
  unfold readC
  split
  · exact readQ_ty s
  · exact noC_ty
/-- The document's taking keeps the types too. -/
theorem tkA_ty (s : List UInt8) : tyA (tkA s).1 := by
  unfold tkA
  simp only
  split <;> (try split) <;> (try split) <;> first | exact ty_noA | exact fromB_ty _ _
theorem tkC_lt (s : List UInt8) : (tkC s).1 < 256 := by
  unfold tkC
  split
  · exact Nat.zero_lt_succ _
  · exact at_lt _ _
theorem tkX_ty (s : List UInt8) : tyX (tkX s).1 := ⟨tkA_ty s, by have := tkC_lt (tkA s).2; show _ ≤ ((tkC (tkA s).2).1 : Int); omega, by have := tkC_lt (tkA s).2; show ((tkC (tkA s).2).1 : Int) ≤ _; omega⟩
theorem tkF_tyC (c : Ca) (s : List UInt8) (i : Nat) (h : tyC c) : tyC (tkF c s i).1 := by
  obtain ⟨t1, t2, t3, t4, t5, t6, t7, t8, t9⟩ := h
  match i with
  | 0 => exact ⟨t1, t2, t3, tkX_ty s, t5, t6, t7, t8, t9⟩
  | 1 => exact ⟨t1, t2, t3, t4, tkA_ty s, t6, t7, t8, t9⟩
  | 2 => exact ⟨t1, t2, t3, t4, t5, t6, t7, t8, t9⟩
  | 3 => exact ⟨t1, t2, t3, t4, t5, t6, t7, t8, t9⟩
  | 4 => exact ⟨t1, t2, t3, t4, t5, rNum_lt s, t7, t8, t9⟩
  | 5 => exact ⟨t1, t2, t3, t4, t5, t6, rNum_lt s, t8, t9⟩
  | 6 => exact ⟨t1, t2, t3, t4, t5, t6, t7, by have := tkC_lt s; show _ ≤ ((tkC s).1 : Int); omega, by have := tkC_lt s; show ((tkC s).1 : Int) ≤ _; omega⟩
  | n + 7 => exact ⟨t1, t2, t3, t4, t5, t6, t7, t8, t9⟩
theorem tkF_sh (c : Ca) (s : List UInt8) (i : Nat) (h : shC c) : shC (tkF c s i).1 := by
  match i with
  | 0 => exact h
  | 1 => exact h
  | 2 => exact ⟨tText_len s 32, h.2⟩
  | 3 => exact ⟨h.1, tText_len s 32⟩
  | 4 => exact h
  | 5 => exact h
  | 6 => exact h
  | n + 7 => exact h
theorem tkGo_ty (op : Nat) : ∀ (k i : Nat) (r : Ca × List UInt8), tyC r.1 → shC r.1 → tyC (tkGo op r i k).1 ∧ shC (tkGo op r i k).1
  | 0, _, _, h, hs => ⟨h, hs⟩
  | k + 1, i, r, h, hs => by
    refine tkGo_ty op k (i + 1) (tkStep op r i) ?_ ?_
    · unfold tkStep
      split
      · exact tkF_tyC _ _ _ h
      · exact h
    · unfold tkStep
      split
      · exact tkF_sh _ _ _ hs
      · exact hs
theorem tkHead_ty (s : List UInt8) : (tkHead s).1 < 256 ∧ (tkHead s).2.1 < 256 ∧ (tkHead s).2.2 < 18446744073709551616 := ⟨at_lt _ _, at_lt _ _, bigNum_lt _⟩
theorem rfQ_ty (s : List UInt8) : tyC (rfQ s).1 ∧ shC (rfQ s).1 := tkGo_ty _ 7 0 _ (headC_ty (tkHead_ty s)).1 (headC_ty (tkHead_ty s)).2
theorem rf_is (s : List UInt8) : rfOk s = readOk s ∧ (readOk s = true → (rfQ s).1 = (readQ s).1) := rf_is_read s (rfQ_ty s).1 (readQ_ty s).1

/-! ### What is told is heard -/
def hearOkE (op : Nat) (e : Int) : Bool := decide (e ≠ 0) || knownB op
theorem hear_app (op cl nu : Nat) (a : An) (e : Int) (x : List UInt8) (h1 : op < 256) (h2 : cl < 256) (h3 : nu < 18446744073709551616) (ht : tyAn a) (he : 0 ≤ e ∧ e ≤ 255) (hm : e = 0 → mayA op a = true) :
    hearOk (tellB op cl nu a e ++ x) = (hearOkE op e && decide (x = [])) ∧ hearH (tellB op cl nu a e ++ x) = ((op, cl, nu), ((if e = 0 then tailB op a else []) ++ x, false)) ∧ (hearE (tellB op cl nu a e ++ x)).1 = e.toNat ∧ (hearOkE op e = true → (hearT (tellB op cl nu a e ++ x)).1 = if e = 0 then toldA op a else noAn) := by
  obtain ⟨m, rfl⟩ : ∃ m : Nat, e = (m : Int) := ⟨e.toNat, by omega⟩
  have e1 : hearE (tellB op cl nu a (m : Int) ++ x) = (m, (headB op cl nu ++ ((if (m : Int) = 0 then tailB op a else []) ++ x), false)) := by
    unfold hearE tellB
    rw [byI_nat m (by omega), List.cons_append, List.append_assoc]
    exact qB_app 0 255 m (by omega) (by omega) (by omega) _
  have e2 : hearH (tellB op cl nu a (m : Int) ++ x) = ((op, cl, nu), ((if (m : Int) = 0 then tailB op a else []) ++ x, false)) := by
    unfold hearH
    rw [e1]
    exact qH_app op cl nu h1 h2 h3 _
  refine ⟨?_, e2, by rw [e1]; rfl, ?_⟩
  · unfold hearOk hearT hearOkE
    rw [e1, e2]
    by_cases h0 : m = 0
    · subst h0
      simp only [if_true, Int.ofNat_zero, Int.natCast_zero, ne_eq, not_true_eq_false, decide_false, Bool.false_or]
      cases hk : knownB op with
      | true =>
        rw [show (!true) = false from rfl, told_app op a x (hm (by simp)) ht]
        simp
      | false =>
        have := told_keep op (tailB op a ++ x, !false) rfl
        rw [this]
        rfl
    · have hi : ¬ (m : Int) = 0 := by omega
      simp [h0, hi]
  · intro hk
    unfold hearT
    rw [e1, e2]
    by_cases h0 : m = 0
    · subst h0
      unfold hearOkE at hk
      simp only [Int.ofNat_zero, Int.natCast_zero, ne_eq, not_true_eq_false, decide_false, Bool.false_or] at hk
      simp only [if_true, hk, Int.natCast_zero]
      rw [show (false || !true) = false from rfl, told_app op a x (hm (by simp)) ht]
    · have hi : ¬ (m : Int) = 0 := by omega
      simp [h0, hi]
/-- What is heard was told, as it is told again. -/
theorem hear_is {s : List UInt8} (h : hearOk s = true) :
    s = tellB (hearH s).1.1 (hearH s).1.2.1 (hearH s).1.2.2 (hearT s).1 ((hearE s).1 : Int) ∧ (hearE s).1 < 256 ∧ tyAn (hearT s).1 ∧ hearOkE (hearH s).1.1 ((hearE s).1 : Int) = true ∧ ((hearE s).1 = 0 → mayA (hearH s).1.1 (hearT s).1 = true ∧ toldA (hearH s).1.1 (hearT s).1 = (hearT s).1) ∧ ((hearE s).1 ≠ 0 → (hearT s).1 = noAn) := by
  unfold hearOk at h
  simp only [Bool.and_eq_true, Bool.not_eq_true', decide_eq_true_eq] at h
  obtain ⟨h1, h2⟩ := h
  have hlt : (hearE s).1 < 256 := qB_lt 0 255 (s, false)
  by_cases h0 : (hearE s).1 = 0
  · have hT : hearT s = qTold (hearH s).1.1 ((hearH s).2.1, (hearH s).2.2 || !knownB (hearH s).1.1) := by unfold hearT; rw [if_pos h0]
    rw [hT] at h1 h2 ⊢
    obtain ⟨t1, t2, t3, t4, t5⟩ := told_is h1
    simp only [Bool.or_eq_false_iff, Bool.not_eq_false'] at t1
    obtain ⟨b1, b2, b3⟩ := qH_is (q := (hearE s).2) t1.1
    obtain ⟨c1, c2, c3⟩ := qB_is (q := (s, false)) b1
    refine ⟨?_, hlt, t5, ?_, fun _ => ⟨t3, t4⟩, fun hn => absurd h0 hn⟩
    · rw [h2, List.append_nil] at t2
      unfold tellB
      rw [if_pos (by omega), ← t2, byI_nat _ hlt]
      exact c2.trans (congrArg _ b2)
    · unfold hearOkE
      rw [t1.2]
      simp
  · have hT : hearT s = (noAn, (hearH s).2) := by unfold hearT; rw [if_neg h0]
    rw [hT] at h1 h2 ⊢
    obtain ⟨b1, b2, b3⟩ := qH_is (q := (hearE s).2) h1
    obtain ⟨c1, c2, c3⟩ := qB_is (q := (s, false)) b1
    refine ⟨?_, hlt, ty_noAn, ?_, fun hn => absurd hn h0, fun _ => rfl⟩
    · have b2' : (hearE s).2.1 = headB (hearH s).1.1 (hearH s).1.2.1 (hearH s).1.2.2 ++ (hearH s).2.1 := b2
      rw [h2, List.append_nil] at b2'
      unfold tellB
      rw [if_neg (by omega), List.append_nil, ← b2', byI_nat _ hlt]
      exact c2
    · unfold hearOkE
      have : ((hearE s).1 : Int) ≠ 0 := by omega
      rw [decide_eq_true this]
      rfl
theorem hearH_ty (s : List UInt8) : (hearH s).1.1 < 256 ∧ (hearH s).1.2.1 < 256 ∧ (hearH s).1.2.2 < 18446744073709551616 := qH_ty _
end Go.Proofs.YtcobfoiajdbahaaDoor.P
