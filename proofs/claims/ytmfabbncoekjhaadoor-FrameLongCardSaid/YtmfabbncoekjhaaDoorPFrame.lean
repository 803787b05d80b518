/- Plain law: records' frames, and what is read of texts. No program here. -/
import Derived.Test.YtmfabbncoekjhaaDoorPBurst
namespace Go.Proofs.YtmfabbncoekjhaaDoor.P

/-- A record's frame, from its n-th cell on. -/
def frameFrom (n : Nat) (r : List UInt8) : List UInt8 :=
  if r.length ≤ 24 then bytesOf ⟨n == 0, true, n, r⟩ else bytesOf ⟨n == 0, false, n, r.take 24⟩ ++ frameFrom (n + 1) (r.drop 24)
termination_by r.length
decreasing_by simp; omega
def frame (r : List UInt8) : List UInt8 := frameFrom 0 r
def frames (rs : List (List UInt8)) : List UInt8 := (rs.map frame).flatten
theorem frames_cons (r : List UInt8) (rs : List (List UInt8)) : frames (r :: rs) = frame r ++ frames rs := by simp [frames]
theorem frames_snoc (r : List UInt8) (rs : List (List UInt8)) : frames (rs ++ [r]) = frames rs ++ frame r := by simp [frames]
theorem frames_append (a b : List (List UInt8)) : frames (a ++ b) = frames a ++ frames b := by simp [frames]
/-- How many cells so many bytes want. -/
def cells (k : Nat) : Nat := if k ≤ 24 then 1 else (k + 23) / 24
theorem frame_short {n : Nat} {r : List UInt8} (h : r.length ≤ 24) : frameFrom n r = bytesOf ⟨n == 0, true, n, r⟩ := by rw [frameFrom, if_pos h]
theorem frame_long {n : Nat} {r : List UInt8} (h : 24 < r.length) : frameFrom n r = bytesOf ⟨n == 0, false, n, r.take 24⟩ ++ frameFrom (n + 1) (r.drop 24) := by rw [frameFrom, if_neg (by omega)]
theorem cells_long {k : Nat} (h : 24 < k) : cells k = 1 + cells (k - 24) := by unfold cells; split <;> split <;> omega
theorem cells_short {k : Nat} (h : k ≤ 24) : cells k = 1 := by unfold cells; rw [if_pos h]
theorem cells_pos (k : Nat) : 1 ≤ cells k := by unfold cells; split <;> omega
theorem cells_le (k : Nat) : cells k ≤ 1 + k / 24 := by unfold cells; split <;> omega
theorem frameFrom_length (r : List UInt8) (n : Nat) : (frameFrom n r).length = 32 * cells r.length := by
  by_cases h : r.length ≤ 24
  · rw [frame_short h, bytesOf_length _ h, cells_short h]
  · have ih := frameFrom_length (r.drop 24) (n + 1)
    rw [frame_long (by omega), List.length_append, bytesOf_length _ (by simp; omega), ih, List.length_drop, cells_long (show 24 < r.length by omega)]
    omega
termination_by r.length
decreasing_by simp; omega
theorem frame_length (r : List UInt8) : (frame r).length = 32 * cells r.length := frameFrom_length r 0

theorem may_short {n : Nat} {r : List UInt8} (h : r.length ≤ 24) (hn : n ≤ 65535) (h0 : n = 0 ∨ 0 < r.length) : may ⟨n == 0, true, n, r⟩ = true := by
  unfold may
  have e1 : decide ((n : Int) < 0) = false := by simp
  have e2 : decide ((65535 : Int) < n) = false := by simp; omega
  have e3 : ((n == 0) != ((n : Int) == 0)) = false := by
    by_cases hz : n = 0
    · subst hz; rfl
    · have h1 : ((n : Int) == 0) = false := by simp; omega
      have h2 : (n == 0) = false := by simp; omega
      rw [h1, h2]
      rfl
  simp only [e1, e2, e3]
  by_cases h24 : r.length = 24
  · simp [h24]
  · have h1 : r.length < 24 := by omega
    rcases h0 with rfl | h0
    · simp [h1]
    · simp [h1, h0]
theorem may_more {n : Nat} {d : List UInt8} (h : d.length = 24) (hn : n ≤ 65535) : may ⟨n == 0, false, n, d⟩ = true := by
  unfold may
  have e1 : decide ((n : Int) < 0) = false := by simp
  have e2 : decide ((65535 : Int) < n) = false := by simp; omega
  have e3 : ((n == 0) != ((n : Int) == 0)) = false := by
    by_cases hz : n = 0
    · subst hz; rfl
    · have h1 : ((n : Int) == 0) = false := by simp; omega
      have h2 : (n == 0) = false := by simp; omega
      rw [h1, h2]
      rfl
  simp only [e1, e2, e3]
  simp [h]
theorem may_first {c : Cell} (h : may c = true) : c.first = (c.num == 0) := by
  unfold may at h
  simp only [Bool.and_eq_true, Bool.not_eq_true', Bool.or_eq_false_iff] at h
  have := h.1.2
  simpa using this
theorem may_data {c : Cell} (h : may c = true) : c.data.length = 24 ∨ c.data.length < 24 ∧ c.last = true ∧ (0 < c.data.length ∨ c.first = true) := by
  unfold may at h
  simp only [Bool.and_eq_true, Bool.or_eq_true, decide_eq_true_eq, beq_iff_eq] at h
  rcases h.2 with h | ⟨⟨h1, h2⟩, h3⟩
  · exact .inl h
  · exact .inr ⟨h1, h2, h3⟩

/-- The record whose cells, from the n-th on, a text begins with, behind what was read of it: it, and how many cells. -/
def oneFrom (s : List UInt8) (n : Nat) (acc : List UInt8) : Option (List UInt8 × Nat) :=
  if s.length < 32 ∨ 524288 < acc.length then none
  else if reads (s.take 32) = true ∧ (cand (s.take 32)).num = n then
    if (cand (s.take 32)).last = true ∧ (acc ++ (cand (s.take 32)).data).length ≤ 524288 then some (acc ++ (cand (s.take 32)).data, n + 1)
    else oneFrom (s.drop 32) (n + 1) (acc ++ (cand (s.take 32)).data)
  else none
termination_by s.length
decreasing_by simp; omega
def one (s : List UInt8) : Option (List UInt8 × Nat) := oneFrom s 0 []
theorem one_end {s acc : List UInt8} {n : Nat} (h : s.length < 32 ∨ 524288 < acc.length) : oneFrom s n acc = none := by rw [oneFrom, if_pos h]
theorem one_bad {s acc : List UInt8} {n : Nat} (h : ¬ (reads (s.take 32) = true ∧ (cand (s.take 32)).num = n)) : oneFrom s n acc = none := by
  rw [oneFrom]
  split
  · rfl
  · rfl
theorem one_last {s acc : List UInt8} {n : Nat} (h0 : 32 ≤ s.length) (h1 : acc.length ≤ 524288) (h : reads (s.take 32) = true ∧ (cand (s.take 32)).num = n) (hl : (cand (s.take 32)).last = true) (hm : (acc ++ (cand (s.take 32)).data).length ≤ 524288) :
    oneFrom s n acc = some (acc ++ (cand (s.take 32)).data, n + 1) := by rw [oneFrom, if_neg (by omega), if_pos h, if_pos ⟨hl, hm⟩]
theorem one_more {s acc : List UInt8} {n : Nat} (h0 : 32 ≤ s.length) (h1 : acc.length ≤ 524288) (h : reads (s.take 32) = true ∧ (cand (s.take 32)).num = n) (hl : ¬ ((cand (s.take 32)).last = true ∧ (acc ++ (cand (s.take 32)).data).length ≤ 524288)) :
    oneFrom s n acc = oneFrom (s.drop 32) (n + 1) (acc ++ (cand (s.take 32)).data) := by rw [oneFrom, if_neg (by omega), if_pos h, if_neg hl]
theorem one_wide {s acc : List UInt8} {n : Nat} (hm : 524288 < (acc ++ (cand (s.take 32)).data).length) : oneFrom s n acc = none := by
  by_cases h0 : s.length < 32 ∨ 524288 < acc.length
  · exact one_end h0
  · by_cases h : reads (s.take 32) = true ∧ (cand (s.take 32)).num = n
    · rw [one_more (by omega) (by omega) h (by omega)]
      exact one_end (.inr hm)
    · exact one_bad h

/-- One cell ahead of a text. -/
theorem cell_ahead (c : Cell) (hm : may c = true) (x : List UInt8) : (bytesOf c ++ x).take 32 = bytesOf c ∧ (bytesOf c ++ x).drop 32 = x ∧ 32 ≤ (bytesOf c ++ x).length := by
  have hl := bytesOf_length c (may_len hm)
  refine ⟨?_, ?_, by rw [List.length_append, hl]; omega⟩
  · rw [← hl, List.take_left]
  · rw [← hl, List.drop_left]
theorem oneFrom_frame (r : List UInt8) (n : Nat) (acc x : List UInt8) (hn : n + r.length / 24 ≤ 65535) (ha : acc.length + r.length ≤ 524288) (h0 : n = 0 ∨ 0 < r.length) :
    oneFrom (frameFrom n r ++ x) n acc = some (acc ++ r, n + cells r.length) := by
  by_cases h : r.length ≤ 24
  · have hm := may_short h (by omega) h0
    obtain ⟨e1, e2, e3⟩ := cell_ahead _ hm x
    rw [frame_short h, cells_short h]
    have hr : reads ((bytesOf ⟨n == 0, true, n, r⟩ ++ x).take 32) = true ∧ (cand ((bytesOf ⟨n == 0, true, n, r⟩ ++ x).take 32)).num = n := by
      rw [e1, reads_bytes _ hm, cand_bytes _ hm]; exact ⟨rfl, rfl⟩
    rw [one_last e3 (by omega) hr (by rw [e1, cand_bytes _ hm]) (by rw [e1, cand_bytes _ hm]; simp; omega), e1, cand_bytes _ hm]
  · have hm := may_more (n := n) (d := r.take 24) (by simp; omega) (by omega)
    obtain ⟨e1, e2, e3⟩ := cell_ahead _ hm (frameFrom (n + 1) (r.drop 24) ++ x)
    have ih := oneFrom_frame (r.drop 24) (n + 1) (acc ++ r.take 24) x (by simp; omega) (by simp; omega) (.inr (by simp; omega))
    rw [frame_long (by omega), List.append_assoc]
    have hr : reads ((bytesOf ⟨n == 0, false, n, r.take 24⟩ ++ (frameFrom (n + 1) (r.drop 24) ++ x)).take 32) = true ∧ (cand ((bytesOf ⟨n == 0, false, n, r.take 24⟩ ++ (frameFrom (n + 1) (r.drop 24) ++ x)).take 32)).num = n := by
      rw [e1, reads_bytes _ hm, cand_bytes _ hm]; exact ⟨rfl, rfl⟩
    rw [one_more e3 (by omega) hr (by rw [e1, cand_bytes _ hm]; simp), e1, e2, cand_bytes _ hm, ih, List.append_assoc, List.take_append_drop, cells_long (show 24 < r.length by omega), List.length_drop]
    congr 2
    omega
termination_by r.length
decreasing_by simp; omega
theorem one_frame (r x : List UInt8) (h : r.length ≤ 524288) : one (frame r ++ x) = some (r, cells r.length) := by
  have := oneFrom_frame r 0 [] x (by omega) (by simpa using h) (.inl rfl)
  rw [Nat.zero_add, List.nil_append] at this
  exact this
theorem frame_oneFrom (s : List UInt8) (n : Nat) (acc r' : List UInt8) (m : Nat) (h : oneFrom s n acc = some (r', m)) :
    ∃ r, r' = acc ++ r ∧ n < m ∧ 32 * (m - n) ≤ s.length ∧ frameFrom n r = s.take (32 * (m - n)) ∧ r'.length ≤ 524288 ∧ (n = 0 ∨ 0 < r.length) := by
  by_cases h0 : s.length < 32 ∨ 524288 < acc.length
  · rw [one_end h0] at h; cases h
  · by_cases h1 : reads (s.take 32) = true ∧ (cand (s.take 32)).num = n
    · have hm := reads_may h1.1
      have hb := reads_back h1.1
      have hf := may_first hm
      have hd := may_data hm
      have hl := may_len hm
      rw [h1.2] at hf
      have hf' : (cand (s.take 32)).first = (n == 0) := by
        rw [hf]
        by_cases hz : n = 0
        · subst hz; rfl
        · have : ((n : Int) == 0) = false := by simp; omega
          rw [this]; simp [hz]
      generalize hc : cand (s.take 32) = c at *
      obtain ⟨f, l, k, d⟩ := c
      simp only at *
      obtain ⟨rfl⟩ := h1.2
      subst hf'
      by_cases h2 : l = true ∧ (acc ++ d).length ≤ 524288
      · have e := one_last (s := s) (acc := acc) (n := n) (by omega) (by omega) (by rw [hc]; exact h1) (by rw [hc]; exact h2.1) (by rw [hc]; exact h2.2)
        rw [e, hc] at h
        simp only [Option.some.injEq, Prod.mk.injEq] at h
        obtain ⟨rfl, rfl⟩ := h
        obtain ⟨rfl, h3⟩ := h2
        refine ⟨d, rfl, by omega, by omega, ?_, h3, ?_⟩
        · rw [frame_short hl, hb]; congr 1; omega
        · rcases hd with hd | ⟨_, _, hd | hd⟩
          · right; omega
          · right; exact hd
          · left; simpa using hd
      · have e := one_more (s := s) (acc := acc) (n := n) (by omega) (by omega) (by rw [hc]; exact h1) (by rw [hc]; exact h2)
        rw [e, hc] at h
        have hnl : l = false := by
          cases l with
          | false => rfl
          | true =>
            exfalso
            have : 524288 < (acc ++ d).length := by
              by_cases h3 : (acc ++ d).length ≤ 524288
              · exact absurd ⟨rfl, h3⟩ h2
              · omega
            rw [one_end (.inr this)] at h
            cases h
        subst hnl
        have hd24 : d.length = 24 := by
          rcases hd with hd | ⟨_, hd, _⟩
          · exact hd
          · cases hd
        obtain ⟨r, rfl, hm1, hm2, hfr, hle, hpos⟩ := frame_oneFrom (s.drop 32) (n + 1) (acc ++ d) r' m h
        have hr0 : 0 < r.length := by rcases hpos with hp | hp <;> omega
        refine ⟨d ++ r, by simp, by omega, by simp at hm2; omega, ?_, hle, .inr (by simp; omega)⟩
        rw [frame_long (by simp; omega), List.take_left' hd24, List.drop_left' hd24, hfr, hb]
        rw [show 32 * (m - n) = 32 + 32 * (m - (n + 1)) by omega, List.take_add]
    · rw [one_bad h1] at h; cases h
termination_by s.length
decreasing_by simp; omega
theorem frame_one (s r : List UInt8) (m : Nat) (h : one s = some (r, m)) : 0 < m ∧ 32 * m ≤ s.length ∧ frame r = s.take (32 * m) ∧ r.length ≤ 524288 := by
  obtain ⟨r', h1, h2, h3, h4, h5, _⟩ := frame_oneFrom s 0 [] r m h
  rw [List.nil_append] at h1
  subst h1
  exact ⟨h2, h3, h4, h5⟩

/-! ### The records that are whole -/
def readN : Nat → List UInt8 → List (List UInt8) × Nat
  | 0, _ => ([], 0)
  | f + 1, s => match one s with
    | none => ([], 0)
    | some (r, m) => (r :: (readN f (s.drop (32 * m))).1, 32 * m + (readN f (s.drop (32 * m))).2)
def recs (s : List UInt8) : List (List UInt8) := (readN s.length s).1
def whole (s : List UInt8) : Nat := (readN s.length s).2
/-- l are the records that are whole in s, of w bytes. -/
def Whole (s : List UInt8) (l : List (List UInt8)) (w : Nat) : Prop := w ≤ s.length ∧ frames l = s.take w ∧ one (s.drop w) = none ∧ ∀ r ∈ l, r.length ≤ 524288
theorem Whole.unique : ∀ (l l' : List (List UInt8)) (s : List UInt8) (w w' : Nat), Whole s l w → Whole s l' w' → l = l' ∧ w = w'
  | [], [], s, w, w', h, h' => by
    have h1 : w = 0 := by
      have := congrArg List.length h.2.1
      simp [frames] at this
      have := h.1; omega
    have h2 : w' = 0 := by
      have := congrArg List.length h'.2.1
      simp [frames] at this
      have := h'.1; omega
    exact ⟨rfl, by omega⟩
  | [], r :: l, s, w, w', h, h' => by
    exfalso
    have h1 : w = 0 := by
      have := congrArg List.length h.2.1
      simp [frames] at this
      have := h.1; omega
    subst h1
    have h3 := h.2.2.1
    rw [List.drop_zero, ← List.take_append_drop w' s, ← h'.2.1, frames_cons, List.append_assoc, one_frame r _ (h'.2.2.2 r (List.mem_cons_self ..))] at h3
    cases h3
  | r :: l, [], s, w, w', h, h' => by
    exfalso
    have h1 : w' = 0 := by
      have := congrArg List.length h'.2.1
      simp [frames] at this
      have := h'.1; omega
    subst h1
    have h3 := h'.2.2.1
    rw [List.drop_zero, ← List.take_append_drop w s, ← h.2.1, frames_cons, List.append_assoc, one_frame r _ (h.2.2.2 r (List.mem_cons_self ..))] at h3
    cases h3
  | r :: l, r' :: l', s, w, w', h, h' => by
    have e1 : s = frame r ++ (frames l ++ s.drop w) := by
      conv => lhs; rw [← List.take_append_drop w s, ← h.2.1, frames_cons, List.append_assoc]
    have e2 : s = frame r' ++ (frames l' ++ s.drop w') := by
      conv => lhs; rw [← List.take_append_drop w' s, ← h'.2.1, frames_cons, List.append_assoc]
    have o1 := one_frame r (frames l ++ s.drop w) (h.2.2.2 r (List.mem_cons_self ..))
    have o2 := one_frame r' (frames l' ++ s.drop w') (h'.2.2.2 r' (List.mem_cons_self ..))
    rw [← e1] at o1
    rw [← e2] at o2
    rw [o1] at o2
    simp only [Option.some.injEq, Prod.mk.injEq] at o2
    obtain ⟨rfl, _⟩ := o2
    have hlen := congrArg List.length h.2.1
    have hlen' := congrArg List.length h'.2.1
    rw [frames_cons, List.length_append, List.length_take, Nat.min_eq_left h.1] at hlen
    rw [frames_cons, List.length_append, List.length_take, Nat.min_eq_left h'.1] at hlen'
    have hd : s.drop (frame r).length = frames l ++ s.drop w := by
      conv => lhs; rw [e1]
      rw [List.drop_left]
    have hd' : s.drop (frame r).length = frames l' ++ s.drop w' := by
      conv => lhs; rw [e2]
      rw [List.drop_left]
    have W1 : Whole (s.drop (frame r).length) l (w - (frame r).length) := by
      refine ⟨by rw [List.length_drop]; have := h.1; omega, ?_, ?_, fun q hq => h.2.2.2 q (List.mem_cons_of_mem _ hq)⟩
      · rw [hd, show w - (frame r).length = (frames l).length by omega, List.take_left]
      · rw [List.drop_drop, show (frame r).length + (w - (frame r).length) = w by omega]; exact h.2.2.1
    have W2 : Whole (s.drop (frame r).length) l' (w' - (frame r).length) := by
      refine ⟨by rw [List.length_drop]; have := h'.1; omega, ?_, ?_, fun q hq => h'.2.2.2 q (List.mem_cons_of_mem _ hq)⟩
      · rw [hd', show w' - (frame r).length = (frames l').length by omega, List.take_left]
      · rw [List.drop_drop, show (frame r).length + (w' - (frame r).length) = w' by omega]; exact h'.2.2.1
    obtain ⟨rfl, h5⟩ := Whole.unique l l' _ _ _ W1 W2
    exact ⟨rfl, by omega⟩
theorem readN_whole : ∀ (f : Nat) (s : List UInt8), s.length ≤ f → Whole s (readN f s).1 (readN f s).2
  | 0, s, h => by
    obtain rfl : s = [] := List.length_eq_zero_iff.1 (by omega)
    exact ⟨by simp [readN], by simp [readN, frames], one_end (.inl (by simp)), fun r hr => by simp [readN] at hr⟩
  | f + 1, s, h => by
    cases ho : one s with
    | none =>
      have e : readN (f + 1) s = ([], 0) := by unfold readN; rw [ho]
      rw [e]
      exact ⟨by simp, by simp [frames], by simpa using ho, fun r hr => by simp at hr⟩
    | some q =>
      obtain ⟨r, m⟩ := q
      obtain ⟨h1, h2, h3, h4⟩ := frame_one s r m ho
      have ih := readN_whole f (s.drop (32 * m)) (by simp; omega)
      have e : readN (f + 1) s = (r :: (readN f (s.drop (32 * m))).1, 32 * m + (readN f (s.drop (32 * m))).2) := by
        conv => lhs; unfold readN
        rw [ho]
      rw [e]
      obtain ⟨i1, i2, i3, i4⟩ := ih
      refine ⟨by simp at i1 ⊢; omega, ?_, ?_, ?_⟩
      · rw [frames_cons, i2, h3, List.take_add]
      · rw [← List.drop_drop]; exact i3
      · intro q hq
        rcases List.mem_cons.1 hq with rfl | hq
        · exact h4
        · exact i4 q hq
theorem recs_whole (s : List UInt8) : Whole s (recs s) (whole s) := readN_whole s.length s (Nat.le_refl _)
theorem Whole.eq {s : List UInt8} {l : List (List UInt8)} {w : Nat} (h : Whole s l w) : recs s = l ∧ whole s = w := Whole.unique _ _ _ _ _ (recs_whole s) h
end Go.Proofs.YtmfabbncoekjhaaDoor.P
