/- Plain law: frames cut short, and what is whole behind others. No program here. -/
import Derived.Test.YtmfabbncoekjhaaDoorPFrame
namespace Go.Proofs.YtmfabbncoekjhaaDoor.P

/-- Of a strict beginning of a frame no record is read. -/
theorem one_short (r q x : List UInt8) (hr : r.length ≤ 524288) (h : frame r = q ++ x) (hx : x ≠ []) : one q = none := by
  cases ho : one q with
  | none => rfl
  | some p =>
    exfalso
    obtain ⟨r', m⟩ := p
    obtain ⟨_, h2, h3, h4⟩ := frame_one q r' m ho
    have e : frame r = frame r' ++ (q.drop (32 * m) ++ x) := by rw [h, h3, ← List.append_assoc, List.take_append_drop]
    have o1 := one_frame r' (q.drop (32 * m) ++ x) h4
    have o2 := one_frame r [] hr
    rw [List.append_nil, e, o1] at o2
    simp only [Option.some.injEq, Prod.mk.injEq] at o2
    obtain ⟨rfl, _⟩ := o2
    have := congrArg List.length e
    have hx0 : 0 < x.length := by rcases x with _ | _; exact absurd rfl hx; simp
    simp only [List.length_append] at this
    omega
theorem frames_mod (l : List (List UInt8)) : (frames l).length % 32 = 0 := by
  induction l with
  | nil => simp [frames]
  | cons r l ih => rw [frames_cons, List.length_append, frame_length]; omega
theorem whole_le (s : List UInt8) : whole s ≤ s.length := (recs_whole s).1
theorem whole_len (s : List UInt8) : (frames (recs s)).length = whole s := by
  have h := recs_whole s
  rw [h.2.1, List.length_take, Nat.min_eq_left h.1]
theorem whole_mod (s : List UInt8) : whole s % 32 = 0 := by rw [← whole_len]; exact frames_mod _
theorem recs_nil_iff (s : List UInt8) (h : whole s = 0) : recs s = [] := by
  have hl := whole_len s
  rw [h] at hl
  cases hr : recs s with
  | nil => rfl
  | cons r l =>
    rw [hr, frames_cons, List.length_append, frame_length] at hl
    have := cells_pos r.length
    omega
theorem rest_none (s : List UInt8) : recs (s.drop (whole s)) = [] ∧ whole (s.drop (whole s)) = 0 :=
  Whole.eq ⟨by omega, by simp [frames], by simpa using (recs_whole s).2.2.1, by simp⟩
theorem less_one (s : List UInt8) (h : 0 < whole s) : (recs (s.take (whole s - 1))).length + 1 = (recs s).length := by
  have hw := recs_whole s
  have hl := whole_len s
  rcases List.eq_nil_or_concat (recs s) with hn | ⟨l, r, hlr⟩
  · rw [hn] at hl; simp [frames] at hl; omega
  · rw [hlr] at hw hl ⊢
    have hlen := frame_length r
    have hc := cells_pos r.length
    rw [List.concat_eq_append] at *
    rw [frames_snoc, List.length_append] at hl
    have hfl : frames l ++ frame r = s.take (whole s) := by rw [← frames_snoc]; exact hw.2.1
    have hr := hw.2.2.2 r (by simp)
    have e1 : s.take (whole s - 1) = frames l ++ (frame r).take ((frame r).length - 1) := by
      have : s.take (whole s - 1) = (s.take (whole s)).take (whole s - 1) := by rw [List.take_take]; congr 1; omega
      rw [this, ← hfl, List.take_append, List.take_of_length_le (by omega)]
      congr 2
      omega
    have W : Whole (s.take (whole s - 1)) l (frames l).length := by
      refine ⟨by rw [e1, List.length_append]; omega, by rw [e1, List.take_left], ?_, fun q hq => hw.2.2.2 q (by simp [hq])⟩
      rw [e1, List.drop_left]
      refine one_short r _ ((frame r).drop ((frame r).length - 1)) hr (by rw [List.take_append_drop]) ?_
      intro e
      have := congrArg List.length e
      rw [List.length_drop] at this
      simp at this
      omega
    rw [W.eq.1]
    simp
/-- The records of frames, whatever short of a frame stands behind them. -/
theorem frames_whole (l : List (List UInt8)) (x : List UInt8) (h : ∀ r ∈ l, r.length ≤ 524288) (hx : one x = none) : recs (frames l ++ x) = l ∧ whole (frames l ++ x) = (frames l).length :=
  Whole.eq ⟨by simp, by rw [List.take_left], by rw [List.drop_left]; exact hx, h⟩
theorem one_nil : one [] = none := one_end (.inl (by simp))
end Go.Proofs.YtmfabbncoekjhaaDoor.P
