/- Plain law: frames cut, and of which four bytes side by side are turned. No program here. -/
import Derived.Test.YtmfabbncoekjhaaDoorPFrame2
namespace Go.Proofs.YtmfabbncoekjhaaDoor.P

/-- How many bytes two texts have alike, from the beginning on. -/
def diff : List UInt8 → List UInt8 → Nat
  | a :: l, b :: m => if a = b then diff l m + 1 else 0
  | _, _ => 0
theorem diff_le : ∀ (l m : List UInt8), diff l m ≤ l.length
  | [], m => by simp [diff]
  | a :: l, [] => by simp [diff]
  | a :: l, b :: m => by
    have := diff_le l m
    unfold diff
    split <;> simp <;> omega
theorem diff_same : ∀ (l m : List UInt8) (i : Nat), i < diff l m → l[i]? = m[i]?
  | [], m, i, h => by simp [diff] at h
  | a :: l, [], i, h => by simp [diff] at h
  | a :: l, b :: m, i, h => by
    unfold diff at h
    split at h
    · next hab =>
      subst hab
      rcases i with _ | i
      · rfl
      · simpa using diff_same l m i (by omega)
    · omega
theorem diff_not : ∀ (l m : List UInt8), l.length = m.length → diff l m < l.length → l[diff l m]? ≠ m[diff l m]?
  | [], m, _, h => by simp at h
  | a :: l, [], hl, h => by simp at hl
  | a :: l, b :: m, hl, h => by
    by_cases hab : a = b
    · have e : diff (a :: l) (b :: m) = diff l m + 1 := by show (if a = b then diff l m + 1 else 0) = _; rw [if_pos hab]
      rw [e] at h ⊢
      simpa using diff_not l m (by simpa using hl) (by simpa using h)
    · have e : diff (a :: l) (b :: m) = 0 := by show (if a = b then diff l m + 1 else 0) = _; rw [if_neg hab]
      rw [e]
      simpa using hab

theorem window_eq (e e' : List UInt8) (hl : e.length = e'.length) (lo k : Nat) (hk : k ≤ 4) (h : ∀ i, i < lo ∨ lo + k ≤ i → e[i]? = e'[i]?) (hc : crc e = crc e') : e = e' := by
  have h1 : e.take lo = e'.take lo := by
    apply List.ext_getElem?
    intro i
    rw [List.getElem?_take, List.getElem?_take]
    split
    · exact h i (.inl (by assumption))
    · rfl
  have h2 : e.drop (lo + k) = e'.drop (lo + k) := by
    apply List.ext_getElem?
    intro i
    rw [List.getElem?_drop, List.getElem?_drop]
    exact h _ (.inr (by omega))
  have e1 : ∀ q : List UInt8, q = q.take lo ++ (q.drop lo).take k ++ q.drop (lo + k) := by
    intro q
    conv => lhs; rw [← List.take_append_drop lo q, ← List.take_append_drop k (q.drop lo), List.drop_drop]
    rw [List.append_assoc]
  have hc' := hc
  rw [e1 e, e1 e', h1, h2] at hc'
  have hm := burst _ _ _ _ (by simp [hl]) (by simp; omega) hc'
  rw [e1 e, e1 e', h1, h2, hm]

theorem one_along : ∀ (j : Nat) (r : List UInt8) (n : Nat) (acc q : List UInt8), 32 * j < (frameFrom n r).length → q.take (32 * j) = (frameFrom n r).take (32 * j) → 32 * j ≤ q.length → n + r.length / 24 ≤ 65535 → acc.length + r.length ≤ 524288 →
    oneFrom q n acc = oneFrom (q.drop (32 * j)) (n + j) (acc ++ r.take (24 * j))
  | 0, r, n, acc, q, _, _, _, _, _ => by simp
  | j + 1, r, n, acc, q, h, hq, hl, hn, ha => by
    have h24 : 24 < r.length := by
      rcases Nat.lt_or_ge 24 r.length with h' | h'
      · exact h'
      · rw [frameFrom_length, cells_short h'] at h; omega
    have hm := may_more (n := n) (d := r.take 24) (by simp; omega) (by omega)
    have hbl := bytesOf_length ⟨n == 0, false, n, r.take 24⟩ (by simp; omega)
    have hf := frame_long (n := n) h24
    have hfl : (frameFrom n r).length = 32 + (frameFrom (n + 1) (r.drop 24)).length := by rw [hf, List.length_append, hbl]
    have e1 : q.take 32 = bytesOf ⟨n == 0, false, n, r.take 24⟩ := by
      have : q.take 32 = (q.take (32 * (j + 1))).take 32 := by rw [List.take_take, show min 32 (32 * (j + 1)) = 32 by omega]
      rw [this, hq, List.take_take, show min 32 (32 * (j + 1)) = 32 by omega, hf, ← hbl, List.take_left]
    have e2 : (q.drop 32).take (32 * j) = (frameFrom (n + 1) (r.drop 24)).take (32 * j) := by
      have : (q.drop 32).take (32 * j) = (q.take (32 * (j + 1))).drop 32 := by rw [List.drop_take, show 32 * (j + 1) - 32 = 32 * j by omega]
      rw [this, hq, List.drop_take, hf]
      have h32 : (bytesOf ⟨n == 0, false, n, r.take 24⟩ ++ frameFrom (n + 1) (r.drop 24)).drop 32 = frameFrom (n + 1) (r.drop 24) := by
        conv => lhs; rw [← hbl]
        rw [List.drop_left]
      rw [h32]
      congr 1
    have hr : reads (q.take 32) = true ∧ (cand (q.take 32)).num = n := by rw [e1, reads_bytes _ hm, cand_bytes _ hm]; exact ⟨rfl, rfl⟩
    rw [one_more (by omega) (by omega) hr (by rw [e1, cand_bytes _ hm]; simp), e1, cand_bytes _ hm]
    have ih := one_along j (r.drop 24) (n + 1) (acc ++ r.take 24) (q.drop 32) (by omega) e2 (by simp; omega) (by simp; omega) (by simp; omega)
    rw [ih, List.drop_drop, List.append_assoc]
    have e3 : r.take 24 ++ (r.drop 24).take (24 * j) = r.take (24 * (j + 1)) := by
      rw [show 24 * (j + 1) = 24 + 24 * j by omega, List.take_add]
    rw [e3, show 32 + 32 * j = 32 * (j + 1) by omega, show n + 1 + j = n + (j + 1) by omega]
theorem cell_reads : ∀ (j : Nat) (r : List UInt8) (n : Nat), 32 * j < (frameFrom n r).length → n + r.length / 24 ≤ 65535 → (n = 0 ∨ 0 < r.length) → reads (((frameFrom n r).drop (32 * j)).take 32) = true
  | 0, r, n, h, hn, h0 => by
    rw [Nat.mul_zero, List.drop_zero]
    by_cases h24 : r.length ≤ 24
    · have hm := may_short h24 (by omega) h0
      have := (cell_ahead _ hm []).1
      rw [List.append_nil] at this
      rw [frame_short h24, this, reads_bytes _ hm]
    · have hm := may_more (n := n) (d := r.take 24) (by simp; omega) (by omega)
      rw [frame_long (by omega), (cell_ahead _ hm _).1, reads_bytes _ hm]
  | j + 1, r, n, h, hn, h0 => by
    have h24 : 24 < r.length := by
      rcases Nat.lt_or_ge 24 r.length with h' | h'
      · exact h'
      · rw [frameFrom_length, cells_short h'] at h; omega
    have hbl := bytesOf_length ⟨n == 0, false, n, r.take 24⟩ (by simp; omega)
    have hf := frame_long (n := n) h24
    have hfl : (frameFrom n r).length = 32 + (frameFrom (n + 1) (r.drop 24)).length := by rw [hf, List.length_append, hbl]
    have h32 : (frameFrom n r).drop 32 = frameFrom (n + 1) (r.drop 24) := by
      rw [hf]
      conv => lhs; rw [← hbl]
      rw [List.drop_left]
    have ih := cell_reads j (r.drop 24) (n + 1) (by omega) (by simp; omega) (.inr (by simp; omega))
    rw [← h32, List.drop_drop, show 32 + 32 * j = 32 * (j + 1) by omega] at ih
    exact ih

/-- Of a text that is a frame's up to a place, and from there on is cut, or differs in at most four bytes side by side, no record is read. -/
theorem one_harmed (r t u x : List UInt8) (hr : r.length ≤ 524288) (hs : ∃ y, t ++ x = frame r ++ y) (hl : u.length = t.length) (h : Nat) (hh : h ≤ t.length) (hf : h < (frame r).length) (hsame : ∀ i, i < h → t[i]? = u[i]?) (hdiff : h < t.length → t[h]? ≠ u[h]?)
    (a c0 : Nat) (hwin : ∀ i, c0 + i < a ∨ a + 4 ≤ c0 + i → t[i]? = u[i]?) : one u = none := by
  obtain ⟨y, hs⟩ := hs
  have hj : 32 * (h / 32) ≤ h := by omega
  have htk : ∀ k, k ≤ t.length → k ≤ (frame r).length → t.take k = (frame r).take k := by
    intro k h1 h2
    have := congrArg (List.take k) hs
    rwa [List.take_append_of_le_length h1, List.take_append_of_le_length h2] at this
  have hu : u.take (32 * (h / 32)) = (frame r).take (32 * (h / 32)) := by
    rw [← htk _ (by omega) (by omega)]
    apply List.ext_getElem?
    intro i
    rw [List.getElem?_take, List.getElem?_take]
    split
    · exact (hsame i (by omega)).symm
    · rfl
  have ha := one_along (h / 32) r 0 [] u (by unfold frame at hf; omega) hu (by omega) (by omega) (by simpa using hr)
  unfold one
  rw [ha]
  by_cases h32 : (u.drop (32 * (h / 32))).length < 32
  · exact one_end (.inl h32)
  · rw [List.length_drop] at h32
    have hlt : h < t.length := by omega
    have hfl := frame_length r
    have hcell : (t.drop (32 * (h / 32))).take 32 = ((frame r).drop (32 * (h / 32))).take 32 := by
      have h1 := htk (32 * (h / 32) + 32) (by omega) (by omega)
      have h2 := congrArg (List.drop (32 * (h / 32))) h1
      rwa [List.drop_take, List.drop_take, Nat.add_sub_cancel_left] at h2
    have hre : reads ((t.drop (32 * (h / 32))).take 32) = true := by
      rw [hcell]
      exact cell_reads (h / 32) r 0 (by unfold frame at hf; omega) (by omega) (.inl rfl)
    refine one_bad (fun hb => ?_)
    have hcrc : crc ((t.drop (32 * (h / 32))).take 32) = crc ((u.drop (32 * (h / 32))).take 32) := by rw [crc_cell hre, crc_cell hb.1]
    have he := window_eq _ _ (by simp [hl]) (a - (c0 + 32 * (h / 32))) ((a + 4) - (c0 + 32 * (h / 32)) - (a - (c0 + 32 * (h / 32)))) (by omega) (by
      intro i hi
      rw [List.getElem?_take, List.getElem?_take]
      split
      · rw [List.getElem?_drop, List.getElem?_drop]
        exact hwin _ (by omega)
      · rfl) hcrc
    have hd := hdiff hlt
    have hg := congrArg (fun q : List UInt8 => q[h - 32 * (h / 32)]?) he
    simp only [List.getElem?_take, List.getElem?_drop] at hg
    rw [if_pos (by omega), if_pos (by omega), show 32 * (h / 32) + (h - 32 * (h / 32)) = h by omega] at hg
    exact hd hg
/-- The records that are whole in frames that are cut and turned: those that lie ahead of the harm. -/
theorem tail_whole (l : List (List UInt8)) (hok : ∀ r ∈ l, r.length ≤ 524288) (t u x : List UInt8) (hs : frames l = t ++ x) (hl : u.length = t.length) (p : Nat) (hwin : ∀ i, i < p ∨ p + 4 ≤ i → t[i]? = u[i]?) (n : Nat) (hn : n ≤ l.length)
    (hw : (frames (l.take n)).length ≤ diff t u) (hend : ∀ h : n < l.length, diff t u < (frames (l.take n)).length + (frame l[n]).length) : Whole u (l.take n) (frames (l.take n)).length := by
  have hd := diff_le t u
  have hsplit : frames l = frames (l.take n) ++ frames (l.drop n) := by rw [← frames_append, List.take_append_drop]
  have htW : t.take (frames (l.take n)).length = frames (l.take n) := by
    have h1 := congrArg (List.take (frames (l.take n)).length) hs
    rw [List.take_append_of_le_length (by omega), hsplit, List.take_left] at h1
    exact h1.symm
  refine ⟨by omega, ?_, ?_, fun r hr => hok r (List.mem_of_mem_take hr)⟩
  · rw [← htW, List.length_take, Nat.min_eq_left (by omega)]
    apply List.ext_getElem?
    intro i
    rw [List.getElem?_take, List.getElem?_take]
    split
    · exact diff_same t u i (by omega)
    · rfl
  · by_cases hnl : n < l.length
    · have he := hend hnl
      refine one_harmed l[n] (t.drop (frames (l.take n)).length) (u.drop (frames (l.take n)).length) x (hok _ (List.getElem_mem _)) ⟨frames (l.drop (n + 1)), ?_⟩ (by simp [hl]) (diff t u - (frames (l.take n)).length) (by simp; omega) (by omega) ?_ ?_ p (frames (l.take n)).length ?_
      · have h1 := congrArg (List.drop (frames (l.take n)).length) hs
        rw [List.drop_append_of_le_length (by omega), hsplit, List.drop_left, List.drop_eq_getElem_cons hnl, frames_cons] at h1
        exact h1.symm
      · intro i hi
        rw [List.getElem?_drop, List.getElem?_drop]
        exact diff_same t u _ (by omega)
      · intro hlt
        rw [List.length_drop] at hlt
        rw [List.getElem?_drop, List.getElem?_drop, show (frames (l.take n)).length + (diff t u - (frames (l.take n)).length) = diff t u by omega]
        exact diff_not t u hl.symm (by omega)
      · intro i hi
        rw [List.getElem?_drop, List.getElem?_drop]
        exact hwin _ hi
    · have : (frames (l.take n)).length = t.length + x.length := by
        rw [List.take_of_length_le (by omega), hs, List.length_append]
      rw [List.drop_of_length_le (by omega)]
      exact one_nil
end Go.Proofs.YtmfabbncoekjhaaDoor.P
