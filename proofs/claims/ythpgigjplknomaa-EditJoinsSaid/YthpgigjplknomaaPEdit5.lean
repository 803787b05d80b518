/- Plain law: an edit done to tables; edits done one behind the other, and the joined one. -/
import Derived.Test.YthpgigjplknomaaPEdit3
namespace Go.Proofs.Ythpgigjplknomaa.P

/-- A number's first place in tables. -/
def idx (l : List Tab) (n : Nat) : Option Nat := l.findIdx? (isN n)
def drop1 (l : List Tab) (n : Nat) : Option (List Tab) := (idx l n).map (fun k => l.take k ++ l.drop (k + 1))
def add1 (l : List Tab) (t : Tab) : Option (List Tab) := if (idx l t.n).isSome then none else some (l ++ [t])
def doneE (l : List Tab) (e : Ed) : Option (List Tab) := (e.drop.foldlM drop1 l).bind (fun o => e.add.foldlM add1 o)
def nums (l : List Tab) : List Nat := l.map Tab.n
def has (l : List Tab) (n : Nat) : Prop := n ∈ nums l
/-- Tables without some numbers. -/
def less (l : List Tab) (d : List Nat) : List Tab := l.filter (fun t => !hasN d t.n)
theorem hasN_iff (d : List Nat) (v : Nat) : hasN d v = true ↔ v ∈ d := by simp [hasN]
theorem hasN_no (d : List Nat) (v : Nat) : hasN d v = false ↔ v ∉ d := by
  rw [← hasN_iff]; simp
theorem any_isN (l : List Tab) (n : Nat) : l.any (isN n) = true ↔ n ∈ nums l := by
  simp only [List.any_eq_true, isN, decide_eq_true_eq, nums, List.mem_map]
theorem mem_less (l : List Tab) (d : List Nat) (t : Tab) : t ∈ less l d ↔ t ∈ l ∧ t.n ∉ d := by
  unfold less
  rw [List.mem_filter]
  simp [← hasN_iff]
theorem nums_less (l : List Tab) (d : List Nat) (n : Nat) : n ∈ nums (less l d) ↔ n ∈ nums l ∧ n ∉ d := by
  simp only [nums, List.mem_map, mem_less]
  constructor
  · rintro ⟨t, ⟨h1, h2⟩, rfl⟩; exact ⟨⟨t, h1, rfl⟩, h2⟩
  · rintro ⟨⟨t, h1, rfl⟩, h2⟩; exact ⟨t, ⟨h1, h2⟩, rfl⟩
theorem nums_app (l k : List Tab) : nums (l ++ k) = nums l ++ nums k := by simp [nums]
theorem nodup_less {l : List Tab} {d : List Nat} (h : (nums l).Nodup) : (nums (less l d)).Nodup := by
  unfold nums less at *
  exact List.Nodup.sublist (List.Sublist.map _ (List.filter_sublist)) h
theorem idx_none (l : List Tab) (n : Nat) : idx l n = none ↔ n ∉ nums l := by
  rw [← any_isN]
  unfold idx
  rw [List.findIdx?_eq_none_iff]
  simp [List.any_eq_true]
theorem cut_one : ∀ (l : List Tab) (n k : Nat), (nums l).Nodup → idx l n = some k → l.take k ++ l.drop (k + 1) = less l [n]
  | [], n, k, _, h => by simp [idx] at h
  | t :: l, n, k, hn, h => by
    unfold idx at h
    rw [List.findIdx?_cons] at h
    have hn' : (nums l).Nodup := (List.nodup_cons.1 (show (t.n :: nums l).Nodup from hn)).2
    have hnt : t.n ∉ nums l := (List.nodup_cons.1 (show (t.n :: nums l).Nodup from hn)).1
    by_cases ht : t.n = n
    · rw [if_pos (by simp [isN, ht])] at h
      obtain rfl : 0 = k := by simpa using h
      unfold less
      rw [List.filter_cons, if_neg (by simp [hasN, ht])]
      simp only [List.take_zero, List.nil_append, Nat.zero_add, List.drop_succ_cons, List.drop_zero]
      refine (List.filter_eq_self.2 fun x hx => ?_).symm
      have hxn : x.n ≠ n := fun hh => hnt (by rw [ht, ← hh]; exact List.mem_map_of_mem hx)
      simp [hasN, hxn]
    · rw [if_neg (by simp [isN, ht])] at h
      obtain ⟨k', hk', rfl⟩ := Option.map_eq_some_iff.1 h
      have ih := cut_one l n k' hn' hk'
      unfold less at ih ⊢
      rw [List.filter_cons, if_pos (by simp [hasN, ht]), List.take_succ_cons, List.drop_succ_cons, List.cons_append, ih]
theorem drop1_eq {l : List Tab} {n : Nat} (h : (nums l).Nodup) : drop1 l n = if n ∈ nums l then some (less l [n]) else none := by
  unfold drop1
  cases hi : idx l n with
  | none => rw [if_neg ((idx_none _ _).1 hi)]; rfl
  | some k =>
    have hm : n ∈ nums l := Classical.byContradiction fun hh => by rw [(idx_none l n).2 hh] at hi; cases hi
    rw [if_pos hm, Option.map_some, cut_one l n k h hi]
theorem less_less (l : List Tab) (d d' : List Nat) : less (less l d) d' = less l (d ++ d') := by
  unfold less
  rw [List.filter_filter]
  congr 1
  funext t
  simp [hasN, Bool.and_comm]
theorem less_nil (l : List Tab) : less l [] = l := by
  unfold less
  exact List.filter_eq_self.2 fun x _ => by simp [hasN]
/-- Can so many numbers be dropped? -/
theorem drops_iff : ∀ (d : List Nat) (l o : List Tab), (nums l).Nodup → (d.foldlM drop1 l = some o ↔ d.Nodup ∧ (∀ n ∈ d, n ∈ nums l) ∧ o = less l d)
  | [], l, o, h => by
    simp only [List.foldlM_nil, Option.pure_def, Option.some.injEq, List.nodup_nil, true_and, less_nil]
    constructor
    · rintro rfl; exact ⟨fun n hn => by simp at hn, rfl⟩
    · rintro ⟨_, rfl⟩; rfl
  | n :: d, l, o, h => by
    rw [List.foldlM_cons, drop1_eq h]
    by_cases hm : n ∈ nums l
    · rw [if_pos hm, Option.bind_eq_bind, Option.bind_some, drops_iff d _ _ (nodup_less h), List.nodup_cons, less_less]
      constructor
      · rintro ⟨h1, h2, rfl⟩
        refine ⟨⟨fun hh => ((nums_less _ _ _).1 (h2 n hh)).2 (by simp), h1⟩, fun x hx => ?_, rfl⟩
        rcases List.mem_cons.1 hx with rfl | hx
        · exact hm
        · exact ((nums_less _ _ _).1 (h2 x hx)).1
      · rintro ⟨⟨h0, h1⟩, h2, rfl⟩
        exact ⟨h1, fun x hx => (nums_less _ _ _).2 ⟨h2 x (List.mem_cons_of_mem _ hx), fun hh => h0 (by rw [← List.mem_singleton.1 hh]; exact hx)⟩, rfl⟩
    · rw [if_neg hm]
      constructor
      · intro hh; cases hh
      · rintro ⟨_, h2, _⟩; exact absurd (h2 n (by simp)) hm
theorem add1_eq (l : List Tab) (t : Tab) : add1 l t = if t.n ∈ nums l then none else some (l ++ [t]) := by
  unfold add1
  cases hi : idx l t.n with
  | none => rw [if_neg ((idx_none _ _).1 hi)]; rfl
  | some k =>
    have hm : t.n ∈ nums l := Classical.byContradiction fun hh => by rw [(idx_none l _).2 hh] at hi; cases hi
    rw [if_pos hm]; rfl
theorem adds_iff : ∀ (a l o : List Tab), (a.foldlM add1 l = some o ↔ (nums a).Nodup ∧ (∀ t ∈ a, t.n ∉ nums l) ∧ o = l ++ a)
  | [], l, o => by
    simp only [List.foldlM_nil, Option.pure_def, Option.some.injEq, List.append_nil]
    constructor
    · rintro rfl; exact ⟨by simp [nums], fun n hn => by simp at hn, rfl⟩
    · rintro ⟨_, _, rfl⟩; rfl
  | t :: a, l, o => by
    rw [List.foldlM_cons, add1_eq]
    by_cases hm : t.n ∈ nums l
    · rw [if_pos hm]
      constructor
      · intro hh; cases hh
      · rintro ⟨_, h2, _⟩; exact absurd hm (h2 t (by simp))
    · rw [if_neg hm, Option.bind_eq_bind, Option.bind_some, adds_iff a]
      rw [show nums (t :: a) = t.n :: nums a from rfl, List.nodup_cons, nums_app]
      constructor
      · rintro ⟨h1, h2, rfl⟩
        refine ⟨⟨fun hh => ?_, h1⟩, fun x hx => ?_, by simp⟩
        · obtain ⟨x, hx, he⟩ := List.mem_map.1 hh
          exact h2 x hx (by rw [he]; simp [nums])
        · rcases List.mem_cons.1 hx with rfl | hx
          · exact hm
          · exact fun hh => h2 x hx (List.mem_append_left _ hh)
      · rintro ⟨⟨h0, h1⟩, h2, rfl⟩
        refine ⟨h1, fun x hx hh => ?_, by simp⟩
        rcases List.mem_append.1 hh with hh | hh
        · exact h2 x (List.mem_cons_of_mem _ hx) hh
        · refine h0 ?_
          rw [show t.n = x.n from ?_]
          · exact List.mem_map_of_mem hx
          · exact (List.mem_singleton.1 (show x.n ∈ [t.n] from hh)).symm
/-- When an edit can be done, and what it comes to. -/
theorem done_iff (l : List Tab) (e : Ed) (o : List Tab) (h : (nums l).Nodup) : doneE l e = some o ↔ (e.drop.Nodup ∧ ∀ n ∈ e.drop, n ∈ nums l) ∧ ((nums e.add).Nodup ∧ ∀ t ∈ e.add, t.n ∉ nums (less l e.drop)) ∧ o = less l e.drop ++ e.add := by
  unfold doneE
  rw [Option.bind_eq_some_iff]
  constructor
  · rintro ⟨m, h1, h2⟩
    obtain ⟨a1, a2, rfl⟩ := (drops_iff _ _ _ h).1 h1
    obtain ⟨b1, b2, rfl⟩ := (adds_iff _ _ _).1 h2
    exact ⟨⟨a1, a2⟩, ⟨b1, b2⟩, rfl⟩
  · rintro ⟨⟨a1, a2⟩, ⟨b1, b2⟩, rfl⟩
    exact ⟨_, (drops_iff _ _ _ h).2 ⟨a1, a2, rfl⟩, (adds_iff _ _ _).2 ⟨b1, b2, rfl⟩⟩
theorem done_nodup {l o : List Tab} {e : Ed} (h : (nums l).Nodup) (hd : doneE l e = some o) : (nums o).Nodup := by
  obtain ⟨⟨a1, a2⟩, ⟨b1, b2⟩, rfl⟩ := (done_iff _ _ _ h).1 hd
  rw [nums_app, List.nodup_append]
  refine ⟨nodup_less h, b1, fun a ha b hb => ?_⟩
  rintro rfl
  obtain ⟨t, ht, he⟩ := List.mem_map.1 hb
  exact b2 t ht (by rw [he]; exact ha)
/-- Two edits one behind the other are the joined one. -/
theorem done_two {l m o : List Tab} {x y : Ed} (h : (nums l).Nodup) (h1 : doneE l x = some m) (h2 : doneE m y = some o) : doneE l (joinE x y) = some o := by
  have hm := done_nodup h h1
  obtain ⟨⟨a1, a2⟩, ⟨b1, b2⟩, rfl⟩ := (done_iff _ _ _ h).1 h1
  obtain ⟨⟨c1, c2⟩, ⟨d1, d2⟩, rfl⟩ := (done_iff _ _ _ hm).1 h2
  have hax : ∀ t ∈ less l x.drop, t.n ∉ nums x.add := by
    intro t ht hh
    obtain ⟨u, hu, he⟩ := List.mem_map.1 hh
    exact b2 u hu (by rw [he]; exact List.mem_map_of_mem ht)
  have hD : (joinE x y).drop = x.drop ++ y.drop.filter (fun n => !x.add.any (isN n)) := rfl
  have hA : (joinE x y).add = less x.add y.drop ++ y.add := rfl
  have hmD : ∀ n, n ∈ y.drop.filter (fun n => !x.add.any (isN n)) ↔ n ∈ y.drop ∧ n ∉ nums x.add := by
    intro n
    rw [List.mem_filter]
    simp [← any_isN]
  have hL : less l (joinE x y).drop = less (less l x.drop) y.drop := by
    rw [hD, ← less_less]
    refine List.filter_congr fun t ht => ?_
    congr 1
    rw [Bool.eq_iff_iff, hasN_iff, hasN_iff, hmD]
    exact ⟨fun hh => hh.1, fun hh => ⟨hh, hax t ht⟩⟩
  refine (done_iff _ _ _ h).2 ⟨⟨?_, ?_⟩, ⟨?_, ?_⟩, ?_⟩
  · rw [hD, List.nodup_append]
    refine ⟨a1, List.Nodup.sublist List.filter_sublist c1, fun a ha b hb => ?_⟩
    rintro rfl
    obtain ⟨p1, p2⟩ := (hmD _).1 hb
    have := c2 a p1
    rw [nums_app] at this
    rcases List.mem_append.1 this with q | q
    · exact ((nums_less _ _ _).1 q).2 ha
    · exact p2 q
  · intro n hn
    rw [hD] at hn
    rcases List.mem_append.1 hn with q | q
    · exact a2 n q
    · obtain ⟨p1, p2⟩ := (hmD _).1 q
      have := c2 n p1
      rw [nums_app] at this
      rcases List.mem_append.1 this with q | q
      · exact ((nums_less _ _ _).1 q).1
      · exact absurd q p2
  · rw [hA, nums_app, List.nodup_append]
    refine ⟨nodup_less b1, d1, fun a ha b hb => ?_⟩
    rintro rfl
    obtain ⟨t, ht, he⟩ := List.mem_map.1 hb
    refine d2 t ht ?_
    obtain ⟨p1, p2⟩ := (nums_less _ _ _).1 ha
    rw [he, nums_less, nums_app]
    exact ⟨List.mem_append_right _ p1, p2⟩
  · rw [hL, hA]
    intro t ht
    rcases List.mem_append.1 ht with q | q
    · intro hh
      exact b2 t ((mem_less _ _ _).1 q).1 ((nums_less _ _ _).1 hh).1
    · intro hh
      refine d2 t q ?_
      obtain ⟨p1, p2⟩ := (nums_less _ _ _).1 hh
      rw [nums_less, nums_app]
      exact ⟨List.mem_append_left _ p1, p2⟩
  · rw [hL, hA]
    simp [less]
theorem done_fold : ∀ (l : List Ed) (s m o : List Tab) (x : Ed), (nums s).Nodup → doneE s x = some m → l.foldlM doneE m = some o → doneE s (l.foldl joinE x) = some o
  | [], s, m, o, x, h, h1, h2 => by
    simp only [List.foldlM_nil, Option.pure_def, Option.some.injEq] at h2
    rw [← h2]; exact h1
  | y :: l, s, m, o, x, h, h1, h2 => by
    rw [List.foldlM_cons, Option.bind_eq_bind, Option.bind_eq_some_iff] at h2
    obtain ⟨m', h3, h4⟩ := h2
    rw [List.foldl_cons]
    exact done_fold l s m' o _ h (done_two h h1 h3) h4
/-- The law: the joined edit comes to the same tables. -/
theorem done_all (l : List Ed) (s o : List Tab) (h : (nums s).Nodup) (h1 : l.foldlM doneE s = some o) : doneE s (joinL l) = some o := by
  cases l with
  | nil =>
    simp only [List.foldlM_nil, Option.pure_def, Option.some.injEq] at h1
    rw [← h1]; rfl
  | cons x l =>
    rw [List.foldlM_cons, Option.bind_eq_bind, Option.bind_eq_some_iff] at h1
    obtain ⟨m, h3, h4⟩ := h1
    exact done_fold l s m o x h h3 h4
/-- Are the numbers of tables each at its first place, they are all others. -/
theorem nodup_of_idx : ∀ (l : List Tab), (∀ (i : Nat) (h : i < l.length), idx l l[i].n = some i) → (nums l).Nodup
  | [], _ => by simp [nums]
  | t :: l, h => by
    rw [show nums (t :: l) = t.n :: nums l from rfl, List.nodup_cons]
    have hne : ∀ (i : Nat) (hi : i < l.length), l[i].n ≠ t.n := by
      intro i hi he
      have := h (i + 1) (by simpa using hi)
      simp only [List.getElem_cons_succ, idx, List.findIdx?_cons] at this
      rw [if_pos (by simp [isN, he])] at this
      cases this
    refine ⟨fun hh => ?_, nodup_of_idx l fun i hi => ?_⟩
    · obtain ⟨u, hu, he⟩ := List.mem_map.1 hh
      obtain ⟨i, hi, rfl⟩ := List.getElem_of_mem hu
      exact hne i hi he
    · have := h (i + 1) (by simpa using hi)
      simp only [List.getElem_cons_succ, idx, List.findIdx?_cons] at this
      rw [if_neg (by have := hne i hi; simp [isN, Ne.symm this])] at this
      obtain ⟨k, hk, e⟩ := Option.map_eq_some_iff.1 this
      obtain rfl : k = i := by omega
      exact hk
theorem idx_of_nodup : ∀ (l : List Tab), (nums l).Nodup → ∀ (i : Nat) (h : i < l.length), idx l l[i].n = some i
  | [], _, i, h => by simp at h
  | t :: l, hn, i, hi => by
    have hn' : (nums l).Nodup := (List.nodup_cons.1 (show (t.n :: nums l).Nodup from hn)).2
    have hnt : t.n ∉ nums l := (List.nodup_cons.1 (show (t.n :: nums l).Nodup from hn)).1
    cases i with
    | zero => simp [idx, List.findIdx?_cons, isN]
    | succ i =>
      have hi' : i < l.length := by simpa using hi
      have ih := idx_of_nodup l hn' i hi'
      unfold idx at ih ⊢
      rw [List.findIdx?_cons, List.getElem_cons_succ, if_neg, ih]
      · rfl
      · simp only [isN, decide_eq_true_eq]
        exact fun hh => hnt (by rw [hh]; exact List.mem_map_of_mem (List.getElem_mem hi'))
/-- The greatest of each of the three numbers. -/
theorem joinL_tops (l : List Ed) : (joinL l).log = l.foldl (fun n e => maxN n e.log) 0 ∧ (joinL l).seq = l.foldl (fun n e => maxN n e.seq) 0 ∧ (joinL l).next = l.foldl (fun n e => maxN n e.next) 0 := by
  have key : ∀ (l : List Ed) (x : Ed), (l.foldl joinE x).log = l.foldl (fun n e => maxN n e.log) x.log ∧ (l.foldl joinE x).seq = l.foldl (fun n e => maxN n e.seq) x.seq ∧ (l.foldl joinE x).next = l.foldl (fun n e => maxN n e.next) x.next := by
    intro l
    induction l with
    | nil => intro x; exact ⟨rfl, rfl, rfl⟩
    | cons y l ih => intro x; simp only [List.foldl_cons]; exact ih (joinE x y)
  cases l with
  | nil => exact ⟨rfl, rfl, rfl⟩
  | cons x l =>
    simp only [List.foldl_cons]
    rw [show maxN 0 x.log = x.log by unfold maxN; omega, show maxN 0 x.seq = x.seq by unfold maxN; omega, show maxN 0 x.next = x.next by unfold maxN; omega]
    exact key l x
end Go.Proofs.Ythpgigjplknomaa.P
