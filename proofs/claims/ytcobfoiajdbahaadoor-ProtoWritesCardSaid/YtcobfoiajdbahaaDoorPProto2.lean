/- Plain law of layer 26: requests are read as they were written, and as nothing else; the document's reading, by taking. -/
import Derived.Test.YtcobfoiajdbahaaDoorPProto
namespace Go.Proofs.YtcobfoiajdbahaaDoor.P
set_option linter.unusedVariables false
set_option linter.unusedSimpArgs false

theorem qN_bad (s : List UInt8) : (qN (s, true)).2 = (s, true) := by simp [qN]
theorem qP_bad (n : Nat) (s : List UInt8) : qP n (s, true) = ([], (s, true)) := by simp [qP]
theorem qN_le (q : Qs) : (qN q).2.1.length ≤ q.1.length := by unfold qN; split <;> simp
theorem qP_le (n : Nat) (q : Qs) : (qP n q).2.1.length ≤ q.1.length := by unfold qP; split <;> simp
theorem qB_le (lo hi : Nat) (q : Qs) : (qB lo hi q).2.1.length ≤ q.1.length := by unfold qB; split <;> (try split) <;> simp
theorem qO_le (q : Qs) : (qO q).2.1.length ≤ q.1.length := by unfold qO; split <;> simp
theorem qA_le (q : Qs) : (qA q).2.1.length ≤ q.1.length := Nat.le_trans (qP_le _ _) (qB_le _ _ _)
theorem qX_le (q : Qs) : (qX q).2.1.length ≤ q.1.length := Nat.le_trans (qB_le _ _ _) (qA_le q)
theorem qH_le (q : Qs) : (qH q).2.1.length ≤ q.1.length := Nat.le_trans (qP_le _ _) (Nat.le_trans (qB_le _ _ _) (qB_le _ _ _))
theorem fromB_ty (fam : Nat) (s : List UInt8) : tyA (fromB fam s).1 := by
  cases h : (fromB fam s).2 with
  | true => exact (fromB_is h).2.2.1
  | false =>
    have : (fromB fam s).1 = noA := by
      unfold fromB at *
      split at h
      · cases h
      split at h
      · cases h
      · rename_i h1 h2
        rw [if_neg h1, if_neg h2]
    rw [this]
    exact ⟨by decide, by decide, by decide⟩
theorem qA_ty (q : Qs) : tyA (qA q).1 := fromB_ty _ _
theorem qB_lt (lo hi : Nat) (q : Qs) : (qB lo hi q).1 < 256 := by
  unfold qB
  split
  · split
    · exact at_lt _ _
    · exact Nat.zero_lt_succ _
  · exact Nat.zero_lt_succ _
theorem qX_ty (q : Qs) : tyX (qX q).1 := ⟨qA_ty q, by have := qB_lt 0 255 (qA q).2; show _ ≤ ((qB 0 255 (qA q).2).1 : Int); omega, by have := qB_lt 0 255 (qA q).2; show ((qB 0 255 (qA q).2).1 : Int) ≤ _; omega⟩
theorem rNum_lt (s : List UInt8) : rNum s < 18446744073709551616 := by
  cases h : rOk s with
  | true => exact (row_read s h).2.2.2
  | false => unfold rNum; rw [h]; simp
theorem qN_ty (q : Qs) : (qN q).1 < 18446744073709551616 := rNum_lt q.1
theorem bigNum_lt (s : List UInt8) : bigNum s 8 < 18446744073709551616 := by
  unfold bigNum
  split
  · exact val_lt8 _ (by rw [List.length_take]; show min 8 _ ≤ 8; omega)
  · decide
/-- A lease is read. -/
def qL (q : Qs) : (List UInt8 × Nat) × Qs := (((qO q).1, (qN (qO q).2).1), (qN (qO q).2).2)
theorem qL_le (q : Qs) : (qL q).2.1.length ≤ q.1.length := Nat.le_trans (qN_le _) (qO_le q)
theorem uses_not (op : Nat) (h : 16 ≤ op) (i : Nat) : use op i = false := by
  unfold use uses
  rw [show usesL.getD op 0 = 0 by rw [List.getD_eq_getElem?_getD, List.getElem?_eq_none (by simpa [usesL] using h)]; rfl]
  simp
/-- A field of a call, put into another. -/
def setF (c d : Ca) : Nat → Ca
  | 0 => { c with p := d.p }
  | 1 => { c with a := d.a }
  | 2 => { c with owner := d.owner }
  | 3 => { c with to := d.to }
  | 4 => { c with d := d.d }
  | 5 => { c with fr := d.fr }
  | 6 => { c with n := d.n }
  | _ => c
/-- One field is read as it was written. -/
theorem qF_app (c d : Ca) (x : List UInt8) (i : Nat) (hi : i < 7) (h : fOk d i = true) (ht : tyC d) : qF c (fB d i ++ x, false) i = (setF c d i, (x, false)) := by
  obtain ⟨t1, t2, t3, t4, t5, t6, t7, t8, t9⟩ := ht
  match i, hi with
  | 0, _ => unfold qF fB setF; simp only; rw [qX_app d.p x h t4]
  | 1, _ => unfold qF fB setF; simp only; rw [qA_app d.a x h t5]
  | 2, _ => unfold qF fB setF; simp only; rw [qO_app d.owner x h]
  | 3, _ => unfold qF fB setF; simp only; rw [qO_app d.to x h]
  | 4, _ => unfold qF fB setF; simp only; rw [qN_row d.d t6 x]
  | 5, _ => unfold qF fB setF; simp only; rw [qN_row d.fr t7 x]
  | 6, _ =>
    have hn : 1 ≤ d.n ∧ d.n ≤ 16 := by simpa [fOk] using h
    obtain ⟨m, hm⟩ : ∃ m : Nat, d.n = (m : Int) := ⟨d.n.toNat, by omega⟩
    have e : qB 1 16 (byI d.n :: x, false) = (m, (x, false)) := by rw [hm, byI_nat m (by omega)]; exact qB_app 1 16 m (by omega) (by omega) (by omega) x
    unfold qF fB setF
    simp only [List.cons_append, List.nil_append]
    rw [e, hm]
/-- What is read as one field is what was written; the rest of the call stays. -/
theorem qF_is {c : Ca} {q : Qs} {i : Nat} (hi : i < 7) (h : (qF c q i).2.2 = false) : q.2 = false ∧ q.1 = fB (qF c q i).1 i ++ (qF c q i).2.1 ∧ qF c q i = (setF c (qF c q i).1 i, (qF c q i).2) := by
  match i, hi, h with
  | 0, _, h => obtain ⟨h1, h2, _⟩ := qX_is h; exact ⟨h1, h2, rfl⟩
  | 1, _, h => obtain ⟨h1, h2, _⟩ := qA_is h; exact ⟨h1, h2, rfl⟩
  | 2, _, h => obtain ⟨h1, h2, _⟩ := qO_is h; exact ⟨h1, h2, rfl⟩
  | 3, _, h => obtain ⟨h1, h2, _⟩ := qO_is h; exact ⟨h1, h2, rfl⟩
  | 4, _, h => obtain ⟨h1, h2, _⟩ := qN_is h; exact ⟨h1, h2, rfl⟩
  | 5, _, h => obtain ⟨h1, h2, _⟩ := qN_is h; exact ⟨h1, h2, rfl⟩
  | 6, _, h => obtain ⟨h1, h2, _, _, h5⟩ := qB_is h; exact ⟨h1, by show q.1 = [byI ((qB 1 16 q).1 : Int)] ++ (qB 1 16 q).2.1; rw [byI_nat _ h5]; exact h2, rfl⟩
theorem qF_op (c : Ca) (q : Qs) (i : Nat) : (qF c q i).1.op = c.op ∧ (qF c q i).1.client = c.client ∧ (qF c q i).1.number = c.number := by
  match i with
  | 0 => exact ⟨rfl, rfl, rfl⟩
  | 1 => exact ⟨rfl, rfl, rfl⟩
  | 2 => exact ⟨rfl, rfl, rfl⟩
  | 3 => exact ⟨rfl, rfl, rfl⟩
  | 4 => exact ⟨rfl, rfl, rfl⟩
  | 5 => exact ⟨rfl, rfl, rfl⟩
  | 6 => exact ⟨rfl, rfl, rfl⟩
  | n + 7 => exact ⟨rfl, rfl, rfl⟩
/-- The fields from the i-th on, k of them, one behind the other. -/
def qGo (op : Nat) : Ca × Qs → Nat → Nat → Ca × Qs
  | r, _, 0 => r
  | r, i, k + 1 => qGo op (qStep op r i) (i + 1) k
theorem qGo_snoc (op : Nat) : ∀ (k i : Nat) (r : Ca × Qs), qGo op r i (k + 1) = qStep op (qGo op r i k) (i + k)
  | 0, i, r => rfl
  | k + 1, i, r => by
    have h := qGo_snoc op k (i + 1) (qStep op r i)
    rw [show i + 1 + k = i + (k + 1) by omega] at h
    exact h
theorem qFs_go (op : Nat) (r : Ca × Qs) : ∀ k, qFs op r k = qGo op r 0 k
  | 0 => rfl
  | k + 1 => by rw [qFs_succ, qGo_snoc, qFs_go op r k, Nat.zero_add]
def setFs (op : Nat) (c d : Ca) : Nat → Nat → Ca
  | _, 0 => c
  | i, k + 1 => setFs op (if use op i then setF c d i else c) d (i + 1) k
theorem qGo_app (d : Ca) (ht : tyC d) : ∀ (k i : Nat) (c : Ca) (x : List UInt8), i + k ≤ 7 → (∀ j, i ≤ j → j < i + k → use d.op j = true → fOk d j = true) → qGo d.op (c, (fsB d i k ++ x, false)) i k = (setFs d.op c d i k, (x, false))
  | 0, i, c, x, _, _ => by simp [qGo, fsB, setFs]
  | k + 1, i, c, x, hk, hf => by
    show qGo d.op (qStep d.op (c, (((if use d.op i then fB d i else []) ++ fsB d (i + 1) k) ++ x, false)) i) (i + 1) k = (setFs d.op (if use d.op i then setF c d i else c) d (i + 1) k, (x, false))
    unfold qStep
    cases hu : use d.op i with
    | true =>
      simp only [if_true, List.append_assoc]
      rw [qF_app c d (fsB d (i + 1) k ++ x) i (by omega) (hf i (Nat.le_refl _) (by omega) hu) ht]
      exact qGo_app d ht k (i + 1) _ x (by omega) (fun j h1 h2 h3 => hf j (by omega) (by omega) h3)
    | false =>
      simp only [Bool.false_eq_true, if_false, List.nil_append]
      exact qGo_app d ht k (i + 1) _ x (by omega) (fun j h1 h2 h3 => hf j (by omega) (by omega) h3)
theorem qStep_bad {op : Nat} {r : Ca × Qs} {i : Nat} (hi : i < 7) (h : (qStep op r i).2.2 = false) : r.2.2 = false := by
  unfold qStep at h
  split at h
  · exact (qF_is hi h).1
  · exact h
theorem qGo_bad {op : Nat} : ∀ (k i : Nat) (r : Ca × Qs), i + k ≤ 7 → (qGo op r i k).2.2 = false → r.2.2 = false
  | 0, _, _, _, h => h
  | k + 1, i, r, hk, h => qStep_bad (by omega) (qGo_bad k (i + 1) (qStep op r i) (by omega) h)
/-- Fields that are read later stay out of the earlier ones. -/
theorem fB_setF (c d : Ca) (i j : Nat) (h : j < i) (hi : i < 7) : fB (setF c d i) j = fB c j := by
  match i, hi, j, h with
  | 1, _, 0, _ => rfl
  | 2, _, 0, _ => rfl
  | 2, _, 1, _ => rfl
  | 3, _, 0, _ => rfl
  | 3, _, 1, _ => rfl
  | 3, _, 2, _ => rfl
  | 4, _, 0, _ => rfl
  | 4, _, 1, _ => rfl
  | 4, _, 2, _ => rfl
  | 4, _, 3, _ => rfl
  | 5, _, 0, _ => rfl
  | 5, _, 1, _ => rfl
  | 5, _, 2, _ => rfl
  | 5, _, 3, _ => rfl
  | 5, _, 4, _ => rfl
  | 6, _, 0, _ => rfl
  | 6, _, 1, _ => rfl
  | 6, _, 2, _ => rfl
  | 6, _, 3, _ => rfl
  | 6, _, 4, _ => rfl
  | 6, _, 5, _ => rfl
theorem qStep_keep {op : Nat} {r : Ca × Qs} {i j : Nat} (hji : j < i) (hi : i < 7) (h : (qStep op r i).2.2 = false) : fB (qStep op r i).1 j = fB r.1 j := by
  unfold qStep at *
  split at h
  · rename_i hu
    rw [if_pos hu]
    rw [(qF_is hi h).2.2]
    exact fB_setF _ _ _ _ hji hi
  · rename_i hu
    rw [if_neg hu]
theorem qGo_keep {op j : Nat} : ∀ (k i : Nat) (r : Ca × Qs), j < i → i + k ≤ 7 → (qGo op r i k).2.2 = false → fB (qGo op r i k).1 j = fB r.1 j
  | 0, _, _, _, _, _ => rfl
  | k + 1, i, r, hji, hk, h => by
    have h1 : (qStep op r i).2.2 = false := qGo_bad k (i + 1) _ (by omega) h
    show fB (qGo op (qStep op r i) (i + 1) k).1 j = _
    rw [qGo_keep k (i + 1) (qStep op r i) (by omega) (by omega) h, qStep_keep hji (by omega) h1]
theorem qGo_op {op : Nat} : ∀ (k i : Nat) (r : Ca × Qs), (qGo op r i k).1.op = r.1.op ∧ (qGo op r i k).1.client = r.1.client ∧ (qGo op r i k).1.number = r.1.number
  | 0, _, _ => ⟨rfl, rfl, rfl⟩
  | k + 1, i, r => by
    have h := qGo_op (op := op) k (i + 1) (qStep op r i)
    have h2 : (qStep op r i).1.op = r.1.op ∧ (qStep op r i).1.client = r.1.client ∧ (qStep op r i).1.number = r.1.number := by
      unfold qStep
      split
      · exact qF_op _ _ _
      · exact ⟨rfl, rfl, rfl⟩
    exact ⟨h.1.trans h2.1, h.2.1.trans h2.2.1, h.2.2.trans h2.2.2⟩
theorem qGo_is : ∀ (k i : Nat) (r : Ca × Qs), i + k ≤ 7 → (qGo r.1.op r i k).2.2 = false → r.2.2 = false ∧ r.2.1 = fsB (qGo r.1.op r i k).1 i k ++ (qGo r.1.op r i k).2.1
  | 0, i, r, _, h => ⟨h, by simp [fsB, qGo]⟩
  | k + 1, i, r, hk, h => by
    have ho : (qStep r.1.op r i).1.op = r.1.op := by
      unfold qStep
      split
      · exact (qF_op _ _ _).1
      · rfl
    have h' : (qGo (qStep r.1.op r i).1.op (qStep r.1.op r i) (i + 1) k).2.2 = false := by rw [ho]; exact h
    obtain ⟨h1, h2⟩ := qGo_is k (i + 1) (qStep r.1.op r i) (by omega) h'
    rw [ho] at h2
    have hkeep := qGo_keep (op := r.1.op) (j := i) k (i + 1) (qStep r.1.op r i) (by omega) (by omega) h
    have hop : (qGo r.1.op (qStep r.1.op r i) (i + 1) k).1.op = r.1.op := by rw [(qGo_op k (i + 1) _).1, ho]
    refine ⟨qStep_bad (by omega) h1, ?_⟩
    show r.2.1 = ((if use (qGo r.1.op (qStep r.1.op r i) (i + 1) k).1.op i then fB (qGo r.1.op (qStep r.1.op r i) (i + 1) k).1 i else []) ++ fsB (qGo r.1.op (qStep r.1.op r i) (i + 1) k).1 (i + 1) k) ++ (qGo r.1.op (qStep r.1.op r i) (i + 1) k).2.1
    rw [hop, hkeep]
    unfold qStep at h1 h2 ⊢
    by_cases hu : use r.1.op i = true
    · rw [if_pos hu] at h1 h2 ⊢
      rw [if_pos hu]
      rw [List.append_assoc]
      have hh := (qF_is (by omega) h1).2.1
      rw [hh]
      congr 1
    · rw [if_neg hu] at h1 h2 ⊢
      rw [if_neg hu, List.nil_append]
      exact h2
/-- The types keep through. -/
theorem knownB_iff {op : Nat} : knownB op = true ↔ 1 ≤ op ∧ op ≤ 15 := by simp [knownB]
theorem right_all {c : Ca} (h : rightC c = true) : (1 ≤ c.op ∧ c.op ≤ 15) ∧ (∀ i, i < 7 → fRight c i = true) := by
  unfold rightC at h
  simp only [Bool.and_eq_true, List.all_eq_true, List.mem_range] at h
  exact ⟨knownB_iff.1 h.1, h.2.1⟩
/-- A right call is made up of what it uses alone. -/
theorem setFs_right {d : Ca} (h : rightC d = true) : setFs d.op (headC (d.op, d.client, d.number)) d 0 7 = d := by
  obtain ⟨_, hf⟩ := right_all h
  obtain ⟨op, client, number, p, a, owner, to, dd, fr, n⟩ := d
  have g : ∀ i, i < 7 → use op i = false → fZero ⟨op, client, number, p, a, owner, to, dd, fr, n⟩ i = true := fun i hi hu => by
    have := hf i hi
    unfold fRight at this
    simp only at this
    rw [hu] at this
    simpa using this
  have g0 := g 0 (by omega)
  have g1 := g 1 (by omega)
  have g2 := g 2 (by omega)
  have g3 := g 3 (by omega)
  have g4 := g 4 (by omega)
  have g5 := g 5 (by omega)
  have g6 := g 6 (by omega)
  simp only [fZero, decide_eq_true_eq] at g0 g1 g2 g3 g4 g5 g6
  have k0 : (if use op 0 = true then p else noX) = p := by cases hu : use op 0 <;> simp; exact (g0 hu).symm
  have k1 : (if use op 1 = true then a else noA) = a := by cases hu : use op 1 <;> simp; exact (g1 hu).symm
  have k2 : (if use op 2 = true then owner else []) = owner := by cases hu : use op 2 <;> simp; exact (g2 hu)
  have k3 : (if use op 3 = true then to else []) = to := by cases hu : use op 3 <;> simp; exact (g3 hu)
  have k4 : (if use op 4 = true then dd else 0) = dd := by cases hu : use op 4 <;> simp; exact (g4 hu).symm
  have k5 : (if use op 5 = true then fr else 0) = fr := by cases hu : use op 5 <;> simp; exact (g5 hu).symm
  have k6 : (if use op 6 = true then n else 0) = n := by cases hu : use op 6 <;> simp; exact (g6 hu).symm
  have key : setFs op (headC (op, client, number)) ⟨op, client, number, p, a, owner, to, dd, fr, n⟩ 0 7 = ⟨op, client, number, if use op 0 = true then p else noX, if use op 1 = true then a else noA, if use op 2 = true then owner else [], if use op 3 = true then to else [], if use op 4 = true then dd else 0, if use op 5 = true then fr else 0, if use op 6 = true then n else 0⟩ := by
    simp only [setFs, headC]
    cases use op 0 <;> cases use op 1 <;> cases use op 2 <;> cases use op 3 <;> cases use op 4 <;> cases use op 5 <;> cases use op 6 <;> rfl
  show setFs op _ _ 0 7 = _
  rw [key, k0, k1, k2, k3, k4, k5, k6]
theorem readQ_app {d : Ca} (h : rightC d = true) (ht : tyC d) (x : List UInt8) : (qH (bytesC d ++ x, false)) = ((d.op, d.client, d.number), (fsB d 0 7 ++ x, false)) ∧ readQ (bytesC d ++ x) = (d, (x, false)) := by
  obtain ⟨hk, hf⟩ := right_all h
  have e1 : qH (bytesC d ++ x, false) = ((d.op, d.client, d.number), (fsB d 0 7 ++ x, false)) := by
    have := qH_app d.op d.client d.number ht.1 ht.2.1 ht.2.2.1 (fsB d 0 7 ++ x)
    rw [← List.append_assoc] at this
    exact this
  refine ⟨e1, ?_⟩
  unfold readQ
  rw [e1, qFs_go]
  have := qGo_app d ht 7 0 (headC (d.op, d.client, d.number)) x (by omega) (fun j _ hj hu => by
    have := hf j (by omega)
    unfold fRight at this
    rw [if_pos hu] at this
    exact this)
  simp only
  rw [this, setFs_right h]
/-- A request is read as it was written, with nothing behind it. -/
theorem read_app {d : Ca} (h : rightC d = true) (ht : tyC d) (x : List UInt8) : readOk (bytesC d ++ x) = decide (x = []) ∧ (x = [] → readC (bytesC d ++ x) = d) := by
  obtain ⟨e1, e2⟩ := readQ_app h ht x
  have hk : knownB d.op = true := knownB_iff.2 (right_all h).1
  have ho : readOk (bytesC d ++ x) = decide (x = []) := by
    unfold readOk
    rw [e1, e2]
    simp only [hk, h, Bool.and_true]
    simp
  refine ⟨ho, fun hx => ?_⟩
  unfold readC
  rw [ho, if_pos (by simpa using hx), e2]
theorem read_right {d : Ca} (h : rightC d = true) (ht : tyC d) : readOk (bytesC d) = true ∧ readC (bytesC d) = d := by
  obtain ⟨h1, h2⟩ := read_app h ht []
  rw [List.append_nil] at h1 h2
  exact ⟨by rw [h1]; rfl, h2 rfl⟩
/-- What is read is right, and has just these bytes. -/
theorem read_is {s : List UInt8} (h : readOk s = true) : rightC (readC s) = true ∧ bytesC (readC s) = s := by
  have hc : readC s = (readQ s).1 := by unfold readC; rw [if_pos h]
  rw [hc]
  unfold readOk at h
  simp only [Bool.and_eq_true, Bool.not_eq_true', decide_eq_true_eq] at h
  obtain ⟨⟨h1, h2⟩, h3, h4, h5⟩ := h
  refine ⟨h5, ?_⟩
  obtain ⟨-, b2, b3, b4, b5⟩ := qH_is h1
  unfold readQ at h3 h4 ⊢
  rw [qFs_go] at h3 h4 ⊢
  obtain ⟨-, g2⟩ := qGo_is 7 0 (headC (qH (s, false)).1, (qH (s, false)).2) (by omega) h3
  obtain ⟨o1, o2, o3⟩ := qGo_op (op := (qH (s, false)).1.1) 7 0 (headC (qH (s, false)).1, (qH (s, false)).2)
  have h4' : (qGo (headC (qH (s, false)).1, (qH (s, false)).2).1.op (headC (qH (s, false)).1, (qH (s, false)).2) 0 7).2.1 = [] := h4
  rw [h4', List.append_nil] at g2
  unfold bytesC
  rw [o1, o2, o3]
  have g2' : (qH (s, false)).2.1 = fsB (qGo (qH (s, false)).1.1 (headC (qH (s, false)).1, (qH (s, false)).2) 0 7).1 0 7 := g2
  rw [← g2']
  exact b2.symm
theorem readC_no {s : List UInt8} (h : readOk s = false) : readC s = noC := by unfold readC; rw [h]; rfl

/-! ### The document's reading: by taking -/
def tkA (s : List UInt8) : Ad × List UInt8 :=
  let size := if 0 < s.length ∧ at_ s 0 = 6 then 17 else 5
  if s.length < size then (noA, s) else
  let r := fromB (at_ s 0) ((s.drop 1).take (size - 1))
  if r.2 then (r.1, s.drop size) else (noA, s)
def tkC (s : List UInt8) : Nat × List UInt8 := if s.length = 0 then (0, s) else (at_ s 0, s.drop 1)
def tkX (s : List UInt8) : Px × List UInt8 := (⟨(tkA s).1, ((tkC (tkA s).2).1 : Int)⟩, (tkC (tkA s).2).2)
def tkT (s : List UInt8) : List UInt8 × List UInt8 := (tText s 32, s.drop (tSize s 32))
def tkN (s : List UInt8) : Nat × List UInt8 := (rNum s, s.drop (rSize s))
def tkF (c : Ca) (s : List UInt8) : Nat → Ca × List UInt8
  | 0 => ({ c with p := (tkX s).1 }, (tkX s).2)
  | 1 => ({ c with a := (tkA s).1 }, (tkA s).2)
  | 2 => ({ c with owner := (tkT s).1 }, (tkT s).2)
  | 3 => ({ c with to := (tkT s).1 }, (tkT s).2)
  | 4 => ({ c with d := (tkN s).1 }, (tkN s).2)
  | 5 => ({ c with fr := (tkN s).1 }, (tkN s).2)
  | 6 => ({ c with n := ((tkC s).1 : Int) }, (tkC s).2)
  | _ => (c, s)
def tkStep (op : Nat) (r : Ca × List UInt8) (i : Nat) : Ca × List UInt8 := if use op i then tkF r.1 r.2 i else r
def tkGo (op : Nat) : Ca × List UInt8 → Nat → Nat → Ca × List UInt8
  | r, _, 0 => r
  | r, i, k + 1 => tkGo op (tkStep op r i) (i + 1) k
def tkHead (s : List UInt8) : Nat × Nat × Nat := (at_ s 0, at_ s 1, bigNum (s.drop 2) 8)
def rfQ (s : List UInt8) : Ca × List UInt8 := tkGo (tkHead s).1 (headC (tkHead s), s.drop 10) 0 7
def rfOk (s : List UInt8) : Bool := decide (10 ≤ s.length) && (decide ((rfQ s).2 = []) && (rightC (rfQ s).1 && decide (bytesC (rfQ s).1 = s)))
theorem tkA_app (a : Ad) (x : List UInt8) (h : adOk a = true) (ht : tyA a) : tkA (adX a ++ x) = (a, x) := by
  have hl := adB_len h
  have hat : at_ (adX a ++ x) 0 = a.fam := by show (byt a.fam).toNat = _; rw [byt_toNat]; have := ht.1; omega
  have hlen : (adX a ++ x).length = 1 + (adB a).length + x.length := by simp [adX]; omega
  have hd : (adX a ++ x).drop 1 = adB a ++ x := rfl
  unfold tkA
  simp only [hat, hlen, hd]
  by_cases h6 : a.fam = 6
  · rw [if_pos h6] at hl
    rw [show (if 0 < 1 + (adB a).length + x.length ∧ a.fam = 6 then 17 else 5) = 17 from if_pos ⟨by omega, h6⟩, if_neg (by omega)]
    rw [show (adB a ++ x).take (17 - 1) = adB a by rw [List.take_append_of_le_length (by omega), List.take_of_length_le (by omega)], fromB_adB h ht, if_pos rfl]
    rw [show (17 : Nat) = (adX a).length by simp [adX, hl], List.drop_left]
  · rw [if_neg h6] at hl
    rw [show (if 0 < 1 + (adB a).length + x.length ∧ a.fam = 6 then 17 else 5) = 5 from if_neg (fun h => h6 h.2), if_neg (by omega)]
    rw [show (adB a ++ x).take (5 - 1) = adB a by rw [List.take_append_of_le_length (by omega), List.take_of_length_le (by omega)], fromB_adB h ht, if_pos rfl]
    rw [show (5 : Nat) = (adX a).length by simp [adX, hl], List.drop_left]
theorem tkC_app (n : Nat) (h : n < 256) (x : List UInt8) : tkC (byt n :: x) = (n, x) := by
  unfold tkC
  rw [if_neg (by simp)]
  show ((byt n).toNat, x) = _
  rw [byt_toNat, Nat.mod_eq_of_lt h]
theorem tkX_app (p : Px) (x : List UInt8) (h : pxOk p = true) (ht : tyX p) : tkX (pxX p ++ x) = (p, x) := by
  have ho := h
  unfold pxOk at ho
  simp only [Bool.and_eq_true, decide_eq_true_eq] at ho
  obtain ⟨ha, ⟨hb0, hb1⟩, _⟩ := ho
  have hb2 : p.bits ≤ 128 := by unfold wid at hb1; split at hb1 <;> omega
  obtain ⟨b, hb⟩ : ∃ b : Nat, p.bits = (b : Int) := ⟨p.bits.toNat, by omega⟩
  have e1 := tkA_app p.a (byI p.bits :: x) ha ht.1
  have e2 : tkC (byI p.bits :: x) = (b, x) := by rw [hb, byI_nat b (by omega)]; exact tkC_app b (by omega) x
  unfold tkX
  rw [show pxX p ++ x = adX p.a ++ byI p.bits :: x by simp [pxX], e1]
  simp only [e2]
  rw [← hb]
theorem tkT_app (s x : List UInt8) (h : nameOk s = true) : tkT (txB s ++ x) = (s, x) := by
  unfold nameOk at h
  simp only [decide_eq_true_eq] at h
  obtain ⟨h1, h2, h3⟩ := tx_read s x h.2
  unfold tkT
  rw [h2, h3, List.drop_left]
theorem tkN_app (n : Nat) (h : n < 18446744073709551616) (x : List UInt8) : tkN (row n ++ x) = (n, x) := by
  obtain ⟨h1, h2, h3⟩ := read_row n h x
  unfold tkN
  rw [h2, h3, List.drop_left]
theorem tkF_app (c d : Ca) (x : List UInt8) (i : Nat) (hi : i < 7) (h : fOk d i = true) (ht : tyC d) : tkF c (fB d i ++ x) i = (setF c d i, x) := by
  obtain ⟨t1, t2, t3, t4, t5, t6, t7, t8, t9⟩ := ht
  match i, hi with
  | 0, _ => unfold tkF fB setF; simp only; rw [tkX_app d.p x h t4]
  | 1, _ => unfold tkF fB setF; simp only; rw [tkA_app d.a x h t5]
  | 2, _ => unfold tkF fB setF; simp only; rw [tkT_app d.owner x h]
  | 3, _ => unfold tkF fB setF; simp only; rw [tkT_app d.to x h]
  | 4, _ => unfold tkF fB setF; simp only; rw [tkN_app d.d t6 x]
  | 5, _ => unfold tkF fB setF; simp only; rw [tkN_app d.fr t7 x]
  | 6, _ =>
    have hn : 1 ≤ d.n ∧ d.n ≤ 16 := by simpa [fOk] using h
    obtain ⟨m, hm⟩ : ∃ m : Nat, d.n = (m : Int) := ⟨d.n.toNat, by omega⟩
    have e : tkC (byI d.n :: x) = (m, x) := by rw [hm, byI_nat m (by omega)]; exact tkC_app m (by omega) x
    unfold tkF fB setF
    simp only [List.cons_append, List.nil_append]
    rw [e, hm]
theorem tkGo_app (d : Ca) (ht : tyC d) : ∀ (k i : Nat) (c : Ca) (x : List UInt8), i + k ≤ 7 → (∀ j, i ≤ j → j < i + k → use d.op j = true → fOk d j = true) → tkGo d.op (c, fsB d i k ++ x) i k = (setFs d.op c d i k, x)
  | 0, i, c, x, _, _ => by simp [tkGo, fsB, setFs]
  | k + 1, i, c, x, hk, hf => by
    show tkGo d.op (tkStep d.op (c, ((if use d.op i then fB d i else []) ++ fsB d (i + 1) k) ++ x) i) (i + 1) k = (setFs d.op (if use d.op i then setF c d i else c) d (i + 1) k, x)
    unfold tkStep
    cases hu : use d.op i with
    | true =>
      simp only [if_true, List.append_assoc]
      rw [tkF_app c d (fsB d (i + 1) k ++ x) i (by omega) (hf i (Nat.le_refl _) (by omega) hu) ht]
      exact tkGo_app d ht k (i + 1) _ x (by omega) (fun j h1 h2 h3 => hf j (by omega) (by omega) h3)
    | false =>
      simp only [Bool.false_eq_true, if_false, List.nil_append]
      exact tkGo_app d ht k (i + 1) _ x (by omega) (fun j h1 h2 h3 => hf j (by omega) (by omega) h3)
theorem rf_right {d : Ca} (h : rightC d = true) (ht : tyC d) : rfOk (bytesC d) = true ∧ (rfQ (bytesC d)).1 = d := by
  obtain ⟨hk, hf⟩ := right_all h
  have hlen : (bytesC d).length = 10 + (fsB d 0 7).length := by simp [bytesC, headB, be_length]; omega
  have hd2 : (bytesC d).drop 2 = be 8 d.number ++ fsB d 0 7 := rfl
  have hd10 : (bytesC d).drop 10 = fsB d 0 7 := by
    show (headB d.op d.client d.number ++ fsB d 0 7).drop 10 = _
    rw [show 10 = (headB d.op d.client d.number).length by simp [headB, be_length], List.drop_left]
  have hh : tkHead (bytesC d) = (d.op, d.client, d.number) := by
    unfold tkHead
    rw [hd2, show at_ (bytesC d) 0 = d.op by show (byt d.op).toNat = _; rw [byt_toNat]; have := ht.1; omega, show at_ (bytesC d) 1 = d.client by show (byt d.client).toNat = _; rw [byt_toNat]; have := ht.2.1; omega]
    have : bigNum (be 8 d.number ++ fsB d 0 7) 8 = d.number := by
      unfold bigNum bigOk
      rw [if_pos (by simp [be_length]; omega), show (8 : Int).toNat = 8 from rfl, List.take_append_of_le_length (by simp [be_length]), List.take_of_length_le (by simp [be_length]), val_be, Nat.mod_eq_of_lt (by have := ht.2.2.1; omega)]
    rw [this]
  have hq : rfQ (bytesC d) = (d, []) := by
    unfold rfQ
    rw [hh, hd10]
    have := tkGo_app d ht 7 0 (headC (d.op, d.client, d.number)) [] (by omega) (fun j _ hj hu => by
      have := hf j (by omega)
      unfold fRight at this
      rw [if_pos hu] at this
      exact this)
    rw [List.append_nil] at this
    simp only
    rw [this, setFs_right h]
  refine ⟨?_, by rw [hq]⟩
  unfold rfOk
  rw [hq]
  simp [h, hlen]
/-- The document's reading is the program's. -/
theorem rf_is_read (s : List UInt8) (hty : tyC (rfQ s).1) (hty2 : tyC (readQ s).1) : rfOk s = readOk s ∧ (readOk s = true → (rfQ s).1 = (readQ s).1) := by
  cases hr : readOk s with
  | true =>
    obtain ⟨h1, h2⟩ := read_is hr
    have hc : readC s = (readQ s).1 := by unfold readC; rw [if_pos hr]
    rw [hc] at h1 h2
    obtain ⟨h3, h4⟩ := rf_right h1 hty2
    rw [h2] at h3 h4
    exact ⟨h3, fun _ => h4⟩
  | false =>
    refine ⟨?_, fun h => by cases h⟩
    cases hf : rfOk s with
    | false => rfl
    | true =>
      unfold rfOk at hf
      simp only [Bool.and_eq_true, decide_eq_true_eq] at hf
      obtain ⟨_, _, h3, h4⟩ := hf
      have := (read_right h3 hty).1
      rw [h4, hr] at this
      cases this
end Go.Proofs.YtcobfoiajdbahaaDoor.P
