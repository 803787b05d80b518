/- Plain law: the document's hearing of an answer, by taking, is the program's. -/
import Derived.Test.YtcobfoiajdbahaaDoorPQ
namespace Go.Proofs.YtcobfoiajdbahaaDoor.P
set_option linter.unusedVariables false
set_option linter.unusedSimpArgs false
def tkL (s : List UInt8) : (List UInt8 × Nat) × List UInt8 := (((tkT s).1, (tkN (tkT s).2).1), (tkN (tkT s).2).2)
def tkRw (s : List UInt8) : Rw × List UInt8 := (⟨(tkA s).1, (tkL (tkA s).2).1.1, (tkL (tkA s).2).1.2⟩, (tkL (tkA s).2).2)
def tkEv (s : List UInt8) : Ev × List UInt8 :=
  (⟨((tkC s).1 : Int), (tkT (tkC s).2).1, (tkN (tkT (tkC s).2).2).1, (tkN (tkN (tkT (tkC s).2).2).2).1⟩, (tkN (tkN (tkT (tkC s).2).2).2).2)
def tkList {α : Type} (f : List UInt8 → α × List UInt8) : Nat → List UInt8 → List α × List UInt8
  | 0, q => ([], q)
  | k + 1, q => ((tkList f k q).1 ++ [(f (tkList f k q).2).1], (f (tkList f k q).2).2)
def tkLk (s : List UInt8) : An × List UInt8 :=
  let n := tkC s
  let has : Bool := n.1 % 2 == 1
  let held : Bool := n.1 / 2 % 2 == 1
  let live : Bool := n.1 / 4 % 2 == 1
  let x := if has then tkX n.2 else (noX, n.2)
  let l := if live then tkL x.2 else (([], 0), x.2)
  ({ noAn with has := has, held := held, live := live, pool := x.1, owner := l.1.1, til := l.1.2 }, l.2)
def tkTold (op : Nat) (s : List UInt8) : An × List UInt8 :=
  if 5 ≤ op ∧ op ≤ 7 then ({ noAn with a := (tkA s).1, owner := (tkL (tkA s).2).1.1, til := (tkL (tkA s).2).1.2 }, (tkL (tkA s).2).2) else
  if op = 10 then tkLk s else
  if op = 11 then ({ noAn with rows := (tkList tkRw (tkC s).1 (tkC s).2).1 }, (tkList tkRw (tkC s).1 (tkC s).2).2) else
  if op = 12 then ({ noAn with events := (tkList tkEv (tkC s).1 (tkC s).2).1 }, (tkList tkEv (tkC s).1 (tkC s).2).2) else
  if op = 13 ∨ op = 14 then ({ noAn with pools := (tkList tkX (tkC s).1 (tkC s).2).1 }, (tkList tkX (tkC s).1 (tkC s).2).2) else
  if op = 15 then ({ noAn with clock := (tkN s).1 }, (tkN s).2) else (noAn, s)
def rhE (s : List UInt8) : Nat := at_ s 0
def rhH (s : List UInt8) : Nat × Nat × Nat := (at_ s 1, at_ s 2, bigNum (s.drop 3) 8)
def rhT (s : List UInt8) : An × List UInt8 := if rhE s = 0 then tkTold (rhH s).1 (s.drop 11) else (noAn, s.drop 11)
def rhOk (s : List UInt8) : Bool := decide (11 ≤ s.length) && (decide ((rhT s).2 = []) && ((decide (rhE s ≠ 0) || knownB (rhH s).1) && ((decide (rhE s ≠ 0) || mayA (rhH s).1 (rhT s).1) && decide (tellB (rhH s).1 (rhH s).2.1 (rhH s).2.2 (rhT s).1 (rhE s : Int) = s))))
theorem tkL_app (o : List UInt8) (t : Nat) (x : List UInt8) (h : nameOk o = true) (ht : t < 18446744073709551616) : tkL (leB o t ++ x) = ((o, t), x) := by
  unfold tkL leB
  rw [List.append_assoc, tkT_app o (row t ++ x) h]
  simp only
  rw [tkN_app t ht x]
theorem tkRw_app (r : Rw) (x : List UInt8) (h : rwOk r = true) (ht : tyR r) : tkRw (rwB r ++ x) = (r, x) := by
  unfold rwOk at h
  rw [Bool.and_eq_true] at h
  unfold tkRw rwB
  rw [List.append_assoc, tkA_app r.a _ h.1 ht.1]
  simp only
  rw [tkL_app r.owner r.til x h.2 ht.2]
theorem tkEv_app (e : Ev) (x : List UInt8) (h : evOk e = true) (ht : tyE e) : tkEv (evB e ++ x) = (e, x) := by
  obtain ⟨how, owner, at', til⟩ := e
  unfold evOk at h
  simp only [Bool.and_eq_true, decide_eq_true_eq] at h
  obtain ⟨m, hm⟩ : ∃ m : Nat, how = (m : Int) := ⟨how.toNat, by omega⟩
  subst hm
  have e1 := tkC_app m (by omega) (txB owner ++ (row at' ++ (row til ++ x)))
  unfold tkEv evB
  simp only [List.cons_append, List.append_assoc]
  rw [byI_nat m (by omega), e1]
  simp only
  rw [tkT_app owner _ h.1]
  simp only
  rw [tkN_app at' ht.2.1]
  simp only
  rw [tkN_app til ht.2.2]
theorem tkList_app {α : Type} (f : List UInt8 → α × List UInt8) (g : α → List UInt8) (l : List α) (hf : ∀ b ∈ l, ∀ x, f (g b ++ x) = (b, x)) : ∀ k, k ≤ l.length → ∀ x, tkList f k ((l.take k).flatMap g ++ x) = (l.take k, x)
  | 0, _, x => by simp [tkList]
  | k + 1, hk, x => by
    have hlt : k < l.length := by omega
    have e : l.take (k + 1) = l.take k ++ [l[k]] := by rw [List.take_add_one, List.getElem?_eq_getElem hlt]; rfl
    have ih := tkList_app f g l hf k (by omega) (g l[k] ++ x)
    have e2 : (l.take (k + 1)).flatMap g ++ x = (l.take k).flatMap g ++ (g l[k] ++ x) := by rw [e, List.flatMap_append]; simp
    unfold tkList
    rw [e2, ih]
    simp only
    rw [hf _ (List.getElem_mem hlt), e]
theorem tkMany_app {α : Type} (f : List UInt8 → α × List UInt8) (g : α → List UInt8) (l : List α) (hl : l.length ≤ 16) (hf : ∀ b ∈ l, ∀ x, f (g b ++ x) = (b, x)) (x : List UInt8) :
    tkList f (tkC (byI (l.length : Int) :: (l.flatMap g ++ x))).1 (tkC (byI (l.length : Int) :: (l.flatMap g ++ x))).2 = (l, x) := by
  rw [byI_nat _ (by omega), tkC_app l.length (by omega)]
  have h := tkList_app f g l hf l.length (Nat.le_refl _) x
  rwa [List.take_length] at h
theorem tkLk_app (a : An) (x : List UInt8) (h : mayA 10 a = true) (ht : tyAn a) : tkLk (lkB a ++ x) = (toldA 10 a, x) := by
  have h' : (!a.has || pxOk a.pool) = true ∧ (!a.live || nameOk a.owner) = true := by
    have : mayA 10 a = ((!a.has || pxOk a.pool) && (!a.live || nameOk a.owner)) := rfl
    rw [this] at h
    rwa [Bool.and_eq_true] at h
  have ht' : toldA 10 a = { noAn with has := a.has, held := a.held, live := a.live, pool := if a.has then a.pool else noX, owner := if a.live then a.owner else [], til := if a.live then a.til else 0 } := rfl
  rw [ht']
  obtain ⟨k1, k2, k3⟩ := lkN_bits a
  have hlt := lkN_lt a
  have e1 := tkC_app (lkN a) (by omega) ((if a.has then pxX a.pool else []) ++ (if a.live then leB a.owner a.til else []) ++ x)
  unfold tkLk lkB
  simp only [List.cons_append]
  rw [e1]
  simp only [k1, k2, k3]
  obtain ⟨h1, h2⟩ := h'
  cases hh : a.has with
  | true =>
    rw [hh] at h1
    simp only [if_true, Bool.not_true, Bool.false_or] at h1 ⊢
    rw [List.append_assoc, tkX_app a.pool _ h1 ht.2.2.1]
    simp only
    cases hl : a.live with
    | true =>
      rw [hl] at h2
      simp only [if_true, Bool.not_true, Bool.false_or] at h2 ⊢
      rw [tkL_app a.owner a.til x h2 ht.2.1]
    | false => simp
  | false =>
    simp only [Bool.false_eq_true, if_false, List.nil_append]
    cases hl : a.live with
    | true =>
      rw [hl] at h2
      simp only [if_true, Bool.not_true, Bool.false_or] at h2 ⊢
      rw [tkL_app a.owner a.til x h2 ht.2.1]
    | false => simp
theorem tkTold_app (op : Nat) (a : An) (x : List UInt8) (h : mayA op a = true) (ht : tyAn a) : tkTold op (tailB op a ++ x) = (toldA op a, x) := by
  obtain ⟨t1, t2, t3, t4, t5, t6, t7⟩ := ht
  by_cases h57 : 5 ≤ op ∧ op ≤ 7
  · unfold tkTold tailB toldA
    unfold mayA at h
    rw [if_pos h57, Bool.and_eq_true] at h
    rw [if_pos h57, if_pos h57, if_pos h57, List.append_assoc, tkA_app a.a _ h.1 t1]
    simp only
    rw [tkL_app a.owner a.til x h.2 t2]
  by_cases h10 : op = 10
  · subst h10
    exact tkLk_app a x h ⟨t1, t2, t3, t4, t5, t6, t7⟩
  by_cases h11 : op = 11
  · subst h11
    have hm : (a.rows.all rwOk && decide (a.rows.length ≤ 16)) = true := h
    simp only [Bool.and_eq_true, List.all_eq_true, decide_eq_true_eq] at hm
    have e := tkMany_app tkRw rwB a.rows hm.2 (fun b hb x => tkRw_app b x (hm.1 b hb) (t5 b hb)) x
    show ({ noAn with rows := (tkList tkRw (tkC (byI (a.rows.length : Int) :: (a.rows.flatMap rwB ++ x))).1 (tkC (byI (a.rows.length : Int) :: (a.rows.flatMap rwB ++ x))).2).1 }, (tkList tkRw (tkC (byI (a.rows.length : Int) :: (a.rows.flatMap rwB ++ x))).1 (tkC (byI (a.rows.length : Int) :: (a.rows.flatMap rwB ++ x))).2).2) = _
    rw [e]
    rfl
  by_cases h12 : op = 12
  · subst h12
    have hm : (a.events.all evOk && decide (a.events.length ≤ 16)) = true := h
    simp only [Bool.and_eq_true, List.all_eq_true, decide_eq_true_eq] at hm
    have e := tkMany_app tkEv evB a.events hm.2 (fun b hb x => tkEv_app b x (hm.1 b hb) (t6 b hb)) x
    show ({ noAn with events := (tkList tkEv (tkC (byI (a.events.length : Int) :: (a.events.flatMap evB ++ x))).1 (tkC (byI (a.events.length : Int) :: (a.events.flatMap evB ++ x))).2).1 }, (tkList tkEv (tkC (byI (a.events.length : Int) :: (a.events.flatMap evB ++ x))).1 (tkC (byI (a.events.length : Int) :: (a.events.flatMap evB ++ x))).2).2) = _
    rw [e]
    rfl
  by_cases h13 : op = 13 ∨ op = 14
  · have hm : (a.pools.all pxOk && decide (a.pools.length ≤ 16)) = true := by unfold mayA at h; rwa [if_neg h57, if_neg h10, if_neg h11, if_neg h12, if_pos h13] at h
    simp only [Bool.and_eq_true, List.all_eq_true, decide_eq_true_eq] at hm
    have e := tkMany_app tkX pxX a.pools hm.2 (fun b hb x => tkX_app b x (hm.1 b hb) (t7 b hb)) x
    unfold tkTold tailB toldA
    simp only [if_neg h57, if_neg h10, if_neg h11, if_neg h12, if_pos h13, List.cons_append]
    rw [e]
  by_cases h15 : op = 15
  · subst h15
    show ({ noAn with clock := (tkN (row a.clock ++ x)).1 }, (tkN (row a.clock ++ x)).2) = _
    rw [tkN_app a.clock t4]
    rfl
  · unfold tkTold tailB toldA
    simp only [if_neg h57, if_neg h10, if_neg h11, if_neg h12, if_neg h13, if_neg h15, List.nil_append]
theorem tkL_ty (s : List UInt8) : (tkL s).1.2 < 18446744073709551616 := tkN_lt _
theorem tkRw_ty (s : List UInt8) : tyR (tkRw s).1 := ⟨tkA_ty s, tkL_ty _⟩
theorem tkEv_ty (s : List UInt8) : tyE (tkEv s).1 := ⟨by have := tkC_lt s; show -9223372036854775808 ≤ ((tkC s).1 : Int) ∧ ((tkC s).1 : Int) ≤ 9223372036854775807; omega, tkN_lt _, tkN_lt _⟩
theorem tkList_ty {α : Type} (f : List UInt8 → α × List UInt8) (p : α → Prop) (hf : ∀ s, p (f s).1) : ∀ k s, ∀ b ∈ (tkList f k s).1, p b
  | 0, s, b, hb => by simp [tkList] at hb
  | k + 1, s, b, hb => by
    unfold tkList at hb
    rcases List.mem_append.1 hb with h | h
    · exact tkList_ty f p hf k s b h
    · obtain rfl := List.mem_singleton.1 h
      exact hf _
theorem tkTold_ty (op : Nat) (s : List UInt8) : tyAn (tkTold op s).1 := by
  have hn := ty_noAn
  obtain ⟨n1, n2, n3, n4, n5, n6, n7⟩ := hn
  unfold tkTold
  split
  · exact ⟨tkA_ty s, tkL_ty _, n3, n4, n5, n6, n7⟩
  split
  · unfold tkLk
    simp only
    refine ⟨n1, ?_, ?_, n4, n5, n6, n7⟩
    · simp only
      split
      · exact tkL_ty _
      · exact (show (0 : Nat) < 18446744073709551616 by decide)
    · simp only
      split
      · exact tkX_ty _
      · exact ty_noX
  split
  · exact ⟨n1, n2, n3, n4, tkList_ty tkRw tyR tkRw_ty _ _, n6, n7⟩
  split
  · exact ⟨n1, n2, n3, n4, n5, tkList_ty tkEv tyE tkEv_ty _ _, n7⟩
  split
  · exact ⟨n1, n2, n3, n4, n5, n6, tkList_ty tkX tyX tkX_ty _ _⟩
  split
  · exact ⟨n1, n2, n3, tkN_lt _, n5, n6, n7⟩
  · exact ⟨n1, n2, n3, n4, n5, n6, n7⟩
theorem rhT_ty (s : List UInt8) : tyAn (rhT s).1 := by
  unfold rhT
  split
  · exact tkTold_ty _ _
  · exact ty_noAn
theorem rhH_ty (s : List UInt8) : (rhH s).1 < 256 ∧ (rhH s).2.1 < 256 ∧ (rhH s).2.2 < 18446744073709551616 := ⟨at_lt _ _, at_lt _ _, bigNum_lt _⟩
theorem tell_parts (op cl nu : Nat) (a : An) (e : Nat) (h1 : op < 256) (h2 : cl < 256) (h3 : nu < 18446744073709551616) (he : e < 256) :
    rhE (tellB op cl nu a e) = e ∧ rhH (tellB op cl nu a e) = (op, cl, nu) ∧ (tellB op cl nu a e).drop 11 = (if (e : Int) = 0 then tailB op a else []) ∧ 11 ≤ (tellB op cl nu a e).length := by
  have e0 : tellB op cl nu a e = byt e :: byt op :: byt cl :: (be 8 nu ++ (if (e : Int) = 0 then tailB op a else [])) := by
    unfold tellB headB
    rw [byI_nat e he]
    rfl
  rw [e0]
  refine ⟨?_, ?_, ?_, ?_⟩
  · show (byt e).toNat = e
    rw [byt_toNat]; omega
  · have hb : bigNum (be 8 nu ++ (if (e : Int) = 0 then tailB op a else [])) 8 = nu := by
      unfold bigNum bigOk
      rw [if_pos (by simp [be_length]; omega), show (8 : Int).toNat = 8 from rfl, List.take_append_of_le_length (by simp [be_length]), List.take_of_length_le (by simp [be_length]), val_be, Nat.mod_eq_of_lt (by omega)]
    show ((byt op).toNat, (byt cl).toNat, bigNum (be 8 nu ++ (if (e : Int) = 0 then tailB op a else [])) 8) = _
    rw [hb, byt_toNat, byt_toNat, Nat.mod_eq_of_lt h1, Nat.mod_eq_of_lt h2]
  · show (be 8 nu ++ (if (e : Int) = 0 then tailB op a else [])).drop 8 = _
    rw [List.drop_append_of_le_length (by simp [be_length]), List.drop_of_length_le (by simp [be_length])]
    rfl
  · simp [be_length]
/-- The document's hearing is the program's. -/
theorem rh_is (s : List UInt8) : rhOk s = hearOk s ∧ (hearOk s = true → rhH s = (hearH s).1 ∧ (rhT s).1 = (hearT s).1 ∧ rhE s = (hearE s).1) := by
  have key : hearOk s = true → rhOk s = true ∧ rhH s = (hearH s).1 ∧ (rhT s).1 = (hearT s).1 ∧ rhE s = (hearE s).1 := by
    intro h
    obtain ⟨i1, i2, i3, i4, i5, i6⟩ := hear_is h
    obtain ⟨b1, b2, b3⟩ := hearH_ty s
    obtain ⟨p1, p2, p3, p4⟩ := tell_parts (hearH s).1.1 (hearH s).1.2.1 (hearH s).1.2.2 (hearT s).1 (hearE s).1 b1 b2 b3 i2
    rw [← i1] at p1 p2 p3 p4
    have hT : rhT s = ((hearT s).1, []) := by
      unfold rhT
      rw [p1, p2, p3]
      by_cases h0 : (hearE s).1 = 0
      · rw [if_pos h0, if_pos (by omega)]
        have := tkTold_app (hearH s).1.1 (hearT s).1 [] (i5 h0).1 i3
        rw [List.append_nil] at this
        rw [this, (i5 h0).2]
      · rw [if_neg h0, if_neg (by omega), i6 h0]
    refine ⟨?_, p2, by rw [hT], p1⟩
    unfold rhOk
    rw [hT, p1, p2, decide_eq_true p4]
    unfold hearOkE at i4
    have hk : (decide ((hearE s).1 ≠ 0) || knownB (hearH s).1.1) = true := by
      rw [← i4]
      congr 1
      rw [decide_eq_decide]
      omega
    have hm : (decide ((hearE s).1 ≠ 0) || mayA (hearH s).1.1 (hearT s).1) = true := by
      by_cases h0 : (hearE s).1 = 0
      · rw [(i5 h0).1]; simp
      · simp [h0]
    simp only
    rw [hk, hm, ← i1]
    simp
  refine ⟨?_, fun h => (key h).2⟩
  cases h : hearOk s with
  | true => exact (key h).1
  | false =>
    cases hr : rhOk s with
    | false => rfl
    | true =>
      exfalso
      unfold rhOk at hr
      simp only [Bool.and_eq_true, decide_eq_true_eq] at hr
      obtain ⟨r1, r2, r3, r4, r5⟩ := hr
      obtain ⟨t1, t2, t3⟩ := rhH_ty s
      have hE : rhE s < 256 := at_lt _ _
      have ha := hear_app (rhH s).1 (rhH s).2.1 (rhH s).2.2 (rhT s).1 (rhE s : Int) [] t1 t2 t3 (rhT_ty s) ⟨by omega, by omega⟩ (fun h0 => by
        have h0' : rhE s = 0 := by omega
        rw [h0'] at r4
        simpa using r4)
      rw [List.append_nil, r5, h] at ha
      have := ha.1
      unfold hearOkE at this
      have hk : (decide (((rhE s : Nat) : Int) ≠ 0) || knownB (rhH s).1) = true := by
        rw [← r3]
        congr 1
        rw [decide_eq_decide]
        omega
      rw [hk] at this
      simp at this
end Go.Proofs.YtcobfoiajdbahaaDoor.P
