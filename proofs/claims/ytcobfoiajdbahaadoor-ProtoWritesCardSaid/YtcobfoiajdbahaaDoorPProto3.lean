/- Plain law of layer 26: answers, their bytes, and what is heard of bytes. -/
import Derived.Test.YtcobfoiajdbahaaDoorPProto2
namespace Go.Proofs.YtcobfoiajdbahaaDoor.P
set_option linter.unusedVariables false
set_option linter.unusedSimpArgs false

structure Rw where
  a : Ad
  owner : List UInt8
  til : Nat
deriving DecidableEq
structure Ev where
  how : Int
  owner : List UInt8
  at' : Nat
  til : Nat
deriving DecidableEq
structure An where
  a : Ad
  owner : List UInt8
  til : Nat
  pool : Px
  has : Bool
  held : Bool
  live : Bool
  clock : Nat
  rows : List Rw
  events : List Ev
  pools : List Px
deriving DecidableEq
def noAn : An := ⟨noA, [], 0, noX, false, false, false, 0, [], [], []⟩
def tyR (r : Rw) : Prop := tyA r.a ∧ r.til < 18446744073709551616
def tyE (e : Ev) : Prop := (-9223372036854775808 ≤ e.how ∧ e.how ≤ 9223372036854775807) ∧ e.at' < 18446744073709551616 ∧ e.til < 18446744073709551616
def tyAn (a : An) : Prop := tyA a.a ∧ a.til < 18446744073709551616 ∧ tyX a.pool ∧ a.clock < 18446744073709551616 ∧ (∀ r ∈ a.rows, tyR r) ∧ (∀ e ∈ a.events, tyE e) ∧ (∀ p ∈ a.pools, tyX p)

/-! ### Bytes -/
def leB (o : List UInt8) (t : Nat) : List UInt8 := txB o ++ row t
def rwB (r : Rw) : List UInt8 := adX r.a ++ leB r.owner r.til
def evB (e : Ev) : List UInt8 := byI e.how :: (txB e.owner ++ (row e.at' ++ row e.til))
def lkN (a : An) : Nat := (if a.has then 1 else 0) + ((if a.held then 2 else 0) + (if a.live then 4 else 0))
def lkB (a : An) : List UInt8 := byt (lkN a) :: ((if a.has then pxX a.pool else []) ++ (if a.live then leB a.owner a.til else []))
def tailB (op : Nat) (a : An) : List UInt8 :=
  if 5 ≤ op ∧ op ≤ 7 then adX a.a ++ leB a.owner a.til else
  if op = 10 then lkB a else
  if op = 11 then byI (a.rows.length : Int) :: a.rows.flatMap rwB else
  if op = 12 then byI (a.events.length : Int) :: a.events.flatMap evB else
  if op = 13 ∨ op = 14 then byI (a.pools.length : Int) :: a.pools.flatMap pxX else
  if op = 15 then row a.clock else []
def tellB (op cl nu : Nat) (a : An) (e : Int) : List UInt8 := byI e :: (headB op cl nu ++ (if e = 0 then tailB op a else []))

/-! ### What may be told, what is told -/
def rwOk (r : Rw) : Bool := adOk r.a && nameOk r.owner
def evOk (e : Ev) : Bool := nameOk e.owner && decide (1 ≤ e.how ∧ e.how ≤ 4)
def mayA (op : Nat) (a : An) : Bool :=
  if 5 ≤ op ∧ op ≤ 7 then adOk a.a && nameOk a.owner else
  if op = 10 then (!a.has || pxOk a.pool) && (!a.live || nameOk a.owner) else
  if op = 11 then a.rows.all rwOk && decide (a.rows.length ≤ 16) else
  if op = 12 then a.events.all evOk && decide (a.events.length ≤ 16) else
  if op = 13 ∨ op = 14 then a.pools.all pxOk && decide (a.pools.length ≤ 16) else true
def toldA (op : Nat) (a : An) : An :=
  if 5 ≤ op ∧ op ≤ 7 then { noAn with a := a.a, owner := a.owner, til := a.til } else
  if op = 10 then { noAn with has := a.has, held := a.held, live := a.live, pool := if a.has then a.pool else noX, owner := if a.live then a.owner else [], til := if a.live then a.til else 0 } else
  if op = 11 then { noAn with rows := a.rows } else
  if op = 12 then { noAn with events := a.events } else
  if op = 13 ∨ op = 14 then { noAn with pools := a.pools } else
  if op = 15 then { noAn with clock := a.clock } else noAn

/-! ### Reading with a flag -/
def qRw (q : Qs) : Rw × Qs := (⟨(qA q).1, (qL (qA q).2).1.1, (qL (qA q).2).1.2⟩, (qL (qA q).2).2)
def qEv (q : Qs) : Ev × Qs :=
  let h := qB 1 4 q
  let o := qO h.2
  let a := qN o.2
  let u := qN a.2
  (⟨(h.1 : Int), o.1, a.1, u.1⟩, u.2)
def qList {α : Type} (f : Qs → α × Qs) : Nat → Qs → List α × Qs
  | 0, q => ([], q)
  | k + 1, q => ((qList f k q).1 ++ [(f (qList f k q).2).1], (f (qList f k q).2).2)
def qLk (q : Qs) : An × Qs :=
  let n := qB 0 7 q
  let has : Bool := n.1 % 2 == 1
  let held : Bool := n.1 / 2 % 2 == 1
  let live : Bool := n.1 / 4 % 2 == 1
  let x := if has then qX n.2 else (noX, n.2)
  let l := if live then qL x.2 else (([], 0), x.2)
  ({ noAn with has := has, held := held, live := live, pool := x.1, owner := l.1.1, til := l.1.2 }, l.2)
def qTold (op : Nat) (q : Qs) : An × Qs :=
  if 5 ≤ op ∧ op ≤ 7 then ({ noAn with a := (qA q).1, owner := (qL (qA q).2).1.1, til := (qL (qA q).2).1.2 }, (qL (qA q).2).2) else
  if op = 10 then qLk q else
  if op = 11 then ({ noAn with rows := (qList qRw (qB 0 16 q).1 (qB 0 16 q).2).1 }, (qList qRw (qB 0 16 q).1 (qB 0 16 q).2).2) else
  if op = 12 then ({ noAn with events := (qList qEv (qB 0 16 q).1 (qB 0 16 q).2).1 }, (qList qEv (qB 0 16 q).1 (qB 0 16 q).2).2) else
  if op = 13 ∨ op = 14 then ({ noAn with pools := (qList qX (qB 0 16 q).1 (qB 0 16 q).2).1 }, (qList qX (qB 0 16 q).1 (qB 0 16 q).2).2) else
  if op = 15 then ({ noAn with clock := (qN q).1 }, (qN q).2) else (noAn, q)
/-- What is heard: the error, the head, the answer, what is left. -/
def hearE (s : List UInt8) : Nat × Qs := qB 0 255 (s, false)
def hearH (s : List UInt8) : (Nat × Nat × Nat) × Qs := qH (hearE s).2
def hearT (s : List UInt8) : An × Qs := if (hearE s).1 = 0 then qTold (hearH s).1.1 ((hearH s).2.1, (hearH s).2.2 || !knownB (hearH s).1.1) else (noAn, (hearH s).2)
def hearOk (s : List UInt8) : Bool := !(hearT s).2.2 && decide ((hearT s).2.1 = [])
def hearC (s : List UInt8) : Ca := if hearOk s then headC (hearH s).1 else noC
def hearA (s : List UInt8) : An := if hearOk s then (hearT s).1 else noAn
def hearN (s : List UInt8) : Nat := if hearOk s then (hearE s).1 else 0

/-! ### What is told is heard, what is heard was told -/
theorem qL_app (o : List UInt8) (t : Nat) (x : List UInt8) (h : nameOk o = true) (ht : t < 18446744073709551616) : qL (leB o t ++ x, false) = ((o, t), (x, false)) := by
  unfold qL leB
  rw [List.append_assoc, qO_app o (row t ++ x) h]
  simp only [qN_row t ht x]
theorem qL_is {q : Qs} (h : (qL q).2.2 = false) : q.2 = false ∧ q.1 = leB (qL q).1.1 (qL q).1.2 ++ (qL q).2.1 ∧ nameOk (qL q).1.1 = true ∧ (qL q).1.2 < 18446744073709551616 := by
  unfold qL at *
  simp only at h ⊢
  obtain ⟨n1, n2, n3⟩ := qN_is h
  obtain ⟨o1, o2, o3⟩ := qO_is n1
  refine ⟨o1, ?_, o3, n3⟩
  unfold leB
  rw [List.append_assoc, ← n2]
  exact o2
theorem qRw_app (r : Rw) (x : List UInt8) (h : rwOk r = true) (ht : tyR r) : qRw (rwB r ++ x, false) = (r, (x, false)) := by
  unfold rwOk at h
  rw [Bool.and_eq_true] at h
  unfold qRw rwB
  rw [List.append_assoc, qA_app r.a _ h.1 ht.1]
  simp only
  rw [qL_app r.owner r.til x h.2 ht.2]
theorem qRw_is {q : Qs} (h : (qRw q).2.2 = false) : q.2 = false ∧ q.1 = rwB (qRw q).1 ++ (qRw q).2.1 ∧ rwOk (qRw q).1 = true ∧ tyR (qRw q).1 := by
  unfold qRw at *
  simp only at h ⊢
  obtain ⟨l1, l2, l3, l4⟩ := qL_is h
  obtain ⟨a1, a2, a3, a4⟩ := qA_is l1
  refine ⟨a1, ?_, by unfold rwOk; rw [a3, l3]; rfl, a4, l4⟩
  unfold rwB
  rw [List.append_assoc, ← l2]
  exact a2
theorem qEv_app (e : Ev) (x : List UInt8) (h : evOk e = true) (ht : tyE e) : qEv (evB e ++ x, false) = (e, (x, false)) := by
  obtain ⟨how, owner, at', til⟩ := e
  unfold evOk at h
  simp only [Bool.and_eq_true, decide_eq_true_eq] at h
  obtain ⟨m, hm⟩ : ∃ m : Nat, how = (m : Int) := ⟨how.toNat, by omega⟩
  subst hm
  have e1 := qB_app 1 4 m (by omega) (by omega) (by omega) (txB owner ++ (row at' ++ (row til ++ x)))
  unfold qEv evB
  simp only [List.cons_append, List.append_assoc]
  rw [byI_nat m (by omega), e1]
  simp only
  rw [qO_app owner _ h.1]
  simp only
  rw [qN_row at' ht.2.1]
  simp only
  rw [qN_row til ht.2.2]
theorem qEv_is {q : Qs} (h : (qEv q).2.2 = false) : q.2 = false ∧ q.1 = evB (qEv q).1 ++ (qEv q).2.1 ∧ evOk (qEv q).1 = true ∧ tyE (qEv q).1 := by
  unfold qEv at *
  simp only at h ⊢
  obtain ⟨u1, u2, u3⟩ := qN_is h
  obtain ⟨a1, a2, a3⟩ := qN_is u1
  obtain ⟨o1, o2, o3⟩ := qO_is a1
  obtain ⟨b1, b2, b3, b4, b5⟩ := qB_is o1
  refine ⟨b1, ?_, by unfold evOk; simp only [o3, Bool.true_and, decide_eq_true_eq]; omega, ⟨⟨by simp only; omega, by simp only; omega⟩, a3, u3⟩⟩
  unfold evB
  simp only [List.cons_append, List.append_assoc]
  rw [← u2, ← a2, ← o2, byI_nat _ b5]
  exact b2
theorem qList_app {α : Type} (f : Qs → α × Qs) (g : α → List UInt8) (l : List α) (hf : ∀ b ∈ l, ∀ x, f (g b ++ x, false) = (b, (x, false))) : ∀ k, k ≤ l.length → ∀ x, qList f k ((l.take k).flatMap g ++ x, false) = (l.take k, (x, false))
  | 0, _, x => by simp [qList]
  | k + 1, hk, x => by
    have hlt : k < l.length := by omega
    have e : l.take (k + 1) = l.take k ++ [l[k]] := by rw [List.take_add_one, List.getElem?_eq_getElem hlt]; rfl
    have ih := qList_app f g l hf k (by omega) (g l[k] ++ x)
    have e2 : (l.take (k + 1)).flatMap g ++ x = (l.take k).flatMap g ++ (g l[k] ++ x) := by rw [e, List.flatMap_append]; simp
    unfold qList
    rw [e2, ih]
    simp only
    rw [hf _ (List.getElem_mem hlt), e]
theorem qList_all {α : Type} (f : Qs → α × Qs) (g : α → List UInt8) (l : List α) (hf : ∀ b ∈ l, ∀ x, f (g b ++ x, false) = (b, (x, false))) (x : List UInt8) : qList f l.length (l.flatMap g ++ x, false) = (l, (x, false)) := by
  have h := qList_app f g l hf l.length (Nat.le_refl _) x
  rwa [List.take_length] at h
theorem qList_is {α : Type} (f : Qs → α × Qs) (g : α → List UInt8) (ok : α → Prop) (hf : ∀ q, (f q).2.2 = false → q.2 = false ∧ q.1 = g (f q).1 ++ (f q).2.1 ∧ ok (f q).1) : ∀ k q, (qList f k q).2.2 = false → q.2 = false ∧ q.1 = (qList f k q).1.flatMap g ++ (qList f k q).2.1 ∧ (∀ b ∈ (qList f k q).1, ok b)
  | 0, q, h => ⟨h, by simp [qList], by simp [qList]⟩
  | k + 1, q, h => by
    unfold qList at h ⊢
    simp only at h ⊢
    obtain ⟨h1, h2, h3⟩ := hf _ h
    obtain ⟨i1, i2, i3⟩ := qList_is f g ok hf k q h1
    refine ⟨i1, ?_, fun b hb => ?_⟩
    · rw [List.flatMap_append, List.append_assoc]
      simp only [List.flatMap_cons, List.flatMap_nil, List.append_nil]
      rw [← h2]
      exact i2
    · rcases List.mem_append.1 hb with hb | hb
      · exact i3 b hb
      · obtain rfl := List.mem_singleton.1 hb
        exact h3
theorem qList_len {α : Type} (f : Qs → α × Qs) : ∀ k q, (qList f k q).1.length = k
  | 0, q => rfl
  | k + 1, q => by unfold qList; rw [List.length_append, qList_len f k q]; rfl
theorem lkN_lt (a : An) : lkN a < 8 := by unfold lkN; cases a.has <;> cases a.held <;> cases a.live <;> decide
theorem lkN_bits (a : An) : (lkN a % 2 == 1) = a.has ∧ (lkN a / 2 % 2 == 1) = a.held ∧ (lkN a / 4 % 2 == 1) = a.live := by
  unfold lkN; cases a.has <;> cases a.held <;> cases a.live <;> decide
theorem lkN_of : ∀ n : Nat, n < 8 → (if (n % 2 == 1) = true then 1 else 0) + ((if (n / 2 % 2 == 1) = true then 2 else 0) + (if (n / 4 % 2 == 1) = true then 4 else 0)) = n := by decide
theorem qLk_app (a : An) (x : List UInt8) (h : mayA 10 a = true) (ht : tyAn a) : qLk (lkB a ++ x, false) = (toldA 10 a, (x, false)) := by
  have h' : (!a.has || pxOk a.pool) = true ∧ (!a.live || nameOk a.owner) = true := by
    have : mayA 10 a = ((!a.has || pxOk a.pool) && (!a.live || nameOk a.owner)) := rfl
    rw [this] at h
    rwa [Bool.and_eq_true] at h
  have ht' : toldA 10 a = { noAn with has := a.has, held := a.held, live := a.live, pool := if a.has then a.pool else noX, owner := if a.live then a.owner else [], til := if a.live then a.til else 0 } := rfl
  rw [ht']
  obtain ⟨k1, k2, k3⟩ := lkN_bits a
  have hlt := lkN_lt a
  have e1 := qB_app 0 7 (lkN a) (by omega) (by omega) (by omega) ((if a.has then pxX a.pool else []) ++ (if a.live then leB a.owner a.til else []) ++ x)
  unfold qLk lkB
  simp only [List.cons_append]
  rw [e1]
  simp only [k1, k2, k3]
  obtain ⟨h1, h2⟩ := h'
  cases hh : a.has with
  | true =>
    rw [hh] at h1
    simp only [if_true, Bool.not_true, Bool.false_or] at h1 ⊢
    rw [List.append_assoc, qX_app a.pool _ h1 ht.2.2.1]
    simp only
    cases hl : a.live with
    | true =>
      rw [hl] at h2
      simp only [if_true, Bool.not_true, Bool.false_or] at h2 ⊢
      rw [qL_app a.owner a.til x h2 ht.2.1]
    | false => simp
  | false =>
    simp only [Bool.false_eq_true, if_false, List.nil_append]
    cases hl : a.live with
    | true =>
      rw [hl] at h2
      simp only [if_true, Bool.not_true, Bool.false_or] at h2 ⊢
      rw [qL_app a.owner a.til x h2 ht.2.1]
    | false => simp
theorem ty_noA : tyA noA := ⟨by decide, by decide, by decide⟩
theorem ty_noX : tyX noX := ⟨ty_noA, by decide, by decide⟩
theorem ty_noAn : tyAn noAn := ⟨ty_noA, by decide, ty_noX, by decide, by simp [noAn], by simp [noAn], by simp [noAn]⟩
theorem qLk_is {q : Qs} (h : (qLk q).2.2 = false) : q.2 = false ∧ q.1 = lkB (qLk q).1 ++ (qLk q).2.1 ∧ mayA 10 (qLk q).1 = true ∧ toldA 10 (qLk q).1 = (qLk q).1 ∧ tyAn (qLk q).1 := by
  have hm : ∀ a, mayA 10 a = ((!a.has || pxOk a.pool) && (!a.live || nameOk a.owner)) := fun a => rfl
  have ht : ∀ a, toldA 10 a = { noAn with has := a.has, held := a.held, live := a.live, pool := if a.has then a.pool else noX, owner := if a.live then a.owner else [], til := if a.live then a.til else 0 } := fun a => rfl
  unfold qLk at *
  simp only at h ⊢
  cases hh : ((qB 0 7 q).1 % 2 == 1) with
  | true =>
    rw [hh] at h
    simp only [if_true] at h ⊢
    cases hl : ((qB 0 7 q).1 / 4 % 2 == 1) with
    | true =>
      rw [hl] at h
      simp only [if_true] at h ⊢
      obtain ⟨l1, l2, l3, l4⟩ := qL_is h
      obtain ⟨x1, x2, x3, x4⟩ := qX_is l1
      obtain ⟨b1, b2, b3, b4, b5⟩ := qB_is x1
      have hn := lkN_of (qB 0 7 q).1 (by omega)
      rw [hh, hl] at hn
      refine ⟨b1, ?_, by rw [hm]; simp [x3, l3], by rw [ht]; simp, ty_noA, l4, x4, by show (0:Nat) < _; decide, by simp [noAn], by simp [noAn], by simp [noAn]⟩
      unfold lkB lkN
      simp only [if_true] at hn ⊢
      rw [hn]
      simp only [List.cons_append, List.append_assoc]
      rw [← l2, ← x2]
      exact b2
    | false =>
      rw [hl] at h
      simp only [Bool.false_eq_true, if_false] at h ⊢
      obtain ⟨x1, x2, x3, x4⟩ := qX_is h
      obtain ⟨b1, b2, b3, b4, b5⟩ := qB_is x1
      have hn := lkN_of (qB 0 7 q).1 (by omega)
      rw [hh, hl] at hn
      refine ⟨b1, ?_, by rw [hm]; simp [x3], by rw [ht]; simp, ty_noA, by show (0:Nat) < _; decide, x4, by show (0:Nat) < _; decide, by simp [noAn], by simp [noAn], by simp [noAn]⟩
      unfold lkB lkN
      simp only [if_true, Bool.false_eq_true, if_false] at hn ⊢
      rw [hn]
      simp only [List.cons_append, List.append_nil]
      rw [← x2]
      exact b2
  | false =>
    rw [hh] at h
    simp only [Bool.false_eq_true, if_false] at h ⊢
    cases hl : ((qB 0 7 q).1 / 4 % 2 == 1) with
    | true =>
      rw [hl] at h
      simp only [if_true] at h ⊢
      obtain ⟨l1, l2, l3, l4⟩ := qL_is h
      obtain ⟨b1, b2, b3, b4, b5⟩ := qB_is l1
      have hn := lkN_of (qB 0 7 q).1 (by omega)
      rw [hh, hl] at hn
      refine ⟨b1, ?_, by rw [hm]; simp [l3], by rw [ht]; simp, ty_noA, l4, ty_noX, by show (0:Nat) < _; decide, by simp [noAn], by simp [noAn], by simp [noAn]⟩
      unfold lkB lkN
      simp only [if_true, Bool.false_eq_true, if_false] at hn ⊢
      rw [hn]
      simp only [List.cons_append, List.nil_append]
      rw [← l2]
      exact b2
    | false =>
      rw [hl] at h
      simp only [Bool.false_eq_true, if_false] at h ⊢
      obtain ⟨b1, b2, b3, b4, b5⟩ := qB_is h
      have hn := lkN_of (qB 0 7 q).1 (by omega)
      rw [hh, hl] at hn
      refine ⟨b1, ?_, by rw [hm]; simp, by rw [ht]; simp, ty_noA, by show (0:Nat) < _; decide, ty_noX, by show (0:Nat) < _; decide, by simp [noAn], by simp [noAn], by simp [noAn]⟩
      unfold lkB lkN
      simp only [Bool.false_eq_true, if_false] at hn ⊢
      rw [hn]
      simp only [List.cons_append, List.nil_append]
      exact b2
/-- Lists: what is told of one is read. -/
theorem qMany_app {α : Type} (f : Qs → α × Qs) (g : α → List UInt8) (l : List α) (hl : l.length ≤ 16) (hf : ∀ b ∈ l, ∀ x, f (g b ++ x, false) = (b, (x, false))) (x : List UInt8) :
    qList f (qB 0 16 (byI (l.length : Int) :: (l.flatMap g ++ x), false)).1 (qB 0 16 (byI (l.length : Int) :: (l.flatMap g ++ x), false)).2 = (l, (x, false)) := by
  rw [byI_nat _ (by omega), qB_app 0 16 l.length (by omega) hl (by omega)]
  exact qList_all f g l hf x
theorem qMany_is {α : Type} (f : Qs → α × Qs) (g : α → List UInt8) (ok : α → Prop) (hf : ∀ q, (f q).2.2 = false → q.2 = false ∧ q.1 = g (f q).1 ++ (f q).2.1 ∧ ok (f q).1) {q : Qs} (h : (qList f (qB 0 16 q).1 (qB 0 16 q).2).2.2 = false) :
    q.2 = false ∧ q.1 = byI ((qList f (qB 0 16 q).1 (qB 0 16 q).2).1.length : Int) :: ((qList f (qB 0 16 q).1 (qB 0 16 q).2).1.flatMap g ++ (qList f (qB 0 16 q).1 (qB 0 16 q).2).2.1) ∧ (qList f (qB 0 16 q).1 (qB 0 16 q).2).1.length ≤ 16 ∧ ∀ b ∈ (qList f (qB 0 16 q).1 (qB 0 16 q).2).1, ok b := by
  obtain ⟨i1, i2, i3⟩ := qList_is f g ok hf _ _ h
  obtain ⟨b1, b2, b3, b4, b5⟩ := qB_is i1
  rw [qList_len]
  refine ⟨b1, ?_, b4, i3⟩
  rw [byI_nat _ b5, ← i2]
  exact b2
theorem told_app (op : Nat) (a : An) (x : List UInt8) (h : mayA op a = true) (ht : tyAn a) : qTold op (tailB op a ++ x, false) = (toldA op a, (x, false)) := by
  obtain ⟨t1, t2, t3, t4, t5, t6, t7⟩ := ht
  by_cases h57 : 5 ≤ op ∧ op ≤ 7
  · unfold qTold tailB toldA
    unfold mayA at h
    rw [if_pos h57, Bool.and_eq_true] at h
    rw [if_pos h57, if_pos h57, if_pos h57, List.append_assoc, qA_app a.a _ h.1 t1]
    simp only
    rw [qL_app a.owner a.til x h.2 t2]
  by_cases h10 : op = 10
  · subst h10
    exact qLk_app a x h ⟨t1, t2, t3, t4, t5, t6, t7⟩
  by_cases h11 : op = 11
  · subst h11
    have hm : (a.rows.all rwOk && decide (a.rows.length ≤ 16)) = true := h
    simp only [Bool.and_eq_true, List.all_eq_true, decide_eq_true_eq] at hm
    have e := qMany_app qRw rwB a.rows hm.2 (fun b hb x => qRw_app b x (hm.1 b hb) (t5 b hb)) x
    show ({ noAn with rows := (qList qRw (qB 0 16 (byI (a.rows.length : Int) :: (a.rows.flatMap rwB ++ x), false)).1 (qB 0 16 (byI (a.rows.length : Int) :: (a.rows.flatMap rwB ++ x), false)).2).1 }, (qList qRw (qB 0 16 (byI (a.rows.length : Int) :: (a.rows.flatMap rwB ++ x), false)).1 (qB 0 16 (byI (a.rows.length : Int) :: (a.rows.flatMap rwB ++ x), false)).2).2) = _
    rw [e]
    rfl
  by_cases h12 : op = 12
  · subst h12
    have hm : (a.events.all evOk && decide (a.events.length ≤ 16)) = true := h
    simp only [Bool.and_eq_true, List.all_eq_true, decide_eq_true_eq] at hm
    have e := qMany_app qEv evB a.events hm.2 (fun b hb x => qEv_app b x (hm.1 b hb) (t6 b hb)) x
    show ({ noAn with events := (qList qEv (qB 0 16 (byI (a.events.length : Int) :: (a.events.flatMap evB ++ x), false)).1 (qB 0 16 (byI (a.events.length : Int) :: (a.events.flatMap evB ++ x), false)).2).1 }, (qList qEv (qB 0 16 (byI (a.events.length : Int) :: (a.events.flatMap evB ++ x), false)).1 (qB 0 16 (byI (a.events.length : Int) :: (a.events.flatMap evB ++ x), false)).2).2) = _
    rw [e]
    rfl
  by_cases h13 : op = 13 ∨ op = 14
  · have hm : (a.pools.all pxOk && decide (a.pools.length ≤ 16)) = true := by unfold mayA at h; rwa [if_neg h57, if_neg h10, if_neg h11, if_neg h12, if_pos h13] at h
    simp only [Bool.and_eq_true, List.all_eq_true, decide_eq_true_eq] at hm
    have e := qMany_app qX pxX a.pools hm.2 (fun b hb x => qX_app b x (hm.1 b hb) (t7 b hb)) x
    unfold qTold tailB toldA
    simp only [if_neg h57, if_neg h10, if_neg h11, if_neg h12, if_pos h13, List.cons_append]
    rw [e]
  by_cases h15 : op = 15
  · subst h15
    show ({ noAn with clock := (qN (row a.clock ++ x, false)).1 }, (qN (row a.clock ++ x, false)).2) = _
    rw [qN_row a.clock t4]
    rfl
  · unfold qTold tailB toldA
    simp only [if_neg h57, if_neg h10, if_neg h11, if_neg h12, if_neg h13, if_neg h15, List.nil_append]
theorem told_is {op : Nat} {q : Qs} (h : (qTold op q).2.2 = false) : q.2 = false ∧ q.1 = tailB op (qTold op q).1 ++ (qTold op q).2.1 ∧ mayA op (qTold op q).1 = true ∧ toldA op (qTold op q).1 = (qTold op q).1 ∧ tyAn (qTold op q).1 := by
  by_cases h57 : 5 ≤ op ∧ op ≤ 7
  · unfold qTold tailB toldA mayA at *
    simp only [if_pos h57] at h ⊢
    obtain ⟨l1, l2, l3, l4⟩ := qL_is h
    obtain ⟨a1, a2, a3, a4⟩ := qA_is l1
    refine ⟨a1, ?_, by rw [a3, l3]; rfl, by trivial, a4, l4, ty_noX, by show (0:Nat) < _; decide, by simp [noAn], by simp [noAn], by simp [noAn]⟩
    rw [List.append_assoc, ← l2]
    exact a2
  by_cases h10 : op = 10
  · subst h10
    exact qLk_is h
  by_cases h11 : op = 11
  · subst h11
    obtain ⟨m1, m2, m3, m4⟩ := qMany_is qRw rwB (fun b => rwOk b = true ∧ tyR b) (fun q h => qRw_is h) (q := q) h
    refine ⟨m1, m2, ?_, rfl, ty_noA, by show (0:Nat) < _; decide, ty_noX, by show (0:Nat) < _; decide, fun b hb => (m4 b hb).2, fun b hb => (by cases hb), fun b hb => (by cases hb)⟩
    show ((qList qRw (qB 0 16 q).1 (qB 0 16 q).2).1.all rwOk && decide ((qList qRw (qB 0 16 q).1 (qB 0 16 q).2).1.length ≤ 16)) = true
    simp only [Bool.and_eq_true, List.all_eq_true, decide_eq_true_eq]
    exact ⟨fun b hb => (m4 b hb).1, m3⟩
  by_cases h12 : op = 12
  · subst h12
    obtain ⟨m1, m2, m3, m4⟩ := qMany_is qEv evB (fun b => evOk b = true ∧ tyE b) (fun q h => qEv_is h) (q := q) h
    refine ⟨m1, m2, ?_, rfl, ty_noA, by show (0:Nat) < _; decide, ty_noX, by show (0:Nat) < _; decide, fun b hb => (by cases hb), fun b hb => (m4 b hb).2, fun b hb => (by cases hb)⟩
    show ((qList qEv (qB 0 16 q).1 (qB 0 16 q).2).1.all evOk && decide ((qList qEv (qB 0 16 q).1 (qB 0 16 q).2).1.length ≤ 16)) = true
    simp only [Bool.and_eq_true, List.all_eq_true, decide_eq_true_eq]
    exact ⟨fun b hb => (m4 b hb).1, m3⟩
  by_cases h13 : op = 13 ∨ op = 14
  · unfold qTold at h
    simp only [if_neg h57, if_neg h10, if_neg h11, if_neg h12, if_pos h13] at h
    obtain ⟨m1, m2, m3, m4⟩ := qMany_is qX pxX (fun b => pxOk b = true ∧ tyX b) (fun q h => qX_is h) (q := q) h
    unfold qTold tailB toldA mayA
    simp only [if_neg h57, if_neg h10, if_neg h11, if_neg h12, if_pos h13, List.cons_append]
    refine ⟨m1, m2, ?_, by trivial, ty_noA, by show (0:Nat) < _; decide, ty_noX, by show (0:Nat) < _; decide, fun b hb => (by cases hb), fun b hb => (by cases hb), fun b hb => (m4 b hb).2⟩
    simp only [Bool.and_eq_true, List.all_eq_true, decide_eq_true_eq]
    exact ⟨fun b hb => (m4 b hb).1, m3⟩
  by_cases h15 : op = 15
  · subst h15
    obtain ⟨n1, n2, n3⟩ := qN_is (q := q) h
    exact ⟨n1, n2, rfl, rfl, ty_noA, by show (0:Nat) < _; decide, ty_noX, n3, fun b hb => (by cases hb), fun b hb => (by cases hb), fun b hb => (by cases hb)⟩
  · unfold qTold tailB toldA mayA at *
    simp only [if_neg h57, if_neg h10, if_neg h11, if_neg h12, if_neg h13, if_neg h15, List.nil_append] at h ⊢
    exact ⟨h, trivial, trivial, trivial, ty_noAn⟩
theorem told_keep (op : Nat) (q : Qs) (h : q.2 = true) : (qTold op q).2.2 = true := by
  cases h' : (qTold op q).2.2 with
  | true => rfl
  | false => rw [(told_is h').1] at h; cases h
end Go.Proofs.YtcobfoiajdbahaaDoor.P
