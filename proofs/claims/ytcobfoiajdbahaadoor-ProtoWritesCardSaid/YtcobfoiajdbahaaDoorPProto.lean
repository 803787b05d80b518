/- Plain law of layer 26: addresses, prefixes, calls, their bytes, and reading with a flag that stays. -/
import Derived.Test.YtcobfoiajdbahaaDoorPText
namespace Go.Proofs.YtcobfoiajdbahaaDoor.P
set_option linter.unusedVariables false
set_option linter.unusedSimpArgs false

structure Ad where
  fam : Nat
  hi : Nat
  lo : Nat
deriving DecidableEq
structure Px where
  a : Ad
  bits : Int
deriving DecidableEq
structure Ca where
  op : Nat
  client : Nat
  number : Nat
  p : Px
  a : Ad
  owner : List UInt8
  to : List UInt8
  d : Nat
  fr : Nat
  n : Int
deriving DecidableEq
def noA : Ad := ⟨0, 0, 0⟩
def noX : Px := ⟨noA, 0⟩
def noC : Ca := ⟨0, 0, 0, noX, noA, [], [], 0, 0, 0⟩
def tyA (a : Ad) : Prop := a.fam < 256 ∧ a.hi < 18446744073709551616 ∧ a.lo < 18446744073709551616
def tyX (p : Px) : Prop := tyA p.a ∧ -9223372036854775808 ≤ p.bits ∧ p.bits ≤ 9223372036854775807
def tyC (c : Ca) : Prop := c.op < 256 ∧ c.client < 256 ∧ c.number < 18446744073709551616 ∧ tyX c.p ∧ tyA c.a ∧ c.d < 18446744073709551616 ∧ c.fr < 18446744073709551616 ∧ -9223372036854775808 ≤ c.n ∧ c.n ≤ 9223372036854775807

/-! ### What may be -/
def adOk (a : Ad) : Bool := decide (a.fam = 6) || (decide (a.fam = 4) && (decide (a.hi = 0) && decide (a.lo < 4294967296)))
def wid (fam : Nat) : Nat := if fam = 4 then 32 else 128
def adNum (a : Ad) : Nat := a.hi * 18446744073709551616 + a.lo
def pxOk (p : Px) : Bool := adOk p.a && (decide (0 ≤ p.bits ∧ p.bits ≤ (wid p.a.fam : Int)) && decide (adNum p.a % 2 ^ (wid p.a.fam - p.bits.toNat) = 0))
def nameOk (s : List UInt8) : Bool := decide (1 ≤ s.length ∧ s.length ≤ 32)
/-- Which fields an Op uses. -/
def usesL : List Nat := [0, 1, 1, 1, 1, 22, 21, 22, 6, 14, 2, 67, 98, 65, 65, 0]
def uses (op : Nat) : Nat := usesL.getD op 0
def use (op i : Nat) : Bool := (uses op / 2 ^ i) % 2 == 1
def knownB (op : Nat) : Bool := decide (1 ≤ op ∧ op ≤ 15)
/-- Is a field of a call right, where it is used; is it zero, where it is not? -/
def fOk (c : Ca) : Nat → Bool
  | 0 => pxOk c.p
  | 1 => adOk c.a
  | 2 => nameOk c.owner
  | 3 => nameOk c.to
  | 4 => decide (1 ≤ c.d)
  | 5 => true
  | 6 => decide (1 ≤ c.n ∧ c.n ≤ 16)
  | _ => true
def fZero (c : Ca) : Nat → Bool
  | 0 => decide (c.p = noX)
  | 1 => decide (c.a = noA)
  | 2 => decide (c.owner = [])
  | 3 => decide (c.to = [])
  | 4 => decide (c.d = 0)
  | 5 => decide (c.fr = 0)
  | 6 => decide (c.n = 0)
  | _ => true
def fRight (c : Ca) (i : Nat) : Bool := if use c.op i then fOk c i else fZero c i
def rightC (c : Ca) : Bool := knownB c.op && ((List.range 7).all (fRight c) && (decide (c.op ≠ 11) || decide (c.a.fam = c.p.a.fam)))

/-! ### Bytes -/
def byI (n : Int) : UInt8 := byt (n % 256).toNat
def adB (a : Ad) : List UInt8 := if adOk a then (if a.fam = 4 then be 4 a.lo else be 8 a.hi ++ be 8 a.lo) else []
def adX (a : Ad) : List UInt8 := byt a.fam :: adB a
def pxX (p : Px) : List UInt8 := adX p.a ++ [byI p.bits]
def txB (s : List UInt8) : List UInt8 := row s.length ++ s
def headB (op client number : Nat) : List UInt8 := byt op :: byt client :: be 8 number
def fB (c : Ca) : Nat → List UInt8
  | 0 => pxX c.p
  | 1 => adX c.a
  | 2 => txB c.owner
  | 3 => txB c.to
  | 4 => row c.d
  | 5 => row c.fr
  | 6 => [byI c.n]
  | _ => []
/-- The bytes of the fields from the i-th on, of k of them. -/
def fsB (c : Ca) : Nat → Nat → List UInt8
  | _, 0 => []
  | i, k + 1 => (if use c.op i then fB c i else []) ++ fsB c (i + 1) k
def bytesC (c : Ca) : List UInt8 := headB c.op c.client c.number ++ fsB c 0 7
theorem fsB_snoc (c : Ca) : ∀ (k i : Nat), fsB c i (k + 1) = fsB c i k ++ (if use c.op (i + k) then fB c (i + k) else [])
  | 0, i => by simp [fsB]
  | k + 1, i => by
    have h := fsB_snoc c k (i + 1)
    rw [show i + 1 + k = i + (k + 1) by omega] at h
    show (if use c.op i then fB c i else []) ++ fsB c (i + 1) (k + 1) = _
    rw [h, ← List.append_assoc]
    rfl

/-! ### Reading with a flag -/
abbrev Qs := List UInt8 × Bool
def qN (q : Qs) : Nat × Qs := (rNum q.1, if q.2 = false ∧ rOk q.1 = true then (q.1.drop (rSize q.1), false) else (q.1, true))
def qP (n : Nat) (q : Qs) : List UInt8 × Qs := if q.2 = false ∧ n ≤ q.1.length then (q.1.take n, (q.1.drop n, false)) else ([], (q.1, true))
def qB (lo hi : Nat) (q : Qs) : Nat × Qs := if q.2 = false ∧ 1 ≤ q.1.length then (if lo ≤ at_ q.1 0 ∧ at_ q.1 0 ≤ hi then (at_ q.1 0, (q.1.drop 1, false)) else (0, (q.1.drop 1, true))) else (0, (q.1, true))
def qO (q : Qs) : List UInt8 × Qs := (tText q.1 32, if q.2 = false ∧ tOk q.1 32 = true ∧ tText q.1 32 ≠ [] then (q.1.drop (tSize q.1 32), false) else (q.1, true))
def fromB (fam : Nat) (s : List UInt8) : Ad × Bool := if fam = 4 ∧ s.length = 4 then (⟨4, 0, val s⟩, true) else if fam = 6 ∧ s.length = 16 then (⟨6, val (s.take 8), val (s.drop 8)⟩, true) else (noA, false)
def qA (q : Qs) : Ad × Qs :=
  let f := qB 4 6 q
  let s := qP (if f.1 = 6 then 16 else 4) f.2
  ((fromB f.1 s.1).1, (s.2.1, s.2.2 || !(fromB f.1 s.1).2))
def qX (q : Qs) : Px × Qs :=
  let a := qA q
  let b := qB 0 255 a.2
  (⟨a.1, (b.1 : Int)⟩, (b.2.1, b.2.2 || !pxOk ⟨a.1, (b.1 : Int)⟩))
def qH (q : Qs) : (Nat × Nat × Nat) × Qs :=
  let o := qB 0 255 q
  let c := qB 0 255 o.2
  let s := qP 8 c.2
  ((o.1, c.1, bigNum s.1 8), s.2)
/-- One field is read into a call. -/
def qF (c : Ca) (q : Qs) : Nat → Ca × Qs
  | 0 => ({ c with p := (qX q).1 }, (qX q).2)
  | 1 => ({ c with a := (qA q).1 }, (qA q).2)
  | 2 => ({ c with owner := (qO q).1 }, (qO q).2)
  | 3 => ({ c with to := (qO q).1 }, (qO q).2)
  | 4 => ({ c with d := (qN q).1 }, (qN q).2)
  | 5 => ({ c with fr := (qN q).1 }, (qN q).2)
  | 6 => ({ c with n := ((qB 1 16 q).1 : Int) }, (qB 1 16 q).2)
  | _ => (c, q)
def qStep (op : Nat) (r : Ca × Qs) (i : Nat) : Ca × Qs := if use op i then qF r.1 r.2 i else r
/-- The first k fields. -/
def qFs (op : Nat) (r : Ca × Qs) (k : Nat) : Ca × Qs := (List.range k).foldl (qStep op) r
theorem qFs_succ (op : Nat) (r : Ca × Qs) (k : Nat) : qFs op r (k + 1) = qStep op (qFs op r k) k := by
  unfold qFs
  rw [List.range_succ, List.foldl_append]
  rfl
def headC (h : Nat × Nat × Nat) : Ca := ⟨h.1, h.2.1, h.2.2, noX, noA, [], [], 0, 0, 0⟩
def readQ (s : List UInt8) : Ca × Qs := qFs (qH (s, false)).1.1 (headC (qH (s, false)).1, (qH (s, false)).2) 7
def readOk (s : List UInt8) : Bool := (!(qH (s, false)).2.2 && knownB (qH (s, false)).1.1) && (!(readQ s).2.2 && (decide ((readQ s).2.1 = []) && rightC (readQ s).1))
def readC (s : List UInt8) : Ca := if readOk s then (readQ s).1 else noC

/-! ### What is written is read; what is read is what was written -/
theorem qN_row (n : Nat) (h : n < 18446744073709551616) (x : List UInt8) : qN (row n ++ x, false) = (n, (x, false)) := by
  obtain ⟨h1, h2, h3⟩ := read_row n h x
  unfold qN
  simp only [h1, h2, h3, List.drop_left, and_self, if_true]
theorem qN_is {q : Qs} (h : (qN q).2.2 = false) : q.2 = false ∧ q.1 = row (qN q).1 ++ (qN q).2.1 ∧ (qN q).1 < 18446744073709551616 := by
  unfold qN at *
  by_cases hc : q.2 = false ∧ rOk q.1 = true
  · obtain ⟨h1, h2, h3, h4⟩ := row_read q.1 hc.2
    simp only [if_pos hc]
    exact ⟨hc.1, by rw [h3, List.take_append_drop], h4⟩
  · rw [if_neg hc] at h; cases h
theorem qP_app (l x : List UInt8) (n : Nat) (hn : l.length = n) : qP n (l ++ x, false) = (l, (x, false)) := by
  subst hn
  unfold qP
  rw [if_pos ⟨rfl, by simp⟩]
  simp
theorem qP_is {n : Nat} {q : Qs} (h : (qP n q).2.2 = false) : q.2 = false ∧ q.1 = (qP n q).1 ++ (qP n q).2.1 ∧ (qP n q).1.length = n := by
  unfold qP at *
  by_cases hc : q.2 = false ∧ n ≤ q.1.length
  · rw [if_pos hc]
    exact ⟨hc.1, by simp, by simp; omega⟩
  · rw [if_neg hc] at h; cases h
theorem qB_app (lo hi n : Nat) (h1 : lo ≤ n) (h2 : n ≤ hi) (h3 : n < 256) (x : List UInt8) : qB lo hi (byt n :: x, false) = (n, (x, false)) := by
  have h : at_ (byt n :: x) 0 = n := by show (byt n).toNat = n; rw [byt_toNat]; omega
  unfold qB
  rw [if_pos ⟨rfl, by simp⟩]
  simp only [h]
  rw [if_pos ⟨h1, h2⟩]
  rfl
theorem qB_is {lo hi : Nat} {q : Qs} (h : (qB lo hi q).2.2 = false) : q.2 = false ∧ q.1 = byt (qB lo hi q).1 :: (qB lo hi q).2.1 ∧ lo ≤ (qB lo hi q).1 ∧ (qB lo hi q).1 ≤ hi ∧ (qB lo hi q).1 < 256 := by
  unfold qB at *
  by_cases hc : q.2 = false ∧ 1 ≤ q.1.length
  · rw [if_pos hc] at h ⊢
    by_cases hd : lo ≤ at_ q.1 0 ∧ at_ q.1 0 ≤ hi
    · rw [if_pos hd]
      refine ⟨hc.1, ?_, hd.1, hd.2, at_lt _ _⟩
      obtain ⟨s, b⟩ := q
      cases s with
      | nil => simp at hc
      | cons c t =>
        show c :: t = byt c.toNat :: t
        rw [byt_eq]
    · rw [if_neg hd] at h; cases h
  · rw [if_neg hc] at h; cases h
theorem tx_read (s x : List UInt8) (h : s.length ≤ 32) : tOk (txB s ++ x) 32 = true ∧ tText (txB s ++ x) 32 = s ∧ tSize (txB s ++ x) 32 = (txB s).length := by
  obtain ⟨h1, h2, h3⟩ := read_row s.length (by omega) (s ++ x)
  have e : txB s ++ x = row s.length ++ (s ++ x) := by simp [txB]
  have ho : tOk (txB s ++ x) 32 = true := by
    rw [e]
    unfold tOk
    rw [h1, h2, h3]
    simp only [Bool.true_and, decide_eq_true_eq, List.length_append]
    omega
  refine ⟨ho, ?_, ?_⟩
  · unfold tText
    rw [if_pos ho, e, h2, h3, List.drop_left, List.take_left]
  · unfold tSize
    rw [if_pos ho, e, h2, h3]
    simp [txB]
theorem qO_app (s x : List UInt8) (h : nameOk s = true) : qO (txB s ++ x, false) = (s, (x, false)) := by
  unfold nameOk at h
  simp only [decide_eq_true_eq] at h
  obtain ⟨h1, h2, h3⟩ := tx_read s x h.2
  unfold qO
  simp only [h1, h2, h3, List.drop_left]
  rw [if_pos (by simp only [true_and]; intro e; rw [e] at h; simp at h)]
theorem qO_is {q : Qs} (h : (qO q).2.2 = false) : q.2 = false ∧ q.1 = txB (qO q).1 ++ (qO q).2.1 ∧ nameOk (qO q).1 = true := by
  unfold qO at *
  by_cases hc : q.2 = false ∧ tOk q.1 32 = true ∧ tText q.1 32 ≠ []
  · simp only [if_pos hc]
    obtain ⟨hb, ho, hne⟩ := hc
    have ho' := ho
    unfold tOk at ho'
    simp only [Bool.and_eq_true, decide_eq_true_eq] at ho'
    obtain ⟨r1, -, r2, r3⟩ := ho'
    obtain ⟨h1, h2, h3, h4⟩ := row_read q.1 r1
    have hl : (tText q.1 32).length = rNum q.1 := by unfold tText; rw [if_pos ho, List.length_take, List.length_drop]; omega
    refine ⟨hb, ?_, ?_⟩
    · unfold txB
      rw [hl, h3]
      unfold tText tSize
      rw [if_pos ho, if_pos ho]
      conv => lhs; rw [← List.take_append_drop (rSize q.1) q.1, ← List.take_append_drop (rNum q.1) (q.1.drop (rSize q.1))]
      rw [List.drop_drop, List.append_assoc]
    · unfold nameOk
      rw [hl]
      have : 0 < (tText q.1 32).length := List.length_pos_iff.2 hne
      simp only [decide_eq_true_eq]
      omega
  · simp only [if_neg hc] at h; cases h
theorem adOk_cases {a : Ad} (h : adOk a = true) : (a.fam = 6) ∨ (a.fam = 4 ∧ a.hi = 0 ∧ a.lo < 4294967296) := by
  unfold adOk at h
  simpa only [Bool.or_eq_true, Bool.and_eq_true, decide_eq_true_eq] using h
theorem adB_four {a : Ad} (h : adOk a = true) (hf : a.fam = 4) : adB a = be 4 a.lo := by unfold adB; rw [if_pos h, if_pos hf]
theorem adB_six {a : Ad} (h : adOk a = true) (hf : a.fam = 6) : adB a = be 8 a.hi ++ be 8 a.lo := by unfold adB; rw [if_pos h, if_neg (by omega)]
theorem fromB_adB {a : Ad} (h : adOk a = true) (ht : tyA a) : fromB a.fam (adB a) = (a, true) := by
  obtain ⟨fam, hi, lo⟩ := a
  obtain ⟨h1, h2, h3⟩ := ht
  simp only at h1 h2 h3
  rcases adOk_cases h with hf | ⟨hf, hh, hl⟩
  · rw [adB_six h hf]
    simp only at hf
    subst hf
    unfold fromB
    rw [if_neg (by simp), if_pos ⟨rfl, by simp [be_length]⟩]
    rw [show (be 8 hi ++ be 8 lo).take 8 = be 8 hi by rw [List.take_append_of_le_length (by simp [be_length]), List.take_of_length_le (by simp [be_length])], show (be 8 hi ++ be 8 lo).drop 8 = be 8 lo by rw [List.drop_append_of_le_length (by simp [be_length]), List.drop_of_length_le (by simp [be_length])]; rfl, val_be, val_be, Nat.mod_eq_of_lt (by omega), Nat.mod_eq_of_lt (by omega)]
  · rw [adB_four h hf]
    simp only at hf hh hl
    subst hf hh
    unfold fromB
    rw [if_pos ⟨rfl, by simp [be_length]⟩, val_be, Nat.mod_eq_of_lt (by omega)]
theorem fromB_is {fam : Nat} {s : List UInt8} (h : (fromB fam s).2 = true) : (fromB fam s).1.fam = fam ∧ adOk (fromB fam s).1 = true ∧ tyA (fromB fam s).1 ∧ adB (fromB fam s).1 = s := by
  unfold fromB at *
  by_cases h4 : fam = 4 ∧ s.length = 4
  · rw [if_pos h4]
    have hv : val s < 4294967296 := by have := val_lt s; rw [h4.2] at this; exact this
    have ho : adOk ⟨4, 0, val s⟩ = true := by unfold adOk; simp [hv]
    refine ⟨h4.1.symm, ho, ⟨by simp, by simp, by simp only; omega⟩, ?_⟩
    rw [adB_four ho rfl]
    have := be_val s
    rw [h4.2] at this
    exact this
  · rw [if_neg h4] at h ⊢
    by_cases h6 : fam = 6 ∧ s.length = 16
    · rw [if_pos h6]
      have e1 : (s.take 8).length = 8 := by rw [List.length_take]; omega
      have e2 : (s.drop 8).length = 8 := by rw [List.length_drop]; omega
      have ho : adOk ⟨6, val (s.take 8), val (s.drop 8)⟩ = true := rfl
      refine ⟨h6.1.symm, ho, ⟨by simp, val_lt8 _ (by omega), val_lt8 _ (by omega)⟩, ?_⟩
      rw [adB_six ho rfl]
      have b1 := be_val (s.take 8)
      have b2 := be_val (s.drop 8)
      rw [e1] at b1
      rw [e2] at b2
      simp only
      rw [b1, b2, List.take_append_drop]
    · rw [if_neg h6] at h; cases h
theorem adB_len {a : Ad} (h : adOk a = true) : (adB a).length = if a.fam = 6 then 16 else 4 := by
  rcases adOk_cases h with hf | ⟨hf, hh, hl⟩
  · rw [adB_six h hf, if_pos hf]; simp [be_length]
  · rw [adB_four h hf, if_neg (by omega)]; simp [be_length]
theorem qA_app (a : Ad) (x : List UInt8) (h : adOk a = true) (ht : tyA a) : qA (adX a ++ x, false) = (a, (x, false)) := by
  have hf : 4 ≤ a.fam ∧ a.fam ≤ 6 := by rcases adOk_cases h with hf | ⟨hf, _⟩ <;> omega
  have e1 : qB 4 6 (adX a ++ x, false) = (a.fam, (adB a ++ x, false)) := qB_app 4 6 a.fam hf.1 hf.2 (by omega) (adB a ++ x)
  have e2 := qP_app (adB a) x _ (adB_len h)
  unfold qA
  simp only [e1, e2, fromB_adB h ht]
  rfl
theorem qA_is {q : Qs} (h : (qA q).2.2 = false) : q.2 = false ∧ q.1 = adX (qA q).1 ++ (qA q).2.1 ∧ adOk (qA q).1 = true ∧ tyA (qA q).1 := by
  unfold qA at *
  simp only [Bool.or_eq_false_iff, Bool.not_eq_false'] at h ⊢
  obtain ⟨h1, h2⟩ := h
  obtain ⟨p1, p2, p3⟩ := qP_is h1
  obtain ⟨b1, b2, b3⟩ := qB_is p1
  obtain ⟨f1, f2, f3, f4⟩ := fromB_is h2
  refine ⟨b1, ?_, f2, f3⟩
  rw [adX, f1, f4, b2, List.cons_append, ← p2]
theorem byI_nat (n : Nat) (h : n < 256) : byI (n : Int) = byt n := by
  unfold byI
  congr 1
  omega
theorem qX_app (p : Px) (x : List UInt8) (h : pxOk p = true) (ht : tyX p) : qX (pxX p ++ x, false) = (p, (x, false)) := by
  have ho := h
  unfold pxOk at ho
  simp only [Bool.and_eq_true, decide_eq_true_eq] at ho
  obtain ⟨ha, ⟨hb0, hb1⟩, _⟩ := ho
  have hb2 : p.bits ≤ 128 := by unfold wid at hb1; split at hb1 <;> omega
  obtain ⟨b, hb⟩ : ∃ b : Nat, p.bits = (b : Int) := ⟨p.bits.toNat, by omega⟩
  have e1 := qA_app p.a (byI p.bits :: x) ha ht.1
  have e2 : qB 0 255 (byI p.bits :: x, false) = (b, (x, false)) := by rw [hb, byI_nat b (by omega)]; exact qB_app 0 255 b (by omega) (by omega) (by omega) x
  unfold qX
  rw [show pxX p ++ x = adX p.a ++ byI p.bits :: x by simp [pxX]]
  simp only [e1, e2]
  rw [← hb, h]
  rfl
theorem qX_is {q : Qs} (h : (qX q).2.2 = false) : q.2 = false ∧ q.1 = pxX (qX q).1 ++ (qX q).2.1 ∧ pxOk (qX q).1 = true ∧ tyX (qX q).1 := by
  unfold qX at *
  simp only [Bool.or_eq_false_iff, Bool.not_eq_false'] at h ⊢
  obtain ⟨h1, h2⟩ := h
  obtain ⟨b1, b2, b3, b4, b5⟩ := qB_is h1
  obtain ⟨a1, a2, a3, a4⟩ := qA_is b1
  refine ⟨a1, ?_, h2, a4, by simp only; omega, by simp only; omega⟩
  rw [pxX, byI_nat _ b5, a2, b2]
  simp
theorem bigNum_be (n : Nat) (h : n < 18446744073709551616) : bigNum (be 8 n) 8 = n := by
  unfold bigNum bigOk
  rw [if_pos (by simp [be_length])]
  rw [show (8 : Int).toNat = 8 from rfl, List.take_of_length_le (by simp [be_length]), val_be, Nat.mod_eq_of_lt (by omega)]
theorem be_bigNum {s : List UInt8} (h : s.length = 8) : be 8 (bigNum s 8) = s ∧ bigNum s 8 < 18446744073709551616 := by
  unfold bigNum bigOk
  rw [if_pos (by simp [h]), show (8 : Int).toNat = 8 from rfl, List.take_of_length_le (by omega)]
  have := be_val s
  rw [h] at this
  exact ⟨this, val_lt8 s (by omega)⟩
theorem qH_app (op cl nu : Nat) (h1 : op < 256) (h2 : cl < 256) (h3 : nu < 18446744073709551616) (x : List UInt8) : qH (headB op cl nu ++ x, false) = ((op, cl, nu), (x, false)) := by
  have e1 : qB 0 255 (headB op cl nu ++ x, false) = (op, (byt cl :: (be 8 nu ++ x), false)) := qB_app 0 255 op (by omega) (by omega) h1 _
  have e2 : qB 0 255 (byt cl :: (be 8 nu ++ x), false) = (cl, (be 8 nu ++ x, false)) := qB_app 0 255 cl (by omega) (by omega) h2 _
  have e3 := qP_app (be 8 nu) x 8 (be_length 8 nu)
  unfold qH
  simp only [e1, e2, e3, bigNum_be nu h3]
theorem qH_is {q : Qs} (h : (qH q).2.2 = false) : q.2 = false ∧ q.1 = headB (qH q).1.1 (qH q).1.2.1 (qH q).1.2.2 ++ (qH q).2.1 ∧ (qH q).1.1 < 256 ∧ (qH q).1.2.1 < 256 ∧ (qH q).1.2.2 < 18446744073709551616 := by
  unfold qH at *
  simp only at h ⊢
  obtain ⟨p1, p2, p3⟩ := qP_is h
  obtain ⟨c1, c2, c3, c4, c5⟩ := qB_is p1
  obtain ⟨b1, b2, b3, b4, b5⟩ := qB_is c1
  obtain ⟨e1, e2⟩ := be_bigNum p3
  refine ⟨b1, ?_, b5, c5, e2⟩
  rw [b2, c2]
  unfold headB
  rw [e1]
  simp only [List.cons_append, ← p2]
end Go.Proofs.YtcobfoiajdbahaaDoor.P
