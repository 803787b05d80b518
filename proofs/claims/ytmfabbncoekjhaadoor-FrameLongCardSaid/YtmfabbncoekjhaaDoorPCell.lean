/- Plain: cells of a record: which may be, their bytes, and what is read of bytes. -/
import Derived.Test.YtmfabbncoekjhaaDoorPCrc
namespace Go.Proofs.YtmfabbncoekjhaaDoor.P

structure Cell where
  first : Bool
  last : Bool
  num : Int
  data : List UInt8

def may (c : Cell) : Bool :=
  !(decide (c.num < 0) || decide (65535 < c.num) || (c.first != (c.num == 0))) &&
    (c.data.length == 24 || (decide (c.data.length < 24) && c.last && (decide (0 < c.data.length) || c.first)))

def mark (f l : Bool) : UInt8 := 64 + (if f then 1 else 0) + (if l then 2 else 0)
def headOf (c : Cell) : List UInt8 := [mark c.first c.last, byt c.data.length, byt c.num.toNat, byt (c.num.toNat / 256)]
def bodyOf (c : Cell) : List UInt8 := headOf c ++ c.data ++ List.replicate (24 - c.data.length) 0
def le32 (x : BitVec 32) : List UInt8 := [byt x.toNat, byt (x >>> 8).toNat, byt (x >>> 8 >>> 8).toNat, byt (x >>> 8 >>> 8 >>> 8).toNat]
def bytesOf (c : Cell) : List UInt8 := bodyOf c ++ le32 (crc (bodyOf c))

def sh8 : Nat → BitVec 32 → BitVec 32
  | 0, x => x
  | k + 1, x => sh8 k x >>> 8
theorem le32_length (x : BitVec 32) : (le32 x).length = 4 := rfl
theorem le32_at (x : BitVec 32) (j : Nat) (h : j < (le32 x).length) : (le32 x)[j] = byt (sh8 j x).toNat := by
  rw [le32_length] at h
  rcases j with _ | _ | _ | _ | j
  · rfl
  · rfl
  · rfl
  · rfl
  · omega
/-- The bytes while the sum goes in: j of its bytes are there. -/
def filled (b : List UInt8) (x : BitVec 32) (j : Nat) : List UInt8 := b ++ (le32 x).take j ++ List.replicate (4 - j) 0
theorem filled_length (b : List UInt8) (x : BitVec 32) (j : Nat) (hj : j ≤ 4) (hb : b.length = 28) : (filled b x j).length = 32 := by simp [filled, le32_length, hb]; omega
theorem filled_next (b : List UInt8) (x : BitVec 32) (j : Nat) (hj : j < 4) (hb : b.length = 28) : (filled b x j).set (28 + j) (byt (sh8 j x).toNat) = filled b x (j + 1) := by
  have hl : ((le32 x).take j).length = j := by rw [List.length_take, le32_length]; omega
  unfold filled
  rw [List.append_assoc, List.set_append_right (28 + j) _ (by omega), List.set_append_right _ _ (by omega), hl, hb]
  rw [show 28 + j - 28 - j = 0 by omega, show 4 - j = (4 - (j + 1)) + 1 by omega, List.replicate_succ, List.set_cons_zero]
  rw [List.take_succ_eq_append_getElem (by rw [le32_length]; omega), le32_at x j (by rw [le32_length]; omega)]
  simp
theorem filled_end (b : List UInt8) (x : BitVec 32) : filled b x 4 = b ++ le32 x := by
  unfold filled
  rw [List.take_of_length_le (by rw [le32_length]; omega)]
  simp
theorem bodyOf_length (c : Cell) (h : c.data.length ≤ 24) : (bodyOf c).length = 28 := by simp [bodyOf, headOf]; omega
theorem bytesOf_length (c : Cell) (h : c.data.length ≤ 24) : (bytesOf c).length = 32 := by simp [bytesOf, bodyOf_length c h, le32]
theorem may_len {c : Cell} (h : may c = true) : c.data.length ≤ 24 := by
  simp [may] at h; omega
theorem may_num {c : Cell} (h : may c = true) : 0 ≤ c.num ∧ c.num ≤ 65535 := by
  simp [may] at h; omega
/-- The bytes behind the copy. -/
theorem over_body (c : Cell) (h : c.data.length ≤ 24) (x : BitVec 32) :
    (headOf c ++ List.replicate 28 0).take 4 ++ c.data ++ (headOf c ++ List.replicate 28 0).drop (4 + c.data.length) = filled (bodyOf c) x 0 := by
  have h1 : (headOf c).length = 4 := rfl
  unfold filled bodyOf
  rw [List.take_left' h1, List.drop_append, List.drop_of_length_le (by omega), h1]
  simp only [List.drop_replicate, List.nil_append, List.take_zero, List.append_nil, Nat.sub_zero, List.append_assoc, List.replicate_append_replicate]
  congr 3
  omega

/-- The body while zeros are put behind it. -/
def pad (c : Cell) (k : Nat) : List UInt8 := headOf c ++ c.data ++ List.replicate k 0
theorem pad_zero (c : Cell) : headOf c ++ c.data = pad c 0 := by simp [pad]
theorem pad_length (c : Cell) (k : Nat) : (pad c k).length = 4 + c.data.length + k := by simp [pad, headOf]; omega
theorem pad_next (c : Cell) (k : Nat) : pad c k ++ [0] = pad c (k + 1) := by
  unfold pad
  rw [List.replicate_succ', ← List.append_assoc]
theorem pad_end (c : Cell) (k : Nat) (h : 4 + c.data.length + k = 28) : pad c k = bodyOf c := by
  unfold pad bodyOf
  rw [show 24 - c.data.length = k by omega]

/-! ### Reading -/
/-- Byte i of a text as a number. -/
def at_ (s : List UInt8) (i : Nat) : Nat := (s.getD i 0).toNat
theorem at_lt (s : List UInt8) (i : Nat) : at_ s i < 256 := by
  have := (s.getD i 0).toNat_lt
  unfold at_; omega
theorem at_get (s : List UInt8) (i : Nat) (h : i < s.length) : s[i].toNat = at_ s i := by
  unfold at_; rw [List.getD_eq_getElem?_getD, List.getElem?_eq_getElem h]; rfl
def candFirst (s : List UInt8) : Bool := at_ s 0 % 2 == 1
def candLast (s : List UInt8) : Bool := at_ s 0 / 2 % 2 == 1
def num2 (s : List UInt8) (i j : Nat) : Nat := at_ s i + 256 * at_ s j
def candData (s : List UInt8) : List UInt8 := (s.drop 4).take (at_ s 1)
/-- The cell that some bytes may be of. -/
def cand (s : List UInt8) : Cell := ⟨candFirst s, candLast s, (num2 s 2 3 : Int), candData s⟩
theorem candData_length (s : List UInt8) (hl : s.length = 32) (h : at_ s 1 ≤ 24) : (candData s).length = at_ s 1 := by simp [candData, hl]; omega
def zeroCell : Cell := ⟨false, false, 0, []⟩
def reads (s : List UInt8) : Bool := s.length == 32 && decide (at_ s 1 ≤ 24) && may (cand s) && (bytesOf (cand s) == s)
def read (s : List UInt8) : Cell := if reads s then cand s else zeroCell

theorem bytesOf_cons (c : Cell) : bytesOf c = mark c.first c.last :: byt c.data.length :: byt c.num.toNat :: byt (c.num.toNat / 256) :: (c.data ++ (List.replicate (24 - c.data.length) 0 ++ le32 (crc (bodyOf c)))) := by
  simp [bytesOf, bodyOf, headOf]
theorem mark_first (f l : Bool) : ((mark f l).toNat % 2 == 1) = f := by cases f <;> cases l <;> decide
theorem mark_last (f l : Bool) : ((mark f l).toNat / 2 % 2 == 1) = l := by cases f <;> cases l <;> decide

theorem cand_bytes (c : Cell) (hm : may c = true) : cand (bytesOf c) = c := by
  have hl := may_len hm
  have hn := may_num hm
  obtain ⟨f, l, n, d⟩ := c
  simp only at hl hn
  unfold cand candFirst candLast num2 candData
  have h0 : at_ (bytesOf ⟨f, l, n, d⟩) 0 = (mark f l).toNat := by rw [bytesOf_cons]; rfl
  have h1 : at_ (bytesOf ⟨f, l, n, d⟩) 1 = d.length := by
    rw [bytesOf_cons]
    show (byt d.length).toNat = _
    rw [byt_toNat]; omega
  have h2 : at_ (bytesOf ⟨f, l, n, d⟩) 2 = n.toNat % 256 := by
    rw [bytesOf_cons]
    show (byt n.toNat).toNat = _
    rw [byt_toNat]
  have h3 : at_ (bytesOf ⟨f, l, n, d⟩) 3 = n.toNat / 256 := by
    rw [bytesOf_cons]
    show (byt (n.toNat / 256)).toNat = _
    rw [byt_toNat]; omega
  have h4 : ((bytesOf ⟨f, l, n, d⟩).drop 4).take d.length = d := by
    rw [bytesOf_cons]
    show (d ++ _).take d.length = d
    simp
  rw [h0, h1, h2, h3, h4, mark_first, mark_last]
  congr 1
  omega

theorem reads_bytes (c : Cell) (hm : may c = true) : reads (bytesOf c) = true := by
  unfold reads
  have hl := may_len hm
  have h1 : at_ (bytesOf c) 1 = c.data.length := by
    rw [bytesOf_cons]
    show (byt c.data.length).toNat = _
    rw [byt_toNat]; omega
  rw [cand_bytes c hm, hm, bytesOf_length c hl, h1]
  simp [hl]
theorem read_bytes (c : Cell) (hm : may c = true) : read (bytesOf c) = c := by
  unfold read
  rw [if_pos (reads_bytes c hm), cand_bytes c hm]
theorem reads_len {s : List UInt8} (h : reads s = true) : s.length = 32 := by unfold reads at h; simp at h; omega
theorem reads_may {s : List UInt8} (h : reads s = true) : may (cand s) = true := by unfold reads at h; simp at h; exact h.1.2
theorem reads_back {s : List UInt8} (h : reads s = true) : bytesOf (cand s) = s := by unfold reads at h; simp at h; exact h.2
theorem read_is {s : List UInt8} (h : reads s = true) : read s = cand s := by unfold read; rw [if_pos h]

/-! ### Turned bytes -/
/-- Two bytes, the bits that differ (closed to simp). -/
def xb (a c : UInt8) : UInt8 := a ^^^ c
def byt32 (x : BitVec 32) : UInt8 := byt x.toNat
def mbyte (m : BitVec 32) (k : Nat) : UInt8 := byt32 (m >>> (8 * k))
/-- One byte turned. -/
def turn1 (s : List UInt8) (p : Nat) (b : UInt8) : List UInt8 := s.modify p (xb · b)
/-- k bytes turned, from place p on. -/
def trn (s : List UInt8) (p : Nat) (m : BitVec 32) : Nat → List UInt8
  | 0 => s
  | k + 1 => turn1 (trn s p m k) (p + k) (mbyte m k)
def turned (s : List UInt8) (p : Nat) (m : BitVec 32) : List UInt8 := trn s p m 4
theorem trn_length (s : List UInt8) (p : Nat) (m : BitVec 32) : ∀ k, (trn s p m k).length = s.length
  | 0 => rfl
  | k + 1 => by simp [trn, turn1, trn_length s p m k]
theorem trn_stays (s : List UInt8) (p : Nat) (m : BitVec 32) (j : Nat) (hj : s.length ≤ p + j) : ∀ k, trn s p m (j + k) = trn s p m j
  | 0 => rfl
  | k + 1 => by
    show turn1 (trn s p m (j + k)) (p + (j + k)) _ = _
    rw [trn_stays s p m j hj k]
    unfold turn1
    rw [List.modify_eq_self (by rw [trn_length]; omega)]
theorem trn_set (s : List UInt8) (p : Nat) (m : BitVec 32) (k : Nat) (h : p + k < (trn s p m k).length) : (trn s p m k).set (p + k) (xb (trn s p m k)[p + k] (mbyte m k)) = trn s p m (k + 1) := by
  show _ = (trn s p m k).modify (p + k) (xb · (mbyte m k))
  apply List.ext_getElem?
  intro i
  rw [List.getElem?_set, List.getElem?_modify]
  by_cases hi : p + k = i
  · subst hi
    simp [h]
  · simp [hi]
end Go.Proofs.YtmfabbncoekjhaaDoor.P
