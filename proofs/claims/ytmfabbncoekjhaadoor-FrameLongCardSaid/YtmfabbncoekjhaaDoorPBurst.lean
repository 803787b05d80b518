/- Plain law: a cell's bytes of which four side by side are turned are no cell's. -/
import Derived.Test.YtmfabbncoekjhaaDoorPCell
namespace Go.Proofs.YtmfabbncoekjhaaDoor.P

theorem low8 (y : BitVec 32) : y ^^^ wd (byt y.toNat) = (y >>> 8) <<< 8 := by
  apply BitVec.eq_of_getLsbD_eq
  intro i hi
  rw [BitVec.getLsbD_xor, BitVec.getLsbD_shiftLeft]
  have hw : (wd (byt y.toNat)).getLsbD i = (decide (i < 8) && y.getLsbD i) := by
    have e : (wd (byt y.toNat)).toNat = y.toNat % 2 ^ 8 := by rw [wd_toNat, byt_toNat]
    show (wd (byt y.toNat)).toNat.testBit i = _
    rw [e, Nat.testBit_mod_two_pow]
    rfl
  rw [hw]
  by_cases h8 : i < 8
  · simp [h8]
  · rw [BitVec.getLsbD_ushiftRight]
    have : 8 + (i - 8) = i := by omega
    simp [h8, hi, this]

theorem shr8_lt (y : BitVec 32) : (y >>> 8).toNat < 2 ^ 24 := by
  rw [BitVec.toNat_ushiftRight, Nat.shiftRight_eq_div_pow]
  have := y.isLt
  omega
theorem feed (y c : BitVec 32) : crcByte (y ^^^ c) (byt y.toNat) = (y >>> 8) ^^^ st8 c := by
  unfold crcByte
  have h : y ^^^ c ^^^ wd (byt y.toNat) = ((y >>> 8) <<< 8) ^^^ c := by
    rw [← low8]
    ac_rfl
  rw [h, st8_xor, st8_shl _ (shr8_lt y)]

def resid : BitVec 32 := st8 (st8 (st8 (st8 (~~~ 0#32))))
theorem feed4 (r : BitVec 32) : crcOn r (le32 (~~~ r)) = resid := by
  have hr : r = (~~~ r) ^^^ (~~~ 0#32) := by
    have e : (~~~ 0#32 : BitVec 32) = BitVec.allOnes 32 := by decide
    rw [e, BitVec.xor_allOnes, BitVec.not_not]
  have h1 : crcByte r (byt (~~~ r).toNat) = ((~~~ r) >>> 8) ^^^ st8 (~~~ 0#32) := by
    conv => lhs; arg 1; rw [hr]
    exact feed (~~~ r) (~~~ 0#32)
  show crcByte (crcByte (crcByte (crcByte r (byt (~~~ r).toNat)) (byt ((~~~ r) >>> 8).toNat)) (byt ((~~~ r) >>> 8 >>> 8).toNat)) (byt ((~~~ r) >>> 8 >>> 8 >>> 8).toNat) = resid
  rw [h1, feed, feed, feed]
  have hz : (~~~ r) >>> 8 >>> 8 >>> 8 >>> 8 = 0#32 := by
    apply BitVec.eq_of_toNat_eq
    simp only [BitVec.toNat_ushiftRight, Nat.shiftRight_eq_div_pow]
    have := (~~~ r).isLt
    have h0 : (0#32 : BitVec 32).toNat = 0 := rfl
    rw [h0]
    omega
  rw [hz, BitVec.zero_xor]
  rfl

/-- A whole cell sums up to one and the same. -/
theorem crc_cell {s : List UInt8} (h : reads s = true) : crc s = ~~~ resid := by
  have hb := reads_back h
  rw [← hb]
  show ~~~ (crcRaw (bytesOf (cand s))) = _
  have e : bytesOf (cand s) = bodyOf (cand s) ++ le32 (~~~ (crcRaw (bodyOf (cand s)))) := rfl
  rw [e, crcRaw_append, feed4]

theorem trn_get (s : List UInt8) (p : Nat) (m : BitVec 32) (i : Nat) : ∀ k, k ≤ 4 → (i < p ∨ p + 4 ≤ i) → (trn s p m k)[i]? = s[i]?
  | 0, _, _ => rfl
  | k + 1, hk, hi => by
    show ((trn s p m k).modify (p + k) _)[i]? = _
    have hne : p + k ≠ i := by omega
    rw [List.getElem?_modify, ← trn_get s p m i k (by omega) hi]
    simp [hne]

theorem turned_length (s : List UInt8) (p : Nat) (m : BitVec 32) : (turned s p m).length = s.length := trn_length s p m 4

theorem turned_parts (s : List UInt8) (p : Nat) (m : BitVec 32) :
    s = s.take p ++ (s.drop p).take 4 ++ s.drop (p + 4) ∧ turned s p m = s.take p ++ ((turned s p m).drop p).take 4 ++ s.drop (p + 4) := by
  have hsplit : ∀ l : List UInt8, l = l.take p ++ (l.drop p).take 4 ++ l.drop (p + 4) := fun l => by
    rw [List.append_assoc, ← List.drop_drop, List.take_append_drop, List.take_append_drop]
  refine ⟨hsplit s, ?_⟩
  have h1 : (turned s p m).take p = s.take p := by
    apply List.ext_getElem?
    intro i
    rw [List.getElem?_take, List.getElem?_take]
    split
    · exact trn_get s p m i 4 (by omega) (by omega)
    · rfl
  have h2 : (turned s p m).drop (p + 4) = s.drop (p + 4) := by
    apply List.ext_getElem?
    intro i
    rw [List.getElem?_drop, List.getElem?_drop]
    exact trn_get s p m _ 4 (by omega) (by omega)
  have h := hsplit (turned s p m)
  rw [h1, h2] at h
  exact h

/-- Unlike texts out of a turn have unlike sums. -/
theorem turned_crc (s : List UInt8) (p : Nat) (m : BitVec 32) (h : crc s = crc (turned s p m)) : s = turned s p m := by
  obtain ⟨h1, h2⟩ := turned_parts s p m
  have hl : ((s.drop p).take 4).length = (((turned s p m).drop p).take 4).length := by
    simp [turned_length]
  have hw := burst (s.take p) ((s.drop p).take 4) (((turned s p m).drop p).take 4) (s.drop (p + 4)) hl (by simp; omega) (by rw [← h1, ← h2]; exact h)
  rw [← hw] at h2
  exact h1.trans h2.symm

/-- The stage's theorem. -/
theorem turned_reads (s : List UInt8) (p : Nat) (m : BitVec 32) (hs : reads s = true) : reads (turned s p m) = (s == turned s p m) := by
  rw [Bool.eq_iff_iff, beq_iff_eq]
  constructor
  · intro ht
    exact turned_crc s p m (by rw [crc_cell hs, crc_cell ht])
  · intro h
    rw [← h]
    exact hs
end Go.Proofs.YtmfabbncoekjhaaDoor.P
