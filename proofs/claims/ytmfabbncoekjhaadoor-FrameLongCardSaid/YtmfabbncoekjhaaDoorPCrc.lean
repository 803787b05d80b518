/- Plain law: the nibble table step is four bit steps, the sum is linear, and a burst of four bytes changes it. No program here. -/
import Derived.Below
namespace Go.Proofs.YtmfabbncoekjhaaDoor.P

/-- One bit step. -/
def st (r : BitVec 32) : BitVec 32 := (r >>> 1) ^^^ (if r.getLsbD 0 then 0xedb88320#32 else 0#32)
def st4 (r : BitVec 32) : BitVec 32 := st (st (st (st r)))
def st8 (r : BitVec 32) : BitVec 32 := st4 (st4 r)

theorem st_xor (a b : BitVec 32) : st (a ^^^ b) = st a ^^^ st b := by
  unfold st
  have h : (a ^^^ b).getLsbD 0 = (a.getLsbD 0 ^^ b.getLsbD 0) := BitVec.getLsbD_xor
  rw [h, BitVec.ushiftRight_xor_distrib]
  have key : ∀ u v p : BitVec 32, u ^^^ v = u ^^^ p ^^^ (v ^^^ p) := by
    intro u v p
    apply BitVec.eq_of_getLsbD_eq
    intro i _
    simp only [BitVec.getLsbD_xor]
    cases u.getLsbD i <;> cases v.getLsbD i <;> cases p.getLsbD i <;> rfl
  cases a.getLsbD 0 <;> cases b.getLsbD 0
  · simp
  · simp; ac_rfl
  · simp; ac_rfl
  · simpa using key _ _ _

theorem st4_xor (a b : BitVec 32) : st4 (a ^^^ b) = st4 a ^^^ st4 b := by unfold st4; simp only [st_xor]
theorem st8_xor (a b : BitVec 32) : st8 (a ^^^ b) = st8 a ^^^ st8 b := by unfold st8; simp only [st4_xor]

theorem st_even (x : BitVec 32) (h : x.getLsbD 0 = false) : st x = x >>> 1 := by
  unfold st; rw [h]; simp

theorem st4_hi (x : BitVec 32) (h : ∀ i, i < 4 → x.getLsbD i = false) : st4 x = x >>> 4 := by
  have e1 : st x = x >>> 1 := st_even x (h 0 (by omega))
  have e2 : st (x >>> 1) = (x >>> 1) >>> 1 := st_even _ (by rw [BitVec.getLsbD_ushiftRight]; exact h 1 (by omega))
  have e3 : st ((x >>> 1) >>> 1) = ((x >>> 1) >>> 1) >>> 1 := st_even _ (by simp only [BitVec.getLsbD_ushiftRight]; exact h 2 (by omega))
  have e4 : st (((x >>> 1) >>> 1) >>> 1) = (((x >>> 1) >>> 1) >>> 1) >>> 1 := st_even _ (by simp only [BitVec.getLsbD_ushiftRight]; exact h 3 (by omega))
  unfold st4
  rw [e1, e2, e3, e4]
  simp only [← BitVec.shiftRight_add]

/-- The nibble table. -/
def tab : List (BitVec 32) := [0x00000000#32, 0x1db71064#32, 0x3b6e20c8#32, 0x26d930ac#32, 0x76dc4190#32, 0x6b6b51f4#32, 0x4db26158#32, 0x5005713c#32,
  0xedb88320#32, 0xf00f9344#32, 0xd6d6a3e8#32, 0xcb61b38c#32, 0x9b64c2b0#32, 0x86d3d2d4#32, 0xa00ae278#32, 0xbdbdf21c#32]
def tabAt (i : Nat) : BitVec 32 := tab.getD i 0#32

theorem st4_lo : ∀ i : Fin 16, st4 (BitVec.ofNat 32 i.val) = tabAt i.val := by decide

theorem and15_toNat (x : BitVec 32) : (x &&& 15#32).toNat = x.toNat % 16 := by
  rw [BitVec.toNat_and]
  have : (15#32 : BitVec 32).toNat = 2 ^ 4 - 1 := rfl
  rw [this, Nat.and_two_pow_sub_one_eq_mod]

theorem split15 (x : BitVec 32) : x = (x &&& 15#32) ^^^ (x &&& ~~~15#32) := by
  apply BitVec.eq_of_getLsbD_eq
  intro i hi
  simp only [BitVec.getLsbD_xor, BitVec.getLsbD_and, BitVec.getLsbD_not, hi, decide_true, Bool.true_and]
  cases x.getLsbD i <;> cases (15#32 : BitVec 32).getLsbD i <;> rfl

theorem hi15 (x : BitVec 32) : ∀ i, i < 4 → (x &&& ~~~15#32).getLsbD i = false := by
  intro i hi
  have h : (15#32 : BitVec 32).getLsbD i = true := by
    rcases i with _ | _ | _ | _ | i <;> first | rfl | omega
  rw [BitVec.getLsbD_and, BitVec.getLsbD_not, h]
  simp

theorem sh15 (x : BitVec 32) : (x &&& ~~~15#32) >>> 4 = x >>> 4 := by
  apply BitVec.eq_of_getLsbD_eq
  intro i hi
  simp only [BitVec.getLsbD_ushiftRight, BitVec.getLsbD_and, BitVec.getLsbD_not]
  by_cases h : 4 + i < 32
  · have h15 : (15#32 : BitVec 32).getLsbD (4 + i) = false := by
      have : (15#32 : BitVec 32).getLsbD (4 + i) = Nat.testBit 15 (4 + i) := by
        simp [BitVec.getLsbD]
      rw [this]
      apply Nat.testBit_lt_two_pow
      have : 2 ^ 4 ≤ 2 ^ (4 + i) := Nat.pow_le_pow_right (by omega) (by omega)
      omega
    rw [h15]; simp [h]
  · simp [h, BitVec.getLsbD_of_ge x (4 + i) (by omega)]

/-- The table step is four bit steps. -/
theorem nib (x : BitVec 32) : (x >>> 4) ^^^ tabAt (x.toNat % 16) = st4 x := by
  have h1 : st4 (x &&& 15#32) = tabAt (x.toNat % 16) := by
    have h := st4_lo ⟨x.toNat % 16, Nat.mod_lt _ (by omega)⟩
    simp only at h
    rw [← h, ← and15_toNat, BitVec.ofNat_toNat, BitVec.setWidth_eq]
  have h2 : st4 (x &&& ~~~15#32) = x >>> 4 := by rw [st4_hi _ (hi15 x), sh15]
  calc (x >>> 4) ^^^ tabAt (x.toNat % 16) = st4 (x &&& ~~~15#32) ^^^ st4 (x &&& 15#32) := by rw [h1, h2]
    _ = st4 ((x &&& 15#32) ^^^ (x &&& ~~~15#32)) := by rw [st4_xor, BitVec.xor_comm]
    _ = st4 x := by rw [← split15]

/-- The low byte of a number. -/
def byt (n : Nat) : UInt8 := UInt8.ofNat n
theorem byt_toNat (n : Nat) : (byt n).toNat = n % 256 := by simp [byt]

/-- A byte as a word. -/
def wd (c : UInt8) : BitVec 32 := BitVec.ofNat 32 c.toNat

/-- One byte into the sum. -/
def crcByte (r : BitVec 32) (c : UInt8) : BitVec 32 := st8 (r ^^^ wd c)
def crcOn (r : BitVec 32) (l : List UInt8) : BitVec 32 := l.foldl crcByte r
def crc (l : List UInt8) : BitVec 32 := ~~~ (crcOn (~~~ 0#32) l)

theorem crcOn_nil (r : BitVec 32) : crcOn r [] = r := rfl
theorem crcOn_snoc (r : BitVec 32) (l : List UInt8) (c : UInt8) : crcOn r (l ++ [c]) = crcByte (crcOn r l) c := by simp [crcOn]
theorem crcOn_append (r : BitVec 32) (a b : List UInt8) : crcOn r (a ++ b) = crcOn (crcOn r a) b := by simp [crcOn]

/-- The sum as it stands while the bytes come in. -/
def crcRaw (l : List UInt8) : BitVec 32 := crcOn (~~~ 0#32) l
theorem crcRaw_nil : crcRaw [] = 0xffffffff#32 := by rfl
theorem crcRaw_append (a b : List UInt8) : crcRaw (a ++ b) = crcOn (crcRaw a) b := crcOn_append _ _ _
theorem crcRaw_snoc (a : List UInt8) (c : UInt8) : crcRaw (a ++ [c]) = crcByte (crcRaw a) c := crcOn_snoc _ _ _
theorem crc_raw (l : List UInt8) : ~~~ (crcRaw l) = crc l := rfl

/-- Bit by bit, as the reference does it. -/
def refBit (c : UInt8) (k : Nat) (r : BitVec 32) : BitVec 32 :=
  (r >>> 1) ^^^ (if (r ^^^ (wd c >>> k)).getLsbD 0 then 0xedb88320#32 else 0#32)
def refBits (c : UInt8) : Nat → BitVec 32 → BitVec 32
  | 0, r => r
  | k + 1, r => refBit c k (refBits c k r)
def stN : Nat → BitVec 32 → BitVec 32
  | 0, r => r
  | k + 1, r => st (stN k r)

theorem refBits_eq (c : UInt8) (r : BitVec 32) : ∀ k, refBits c k r ^^^ (wd c >>> k) = stN k (r ^^^ wd c)
  | 0 => by simp [refBits, stN]
  | k + 1 => by
    have ih := refBits_eq c r k
    simp only [refBits, stN, refBit, ← ih]
    unfold st
    rw [BitVec.ushiftRight_xor_distrib, BitVec.shiftRight_add]
    ac_rfl

theorem wd_lt (c : UInt8) : (wd c).toNat < 256 := by
  have h := c.toNat_lt
  simp only [wd, BitVec.toNat_ofNat]
  omega
theorem wd_toNat (c : UInt8) : (wd c).toNat = c.toNat := by
  have h := c.toNat_lt
  simp only [wd, BitVec.toNat_ofNat]
  omega

theorem refBits8 (c : UInt8) (r : BitVec 32) : refBits c 8 r = crcByte r c := by
  have h := refBits_eq c r 8
  have h0 : wd c >>> 8 = 0#32 := by
    apply BitVec.eq_of_toNat_eq
    rw [BitVec.toNat_ushiftRight, Nat.shiftRight_eq_div_pow]
    have := wd_lt c
    simp; omega
  rw [h0, BitVec.xor_zero] at h
  exact h

theorem crc_refByte (r : BitVec 32) (c : UInt8) : crcByte r c = refBits c 8 r := (refBits8 c r).symm

/-! ### Bursts -/
theorem st_zero : st 0#32 = 0#32 := by decide
theorem xor_eq_zero {a b : BitVec 32} (h : a ^^^ b = 0#32) : a = b := BitVec.xor_eq_zero_iff.1 h

theorem st_inj0 {x : BitVec 32} (h : st x = 0#32) : x = 0#32 := by
  have hl : x.getLsbD 0 = false := by
    cases hx : x.getLsbD 0 with
    | false => rfl
    | true =>
      exfalso
      have h31 : (st x).getLsbD 31 = true := by
        unfold st
        rw [hx]
        simp only [BitVec.getLsbD_xor, BitVec.getLsbD_ushiftRight, if_true]
        rw [BitVec.getLsbD_of_ge x (1 + 31) (by omega)]
        rfl
      rw [h] at h31
      simp at h31
  rw [st_even x hl] at h
  apply BitVec.eq_of_getLsbD_eq
  intro i hi
  rcases i with _ | i
  · rw [hl]; simp
  · have := congrArg (fun y => y.getLsbD i) h
    simp only [BitVec.getLsbD_ushiftRight, BitVec.getLsbD_zero] at this
    rw [Nat.add_comm 1 i] at this
    simpa using this

theorem st_inj {x y : BitVec 32} (h : st x = st y) : x = y :=
  xor_eq_zero (st_inj0 (by rw [st_xor, h, BitVec.xor_self]))
theorem st8_inj {x y : BitVec 32} (h : st8 x = st8 y) : x = y := by
  unfold st8 st4 at h
  exact st_inj (st_inj (st_inj (st_inj (st_inj (st_inj (st_inj (st_inj h)))))))
theorem crcByte_inj {r r' : BitVec 32} {c : UInt8} (h : crcByte r c = crcByte r' c) : r = r' := by
  have h' := st8_inj h
  have := congrArg (fun y => y ^^^ wd c) h'
  simpa [BitVec.xor_assoc] using this
theorem crcOn_inj {r r' : BitVec 32} : ∀ {l : List UInt8}, crcOn r l = crcOn r' l → r = r'
  | [], h => h
  | c :: l, h => crcByte_inj (crcOn_inj (r := crcByte r c) (r' := crcByte r' c) (l := l) h)

/-- Eight steps of what has eight zeros below: they fall out. -/
theorem st8_shl (z : BitVec 32) (h : z.toNat < 2 ^ 24) : st8 (z <<< 8) = z := by
  have low : ∀ i, i < 8 → (z <<< 8).getLsbD i = false := by
    intro i hi
    simp [BitVec.getLsbD_shiftLeft, hi]
  unfold st8
  rw [st4_hi _ (fun i hi => low i (by omega)), st4_hi]
  · rw [← BitVec.shiftRight_add]
    apply BitVec.eq_of_toNat_eq
    rw [BitVec.toNat_ushiftRight, BitVec.toNat_shiftLeft, Nat.shiftLeft_eq, Nat.shiftRight_eq_div_pow]
    have : z.toNat * 2 ^ 8 < 2 ^ 32 := by omega
    rw [Nat.mod_eq_of_lt this]
    omega
  · intro i hi
    rw [BitVec.getLsbD_ushiftRight]
    exact low _ (by omega)

theorem shl8_toNat (z : BitVec 32) (n : Nat) (hn : n ≤ 24) (h : z.toNat < 2 ^ n) : (z <<< 8).toNat = z.toNat * 256 := by
  rw [BitVec.toNat_shiftLeft, Nat.shiftLeft_eq]
  have : 2 ^ n ≤ 2 ^ 24 := Nat.pow_le_pow_right (by omega) hn
  have : z.toNat * 2 ^ 8 < 2 ^ 32 := by omega
  rw [Nat.mod_eq_of_lt this]

theorem xor_lt {a b : BitVec 32} {n : Nat} (ha : a.toNat < 2 ^ n) (hb : b.toNat < 2 ^ n) : (a ^^^ b).toNat < 2 ^ n := by
  rw [BitVec.toNat_xor]; exact Nat.xor_lt_two_pow ha hb

/-- What two windows differ by, as a polynomial. -/
def pol : List UInt8 → List UInt8 → BitVec 32
  | c :: l, c' :: l' => (wd c ^^^ wd c') ^^^ (pol l l' <<< 8)
  | _, _ => 0#32

theorem pol_lt : ∀ (l l' : List UInt8), l.length = l'.length → l.length ≤ 4 → (pol l l').toNat < 2 ^ (8 * l.length)
  | [], [], _, _ => by simp [pol]
  | c :: l, c' :: l', h, h4 => by
    simp only [List.length_cons] at h h4 ⊢
    have ih := pol_lt l l' (by omega) (by omega)
    have hs := shl8_toNat (pol l l') (8 * l.length) (by omega) ih
    simp only [pol]
    have hp : 2 ^ (8 * (l.length + 1)) = 2 ^ (8 * l.length) * 256 := by
      rw [show 8 * (l.length + 1) = 8 * l.length + 8 by omega, Nat.pow_add]
    have h8 : 2 ^ 8 ≤ 2 ^ (8 * (l.length + 1)) := Nat.pow_le_pow_right (by omega) (by omega)
    refine xor_lt (xor_lt ?_ ?_) ?_
    · have := wd_lt c; omega
    · have := wd_lt c'; omega
    · rw [hs, hp]; omega

theorem crcOn_back : ∀ (l l' : List UInt8) (r r' : BitVec 32), l.length = l'.length → l.length ≤ 4 → crcOn r l = crcOn r' l' → r ^^^ r' = pol l l'
  | [], [], r, r', _, _, h => by
    have h' : r = r' := h
    rw [h', BitVec.xor_self]; rfl
  | c :: l, c' :: l', r, r', hl, h4, h => by
    simp only [List.length_cons] at hl h4
    have ih := crcOn_back l l' (crcByte r c) (crcByte r' c') (by omega) (by omega) h
    have hlt := pol_lt l l' (by omega) (by omega)
    have hlt24 : (pol l l').toNat < 2 ^ 24 := Nat.lt_of_lt_of_le hlt (Nat.pow_le_pow_right (by omega) (by omega))
    have e : st8 ((r ^^^ wd c) ^^^ (r' ^^^ wd c')) = st8 (pol l l' <<< 8) := by
      rw [st8_shl _ hlt24, ← ih, st8_xor]; rfl
    have e' := st8_inj e
    simp only [pol]
    rw [← e']
    have : ∀ a b x y : BitVec 32, x ^^^ y = (a ^^^ b) ^^^ ((x ^^^ a) ^^^ (y ^^^ b)) := by
      intro a b x y
      apply BitVec.eq_of_getLsbD_eq
      intro i hi
      simp only [BitVec.getLsbD_xor]
      cases x.getLsbD i <;> cases y.getLsbD i <;> cases a.getLsbD i <;> cases b.getLsbD i <;> rfl
    exact this _ _ _ _

theorem pol_zero : ∀ (l l' : List UInt8), l.length = l'.length → l.length ≤ 4 → pol l l' = 0#32 → l = l'
  | [], [], _, _, _ => rfl
  | c :: l, c' :: l', hl, h4, h => by
    simp only [List.length_cons] at hl h4
    simp only [pol] at h
    have e := xor_eq_zero h
    have hlt := pol_lt l l' (by omega) (by omega)
    have hs := shl8_toNat (pol l l') (8 * l.length) (by omega) hlt
    have h8 : (wd c ^^^ wd c').toNat < 2 ^ 8 := xor_lt (wd_lt c) (wd_lt c')
    have e2 := congrArg BitVec.toNat e
    rw [hs] at e2
    have h0 : (pol l l').toNat = 0 := by omega
    have hp : pol l l' = 0#32 := BitVec.eq_of_toNat_eq (by rw [h0]; rfl)
    have hc : wd c = wd c' := xor_eq_zero (BitVec.eq_of_toNat_eq (by rw [e2, h0]; rfl))
    have hc' : c = c' := by
      have := congrArg BitVec.toNat hc
      rw [wd_toNat, wd_toNat] at this
      exact UInt8.toNat_inj.1 this
    rw [hc', pol_zero l l' (by omega) (by omega) hp]

/-- Two texts that differ in at most four bytes side by side have unlike sums. -/
theorem burst (p m m' s : List UInt8) (hl : m.length = m'.length) (h4 : m.length ≤ 4) (h : crc (p ++ m ++ s) = crc (p ++ m' ++ s)) : m = m' := by
  unfold crc at h
  have h1 : crcOn (~~~ 0#32) (p ++ m ++ s) = crcOn (~~~ 0#32) (p ++ m' ++ s) := by
    have := congrArg (fun y => ~~~ y) h
    simpa using this
  simp only [crcOn_append] at h1
  have h2 := crcOn_inj h1
  have h3 := crcOn_back m m' _ _ hl h4 h2
  rw [BitVec.xor_self] at h3
  exact pol_zero m m' hl h4 h3.symm

end Go.Proofs.YtmfabbncoekjhaaDoor.P
