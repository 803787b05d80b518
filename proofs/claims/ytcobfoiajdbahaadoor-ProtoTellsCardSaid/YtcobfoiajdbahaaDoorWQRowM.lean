/- The walks of the document's bare call, an Op each; may a text be an owner's? -/
import Derived.Test.YtcobfoiajdbahaaDoorPQ
import Derived.Test.YtcobfoiajdbahaaDoorWQRefM
import Derived.Laws.BitsAllLaws
namespace Go.Proofs.YtcobfoiajdbahaaDoor.P
set_option linter.unusedVariables false
set_option linter.unusedSimpArgs false
/-- An address's bits, the greatest first. -/
def rowA (a : Ad) : List UInt8 := if adOk a then (List.range (wid a.fam)).map (fun i => byt (adNum a / 2 ^ (wid a.fam - 1 - i) % 2)) else []
theorem rowA_len {a : Ad} (h : adOk a = true) : (rowA a).length = wid a.fam := by unfold rowA; rw [if_pos h]; simp
theorem rowA_no {a : Ad} (h : adOk a = false) : rowA a = [] := by unfold rowA; rw [h]; rfl
theorem rowA_le (a : Ad) : (rowA a).length ≤ 128 := by
  cases h : adOk a with
  | false => rw [rowA_no h]; exact Nat.zero_le _
  | true => rw [rowA_len h]; unfold wid; split <;> omega
theorem rowA_at {a : Ad} (h : adOk a = true) (i : Nat) (hi : i < (rowA a).length) : (rowA a)[i] = byt (adNum a / 2 ^ (wid a.fam - 1 - i) % 2) := by
  simp only [rowA, h, if_true, List.getElem_map, List.getElem_range]
theorem wid_adB {a : Ad} (h : adOk a = true) : wid a.fam = 8 * (adB a).length := by
  rw [adB_len h]
  rcases adOk_cases h with hf | ⟨hf, _⟩ <;> simp [wid, hf]
theorem adB_at {a : Ad} (h : adOk a = true) (ht : tyA a) (i : Nat) (hi : i < (adB a).length) : (adB a)[i] = byt (adNum a / 256 ^ ((adB a).length - 1 - i)) := by
  have hl := adB_len h
  rcases adOk_cases h with hf | ⟨hf, hh, hlo⟩
  · have e := adB_six h hf
    simp only [e]
    rw [e, List.length_append, be_length, be_length] at hi
    simp only [List.length_append, be_length]
    rw [List.getElem_append]
    simp only [be_length]
    have hlo := ht.2.2
    split
    · rename_i h8
      rw [be_at]
      congr 1
      unfold adNum
      have e2 : 8 + 8 - 1 - i = 8 + (8 - 1 - i) := by omega
      rw [e2, Nat.pow_add, ← Nat.div_div_eq_div_mul]
      congr 1
      omega
    · rename_i h8
      rw [be_at]
      have e3 : 8 - 1 - (i - 8) = 8 + 8 - 1 - i := by omega
      rw [e3]
      refine UInt8.toNat_inj.1 ?_
      rw [byt_toNat, byt_toNat]
      unfold adNum
      rcases (show i = 8 ∨ i = 9 ∨ i = 10 ∨ i = 11 ∨ i = 12 ∨ i = 13 ∨ i = 14 ∨ i = 15 by omega) with rfl | rfl | rfl | rfl | rfl | rfl | rfl | rfl <;> simp only [Nat.reduceAdd, Nat.reduceSub, Nat.reducePow] <;> omega
  · have e := adB_four h hf
    simp only [e]
    rw [be_at, be_length]
    unfold adNum
    rw [hh]
    simp
theorem rowA_bit {a : Ad} (h : adOk a = true) (ht : tyA a) (i j : Nat) (hi : i < (adB a).length) (hj : j < 8) (hk : 8 * i + j < (rowA a).length) : (rowA a)[8 * i + j] = byt (((adB a)[i]).toNat / 2 ^ (7 - j) % 2) := by
  rw [rowA_at h, adB_at h ht i hi, byt_toNat]
  have hw := wid_adB h
  have e : wid a.fam - 1 - (8 * i + j) = 8 * ((adB a).length - 1 - i) + (7 - j) := by omega
  rw [e, Nat.pow_add, ← Nat.div_div_eq_div_mul, Nat.pow_mul, show (2 : Nat) ^ 8 = 256 from rfl]
  congr 1
  generalize adNum a / 256 ^ ((adB a).length - 1 - i) = x
  rcases (show j = 0 ∨ j = 1 ∨ j = 2 ∨ j = 3 ∨ j = 4 ∨ j = 5 ∨ j = 6 ∨ j = 7 by omega) with rfl | rfl | rfl | rfl | rfl | rfl | rfl | rfl <;> simp only [Nat.reduceSub, Nat.reducePow] <;> omega
theorem rowA_take {a : Ad} (h : adOk a = true) (ht : tyA a) (i j : Nat) (hi : i < (adB a).length) (hj : j < 8) : (rowA a).take (8 * i + (j + 1)) = (rowA a).take (8 * i + j) ++ [byt (((adB a)[i]).toNat / 2 ^ (7 - j) % 2)] := by
  have hw := wid_adB h
  have hk : 8 * i + j < (rowA a).length := by rw [rowA_len h]; omega
  rw [← Nat.add_assoc, List.take_succ_eq_append_getElem hk, rowA_bit h ht i j hi hj hk]
/-- No bit behind is 1: nothing is left of the number below. -/
theorem low_zero (x m : Nat) : x % 2 ^ m = 0 ↔ ∀ k, k < m → x / 2 ^ k % 2 = 0 := by
  constructor
  · intro h k hk
    have hb : (x % 2 ^ m).testBit k = x.testBit k := by rw [Nat.testBit_mod_two_pow]; simp [hk]
    rw [h, Nat.zero_testBit] at hb
    rw [Nat.testBit_eq_decide_div_mod_eq] at hb
    have := of_decide_eq_false hb.symm
    omega
  · intro h
    refine Nat.eq_of_testBit_eq (fun k => ?_)
    rw [Nat.zero_testBit, Nat.testBit_mod_two_pow]
    by_cases hk : k < m
    · rw [Nat.testBit_eq_decide_div_mod_eq, h k hk]; simp
    · simp [hk]
/-- The document's own question: does a row have no 1 from so many bits on? -/
def freeB (l : List UInt8) (b : Nat) : Bool := (l.drop b).all (fun c => c != 1)
theorem bit_one (x : Nat) : (byt (x % 2) != 1) = decide (x % 2 = 0) := by
  rcases (show x % 2 = 0 ∨ x % 2 = 1 by omega) with h | h <;> rw [h] <;> decide
theorem pxOk_row (p : Px) : pxOk p = (adOk p.a && (decide (0 ≤ p.bits ∧ p.bits ≤ ((rowA p.a).length : Int)) && freeB (rowA p.a) p.bits.toNat)) := by
  unfold pxOk
  cases h : adOk p.a with
  | false => rw [Bool.false_and, Bool.false_and]
  | true =>
    rw [rowA_len h, Bool.true_and, Bool.true_and]
    by_cases hb : 0 ≤ p.bits ∧ p.bits ≤ (wid p.a.fam : Int)
    · rw [decide_eq_true hb, Bool.true_and, Bool.true_and]
      obtain ⟨b, hbn⟩ : ∃ b : Nat, p.bits = (b : Int) := ⟨p.bits.toNat, by omega⟩
      rw [hbn] at hb ⊢
      rw [Int.toNat_natCast]
      have hbw : b ≤ wid p.a.fam := by omega
      rw [Bool.eq_iff_iff, decide_eq_true_eq, low_zero]
      unfold freeB
      rw [List.all_eq_true]
      constructor
      · intro hz c hc
        obtain ⟨k, hk, rfl⟩ := List.getElem_of_mem hc
        rw [List.length_drop, rowA_len h] at hk
        rw [List.getElem_drop, rowA_at h, bit_one, decide_eq_true_eq]
        exact hz _ (by omega)
      · intro hz k hk
        have hm : byt (adNum p.a / 2 ^ (wid p.a.fam - 1 - (wid p.a.fam - 1 - k)) % 2) ∈ (rowA p.a).drop b := by
          rw [← rowA_at h (wid p.a.fam - 1 - k) (by rw [rowA_len h]; omega)]
          refine List.mem_iff_getElem.2 ⟨wid p.a.fam - 1 - k - b, by rw [List.length_drop, rowA_len h]; omega, ?_⟩
          rw [List.getElem_drop]
          congr 1
          omega
        have := hz _ hm
        rw [bit_one, decide_eq_true_eq, show wid p.a.fam - 1 - (wid p.a.fam - 1 - k) = k by omega] at this
        exact this
    · rw [decide_eq_false hb, Bool.false_and, Bool.false_and]
theorem freeB_step {l : List UInt8} {i : Nat} (hi : i < l.length) : freeB l i = (l[i] != 1 && freeB l (i + 1)) := by
  unfold freeB
  rw [List.drop_eq_getElem_cons hi, List.all_cons]
theorem freeB_one {l : List UInt8} {i : Nat} (hi : i < l.length) (h : l[i] = 1) : freeB l i = false := by
  rw [freeB_step hi, h]
  rfl
theorem freeB_not {l : List UInt8} {i : Nat} (hi : i < l.length) (h : ¬ l[i] = 1) : freeB l i = freeB l (i + 1) := by
  rw [freeB_step hi, bne_iff_ne.2 h, Bool.true_and]
theorem freeB_end {l : List UInt8} {i : Nat} (hi : l.length ≤ i) : freeB l i = true := by
  unfold freeB
  rw [List.drop_of_length_le hi]
  rfl
end Go.Proofs.YtcobfoiajdbahaaDoor.P
namespace Go.Proofs.YtcobfoiajdbahaaDoor
open Go.RowKit
set_option linter.unusedVariables false
set_option linter.unusedSimpArgs false
theorem and8 (a : Nat) (h : a < 256) : bits .and .u8 (a : Int) 1 = ((a % 2 : Nat) : Int) := by rw [show (1 : Int) = ((1 : Nat) : Int) from rfl, u8_and_nat _ _ h (by omega), Nat.and_one_is_mod]
set_option maxRecDepth 100000 in
set_option maxHeartbeats 8000000 in
theorem row20_any (x : P.Ad) (ht : P.tyA x) (w : World) : Calls Tryd.prog 76 #[adV x] w fun e w' => ∃ v, e = .returned v ∧ Own w' w.heap.size v (P.rowA x) ∧ Below w.heap.size w w' := by
  have h1 := Bx.fresh w 42 #[.int .u8 (x.fam : Nat), V64 x.hi, V64 x.lo]
  have hA := (Below.refl w.heap.size w).alloc (Nat.le_refl _) (.cells #[.int .u8 (x.fam : Nat), V64 x.hi, V64 x.lo] 42)
  obtain ⟨c0, c1, c2, _, _, _⟩ := h1.three
  have HB := Lib.hid (fun wx => ref19Bytes_any x ht wx)
  have HR := Lib.hid (show (∀ i j (hi : i < (P.adB x).length), j < 8 → (P.rowA x).take (8 * i + (j + 1)) = (P.rowA x).take (8 * i + j) ++ [P.byt (((P.adB x)[i]).toNat / 2 ^ (7 - j) % 2)]) ∧ (P.rowA x).length = 8 * (P.adB x).length ∧ (P.adB x).length ≤ 16 from by
    cases hok : P.adOk x with
    | false =>
      have e : P.adB x = [] := by unfold P.adB; rw [hok]; rfl
      rw [e, P.rowA_no hok]
      exact ⟨fun i j hi => by simp at hi, rfl, by simp⟩
    | true =>
      refine ⟨fun i j hi hj => P.rowA_take hok ht i j hi hj, by rw [P.rowA_len hok, P.wid_adB hok], ?_⟩
      rw [P.adB_len hok]
      split <;> omega)
  generalize P.adB x = L at *
  generalize P.rowA x = R at *
  go_enter Tryd.func76, Tryd.ntmps76
  go_wp2_with (go_at_call 78; (with_reducible refine (HB.out _).mono ?_); rintro e w1 ⟨v, rfl, hown, hb1⟩; have hA1 := Chain.up hA hb1; obtain ⟨la, lc, rfl, hrows, -⟩ := OwnR.is byQ_len (own_rowsQ.1 hown); clear h1 hA c0 c1 c2 hown hb1)
  have hl16 := HR.out.2.2
  go_loopw [4, 5] (fun s i wr => ∃ (k : Nat) (a : Option Addr) (c : Nat), k ≤ L.length ∧ i = .int .i64 ((k : Nat) : Int) ∧ s = .slice a (8 * k) c ∧ Own wr w1.heap.size (.slice a (8 * k) c) (R.take (8 * k)) ∧ Below w1.heap.size w1 wr) (fun _ i _ => L.length - (intOf i).toNat)
  case atStart => exact ⟨0, none, 0, Nat.zero_le _, rfl, rfl, own_nil _ _, Below.refl _ _⟩
  case round =>
    obtain ⟨k, a, c, hk, rfl, rfl, hown, hb⟩ := hrel
    by_cases hkl : k < L.length
    · have hki : ((k : Nat) : Int) < ((L.length : Nat) : Int) := by omega
      have hkt : decide (((k : Nat) : Int) < ((L.length : Nat) : Int)) = true := decide_eq_true hki
      obtain ⟨b, of, rfl, hlt, hc⟩ := hrows k hkl
      have HC := Lib.hid (fun wx (hx : Below w1.heap.size w1 wx) => show wx.cell? ⟨b, of + k, none⟩ = some (.int .u8 ((L[k]).toNat : Int)) from by
        have h := (hx.cell (p := ⟨b, of + k, none⟩) hlt)
        rw [h]
        have h2 := hc 0 (by omega)
        simp only [Nat.mul_one, Nat.add_zero] at h2
        rw [h2]
        rfl)
      have HT := Lib.hid (fun j (hj : j < 8) => HR.out.1 k j hkl hj)
      have HLn := Lib.hid (fun j (hj : j ≤ 8) => show (R.take (8 * k + j)).length = 8 * k + j from by rw [List.length_take, HR.out.2.1]; omega)
      have HK := Lib.hid hkl
      have hk16 : k < 16 := by omega
      have hcv : (L[k]).toNat < 256 := (L[k]).toNat_lt
      clear hc hrows
      generalize L[k] = cv at *
      clear hkl hk
      go_wp2_with fail
      go_loopw [4, 6] (fun s q wr2 => ∃ (j : Nat) (a : Option Addr) (c : Nat), j ≤ 8 ∧ q = .int .i64 (7 - (j : Int)) ∧ s = .slice a (8 * k + j) c ∧ Own wr2 w1.heap.size (.slice a (8 * k + j) c) (R.take (8 * k + j)) ∧ Below w1.heap.size w1 wr2) (fun _ q _ => ((intOf q) + 1).toNat)
      case atStart => exact ⟨0, a, c, by omega, rfl, rfl, hown, hb⟩
      case round =>
        clear hown hb
        obtain ⟨j, a, c, hj, rfl, rfl, hown, hb⟩ := hrel
        have hcell := HC.out _ hb
        rcases (show j = 0 ∨ j = 1 ∨ j = 2 ∨ j = 3 ∨ j = 4 ∨ j = 5 ∨ j = 6 ∨ j = 7 ∨ j = 8 by omega) with rfl | rfl | rfl | rfl | rfl | rfl | rfl | rfl | rfl
        · have hv : (bits .and .u8 ((cv.toNat : Int) / 128) 1) = ((P.byt (cv.toNat / 2 ^ (7 - 0) % 2)).toNat : Int) := by rw [show ((cv.toNat : Int) / 128) = ((cv.toNat / 128 : Nat) : Int) from by omega, and8 _ (by omega), P.byt_toNat]; simp only [Nat.reduceSub, Nat.reducePow]; omega
          have Htk := Lib.hid (HT.out 0 (by omega))
          have Hlen := Lib.hid (HLn.out 0 (by omega))
          have hownA := hown.alloc (.cells #[.int .u8 (bits .and .u8 ((cv.toNat : Int) / 128) 1)] 5)
          have hr := rows_new 1 byQ byQ_len wr [P.byt (cv.toNat / 2 ^ (7 - 0) % 2)] #[.int .u8 (bits .and .u8 ((cv.toNat : Int) / 128) 1)] 5 (by rw [hv]; rfl)
          have hA1 := (Below.refl wr.heap.size wr).alloc (Nat.le_refl _) (.cells #[.int .u8 (bits .and .u8 ((cv.toNat : Int) / 128) 1)] 5)
          have hsz := hb.size
          clear hv
          generalize R.take (8 * k + 0) = l at *
          generalize P.byt (cv.toNat / 2 ^ (7 - 0) % 2) = nv at *
          go_wp2_with (at_builtin; (refine wpList_appQ (by rfl) _ _ (by rfl) w1.heap.size _ l [nv] (by rfl) hownA (by have := Hlen.out; simp only [List.length_singleton]; omega) _ _ _ (by rfl) (by rfl) hr (by have := hA1.size; omega) ?_); intro b' c' w2 hown2 hb2 hkt2)
          go_roundw
          case rel => exact ⟨1, b', c', by omega, by first | rfl | go_num, by rw [Hlen.out] <;> rfl, by rw [Htk.out]; have h := hown2; rw [Hlen.out] at h; exact h, (hb.trans (hA1.mono hsz)).trans hb2⟩
          case measure => simp [intOf]
        · have hv : (bits .and .u8 ((cv.toNat : Int) / 64) 1) = ((P.byt (cv.toNat / 2 ^ (7 - 1) % 2)).toNat : Int) := by rw [show ((cv.toNat : Int) / 64) = ((cv.toNat / 64 : Nat) : Int) from by omega, and8 _ (by omega), P.byt_toNat]; simp only [Nat.reduceSub, Nat.reducePow]; omega
          have Htk := Lib.hid (HT.out 1 (by omega))
          have Hlen := Lib.hid (HLn.out 1 (by omega))
          have hownA := hown.alloc (.cells #[.int .u8 (bits .and .u8 ((cv.toNat : Int) / 64) 1)] 5)
          have hr := rows_new 1 byQ byQ_len wr [P.byt (cv.toNat / 2 ^ (7 - 1) % 2)] #[.int .u8 (bits .and .u8 ((cv.toNat : Int) / 64) 1)] 5 (by rw [hv]; rfl)
          have hA1 := (Below.refl wr.heap.size wr).alloc (Nat.le_refl _) (.cells #[.int .u8 (bits .and .u8 ((cv.toNat : Int) / 64) 1)] 5)
          have hsz := hb.size
          clear hv
          generalize R.take (8 * k + 1) = l at *
          generalize P.byt (cv.toNat / 2 ^ (7 - 1) % 2) = nv at *
          go_wp2_with (at_builtin; (refine wpList_appQ (by rfl) _ _ (by rfl) w1.heap.size _ l [nv] (by rfl) hownA (by have := Hlen.out; simp only [List.length_singleton]; omega) _ _ _ (by rfl) (by rfl) hr (by have := hA1.size; omega) ?_); intro b' c' w2 hown2 hb2 hkt2)
          go_roundw
          case rel => exact ⟨2, b', c', by omega, by first | rfl | go_num, by rw [Hlen.out] <;> rfl, by rw [Htk.out]; have h := hown2; rw [Hlen.out] at h; exact h, (hb.trans (hA1.mono hsz)).trans hb2⟩
          case measure => simp [intOf]
        · have hv : (bits .and .u8 ((cv.toNat : Int) / 32) 1) = ((P.byt (cv.toNat / 2 ^ (7 - 2) % 2)).toNat : Int) := by rw [show ((cv.toNat : Int) / 32) = ((cv.toNat / 32 : Nat) : Int) from by omega, and8 _ (by omega), P.byt_toNat]; simp only [Nat.reduceSub, Nat.reducePow]; omega
          have Htk := Lib.hid (HT.out 2 (by omega))
          have Hlen := Lib.hid (HLn.out 2 (by omega))
          have hownA := hown.alloc (.cells #[.int .u8 (bits .and .u8 ((cv.toNat : Int) / 32) 1)] 5)
          have hr := rows_new 1 byQ byQ_len wr [P.byt (cv.toNat / 2 ^ (7 - 2) % 2)] #[.int .u8 (bits .and .u8 ((cv.toNat : Int) / 32) 1)] 5 (by rw [hv]; rfl)
          have hA1 := (Below.refl wr.heap.size wr).alloc (Nat.le_refl _) (.cells #[.int .u8 (bits .and .u8 ((cv.toNat : Int) / 32) 1)] 5)
          have hsz := hb.size
          clear hv
          generalize R.take (8 * k + 2) = l at *
          generalize P.byt (cv.toNat / 2 ^ (7 - 2) % 2) = nv at *
          go_wp2_with (at_builtin; (refine wpList_appQ (by rfl) _ _ (by rfl) w1.heap.size _ l [nv] (by rfl) hownA (by have := Hlen.out; simp only [List.length_singleton]; omega) _ _ _ (by rfl) (by rfl) hr (by have := hA1.size; omega) ?_); intro b' c' w2 hown2 hb2 hkt2)
          go_roundw
          case rel => exact ⟨3, b', c', by omega, by first | rfl | go_num, by rw [Hlen.out] <;> rfl, by rw [Htk.out]; have h := hown2; rw [Hlen.out] at h; exact h, (hb.trans (hA1.mono hsz)).trans hb2⟩
          case measure => simp [intOf]
        · have hv : (bits .and .u8 ((cv.toNat : Int) / 16) 1) = ((P.byt (cv.toNat / 2 ^ (7 - 3) % 2)).toNat : Int) := by rw [show ((cv.toNat : Int) / 16) = ((cv.toNat / 16 : Nat) : Int) from by omega, and8 _ (by omega), P.byt_toNat]; simp only [Nat.reduceSub, Nat.reducePow]; omega
          have Htk := Lib.hid (HT.out 3 (by omega))
          have Hlen := Lib.hid (HLn.out 3 (by omega))
          have hownA := hown.alloc (.cells #[.int .u8 (bits .and .u8 ((cv.toNat : Int) / 16) 1)] 5)
          have hr := rows_new 1 byQ byQ_len wr [P.byt (cv.toNat / 2 ^ (7 - 3) % 2)] #[.int .u8 (bits .and .u8 ((cv.toNat : Int) / 16) 1)] 5 (by rw [hv]; rfl)
          have hA1 := (Below.refl wr.heap.size wr).alloc (Nat.le_refl _) (.cells #[.int .u8 (bits .and .u8 ((cv.toNat : Int) / 16) 1)] 5)
          have hsz := hb.size
          clear hv
          generalize R.take (8 * k + 3) = l at *
          generalize P.byt (cv.toNat / 2 ^ (7 - 3) % 2) = nv at *
          go_wp2_with (at_builtin; (refine wpList_appQ (by rfl) _ _ (by rfl) w1.heap.size _ l [nv] (by rfl) hownA (by have := Hlen.out; simp only [List.length_singleton]; omega) _ _ _ (by rfl) (by rfl) hr (by have := hA1.size; omega) ?_); intro b' c' w2 hown2 hb2 hkt2)
          go_roundw
          case rel => exact ⟨4, b', c', by omega, by first | rfl | go_num, by rw [Hlen.out] <;> rfl, by rw [Htk.out]; have h := hown2; rw [Hlen.out] at h; exact h, (hb.trans (hA1.mono hsz)).trans hb2⟩
          case measure => simp [intOf]
        · have hv : (bits .and .u8 ((cv.toNat : Int) / 8) 1) = ((P.byt (cv.toNat / 2 ^ (7 - 4) % 2)).toNat : Int) := by rw [show ((cv.toNat : Int) / 8) = ((cv.toNat / 8 : Nat) : Int) from by omega, and8 _ (by omega), P.byt_toNat]; simp only [Nat.reduceSub, Nat.reducePow]; omega
          have Htk := Lib.hid (HT.out 4 (by omega))
          have Hlen := Lib.hid (HLn.out 4 (by omega))
          have hownA := hown.alloc (.cells #[.int .u8 (bits .and .u8 ((cv.toNat : Int) / 8) 1)] 5)
          have hr := rows_new 1 byQ byQ_len wr [P.byt (cv.toNat / 2 ^ (7 - 4) % 2)] #[.int .u8 (bits .and .u8 ((cv.toNat : Int) / 8) 1)] 5 (by rw [hv]; rfl)
          have hA1 := (Below.refl wr.heap.size wr).alloc (Nat.le_refl _) (.cells #[.int .u8 (bits .and .u8 ((cv.toNat : Int) / 8) 1)] 5)
          have hsz := hb.size
          clear hv
          generalize R.take (8 * k + 4) = l at *
          generalize P.byt (cv.toNat / 2 ^ (7 - 4) % 2) = nv at *
          go_wp2_with (at_builtin; (refine wpList_appQ (by rfl) _ _ (by rfl) w1.heap.size _ l [nv] (by rfl) hownA (by have := Hlen.out; simp only [List.length_singleton]; omega) _ _ _ (by rfl) (by rfl) hr (by have := hA1.size; omega) ?_); intro b' c' w2 hown2 hb2 hkt2)
          go_roundw
          case rel => exact ⟨5, b', c', by omega, by first | rfl | go_num, by rw [Hlen.out] <;> rfl, by rw [Htk.out]; have h := hown2; rw [Hlen.out] at h; exact h, (hb.trans (hA1.mono hsz)).trans hb2⟩
          case measure => simp [intOf]
        · have hv : (bits .and .u8 ((cv.toNat : Int) / 4) 1) = ((P.byt (cv.toNat / 2 ^ (7 - 5) % 2)).toNat : Int) := by rw [show ((cv.toNat : Int) / 4) = ((cv.toNat / 4 : Nat) : Int) from by omega, and8 _ (by omega), P.byt_toNat]; simp only [Nat.reduceSub, Nat.reducePow]; omega
          have Htk := Lib.hid (HT.out 5 (by omega))
          have Hlen := Lib.hid (HLn.out 5 (by omega))
          have hownA := hown.alloc (.cells #[.int .u8 (bits .and .u8 ((cv.toNat : Int) / 4) 1)] 5)
          have hr := rows_new 1 byQ byQ_len wr [P.byt (cv.toNat / 2 ^ (7 - 5) % 2)] #[.int .u8 (bits .and .u8 ((cv.toNat : Int) / 4) 1)] 5 (by rw [hv]; rfl)
          have hA1 := (Below.refl wr.heap.size wr).alloc (Nat.le_refl _) (.cells #[.int .u8 (bits .and .u8 ((cv.toNat : Int) / 4) 1)] 5)
          have hsz := hb.size
          clear hv
          generalize R.take (8 * k + 5) = l at *
          generalize P.byt (cv.toNat / 2 ^ (7 - 5) % 2) = nv at *
          go_wp2_with (at_builtin; (refine wpList_appQ (by rfl) _ _ (by rfl) w1.heap.size _ l [nv] (by rfl) hownA (by have := Hlen.out; simp only [List.length_singleton]; omega) _ _ _ (by rfl) (by rfl) hr (by have := hA1.size; omega) ?_); intro b' c' w2 hown2 hb2 hkt2)
          go_roundw
          case rel => exact ⟨6, b', c', by omega, by first | rfl | go_num, by rw [Hlen.out] <;> rfl, by rw [Htk.out]; have h := hown2; rw [Hlen.out] at h; exact h, (hb.trans (hA1.mono hsz)).trans hb2⟩
          case measure => simp [intOf]
        · have hv : (bits .and .u8 ((cv.toNat : Int) / 2) 1) = ((P.byt (cv.toNat / 2 ^ (7 - 6) % 2)).toNat : Int) := by rw [show ((cv.toNat : Int) / 2) = ((cv.toNat / 2 : Nat) : Int) from by omega, and8 _ (by omega), P.byt_toNat]; simp only [Nat.reduceSub, Nat.reducePow]; omega
          have Htk := Lib.hid (HT.out 6 (by omega))
          have Hlen := Lib.hid (HLn.out 6 (by omega))
          have hownA := hown.alloc (.cells #[.int .u8 (bits .and .u8 ((cv.toNat : Int) / 2) 1)] 5)
          have hr := rows_new 1 byQ byQ_len wr [P.byt (cv.toNat / 2 ^ (7 - 6) % 2)] #[.int .u8 (bits .and .u8 ((cv.toNat : Int) / 2) 1)] 5 (by rw [hv]; rfl)
          have hA1 := (Below.refl wr.heap.size wr).alloc (Nat.le_refl _) (.cells #[.int .u8 (bits .and .u8 ((cv.toNat : Int) / 2) 1)] 5)
          have hsz := hb.size
          clear hv
          generalize R.take (8 * k + 6) = l at *
          generalize P.byt (cv.toNat / 2 ^ (7 - 6) % 2) = nv at *
          go_wp2_with (at_builtin; (refine wpList_appQ (by rfl) _ _ (by rfl) w1.heap.size _ l [nv] (by rfl) hownA (by have := Hlen.out; simp only [List.length_singleton]; omega) _ _ _ (by rfl) (by rfl) hr (by have := hA1.size; omega) ?_); intro b' c' w2 hown2 hb2 hkt2)
          go_roundw
          case rel => exact ⟨7, b', c', by omega, by first | rfl | go_num, by rw [Hlen.out] <;> rfl, by rw [Htk.out]; have h := hown2; rw [Hlen.out] at h; exact h, (hb.trans (hA1.mono hsz)).trans hb2⟩
          case measure => simp [intOf]
        · have hv : (bits .and .u8 (cv.toNat : Int) 1) = ((P.byt (cv.toNat / 2 ^ (7 - 7) % 2)).toNat : Int) := by rw [show (cv.toNat : Int) = ((cv.toNat : Nat) : Int) from by omega, and8 _ (by omega), P.byt_toNat]; simp only [Nat.reduceSub, Nat.reducePow]; omega
          have Htk := Lib.hid (HT.out 7 (by omega))
          have Hlen := Lib.hid (HLn.out 7 (by omega))
          have hownA := hown.alloc (.cells #[.int .u8 (bits .and .u8 (cv.toNat : Int) 1)] 5)
          have hr := rows_new 1 byQ byQ_len wr [P.byt (cv.toNat / 2 ^ (7 - 7) % 2)] #[.int .u8 (bits .and .u8 (cv.toNat : Int) 1)] 5 (by rw [hv]; rfl)
          have hA1 := (Below.refl wr.heap.size wr).alloc (Nat.le_refl _) (.cells #[.int .u8 (bits .and .u8 (cv.toNat : Int) 1)] 5)
          have hsz := hb.size
          clear hv
          generalize R.take (8 * k + 7) = l at *
          generalize P.byt (cv.toNat / 2 ^ (7 - 7) % 2) = nv at *
          go_wp2_with (at_builtin; (refine wpList_appQ (by rfl) _ _ (by rfl) w1.heap.size _ l [nv] (by rfl) hownA (by have := Hlen.out; simp only [List.length_singleton]; omega) _ _ _ (by rfl) (by rfl) hr (by have := hA1.size; omega) ?_); intro b' c' w2 hown2 hb2 hkt2)
          go_roundw
          case rel => exact ⟨8, b', c', by omega, by first | rfl | go_num, by rw [Hlen.out] <;> rfl, by rw [Htk.out]; have h := hown2; rw [Hlen.out] at h; exact h, (hb.trans (hA1.mono hsz)).trans hb2⟩
          case measure => simp [intOf]
        · go_wp2_with fail
          go_roundw
          case rel => exact ⟨k + 1, a, c, by have := HK.out; omega, by go_num, rfl, hown, hb⟩
          case measure => simp [intOf]; have := HK.out; omega
    · have hkt : decide (((k : Nat) : Int) < ((L.length : Nat) : Int)) = false := decide_eq_false (by omega)
      have hke : k = L.length := by omega
      have Hres := Lib.hid (show R.take (8 * k) = R from List.take_of_length_le (by rw [HR.out.2.1]; omega))
      clear hke hk hkt
      go_wp2_with fail
      go_ret
      exact ⟨_, rfl, by rw [← Hres.out]; exact own_rowsQ.2 ((own_rowsQ.1 hown).low hA1.size), Chain.up hA1 hb⟩
set_option maxRecDepth 100000 in
set_option maxHeartbeats 8000000 in
theorem ref20Right_any (x : P.Px) (ht : P.tyX x) (w : World) : Calls Tryd.prog 38 #[pxV x] w fun e w' => e = .returned (.bool (P.pxOk x)) ∧ Below w.heap.size w w' := by
  have hpx := P.pxOk_row x
  cases hok : P.adOk x.a with
  | false =>
    have h1 := Bx.fresh w 44 #[.int .u8 (x.a.fam : Nat), V64 x.a.hi, V64 x.a.lo, .int .i64 x.bits]
    have hA := (Below.refl w.heap.size w).alloc (Nat.le_refl _) (.cells #[.int .u8 (x.a.fam : Nat), V64 x.a.hi, V64 x.a.lo, .int .i64 x.bits] 44)
    obtain ⟨c0, c1, c2, c3, _, _, _, _⟩ := h1.fourP
    have HB := Lib.hid (fun wx => row20_any x.a ht.1 wx)
    have Hres := Lib.hid (show P.pxOk x = false by rw [hpx, hok, Bool.false_and])
    have hR0 : (P.rowA x.a).length = 0 := by rw [P.rowA_no hok]; rfl
    have t0 : ((((P.rowA x.a).length : Nat) : Int) == 0) = true := beq_iff_eq.2 (by omega)
    clear hpx hok hR0
    generalize P.rowA x.a = R at *
    generalize P.pxOk x = res at *
    go_enter Tryd.func38, Tryd.ntmps38
    go_wp2_with (go_at_call 76; (with_reducible refine (HB.out _).mono ?_); rintro e w1 ⟨v, rfl, hown, hb1⟩; have hA1 := Chain.up hA hb1; have h2 := h1.up hb1; obtain ⟨d0, d1, d2, d3, _, _, _, _⟩ := h2.fourP; obtain ⟨la, lc, rfl, hrows, -⟩ := OwnR.is byQ_len (own_rowsQ.1 hown); clear h1 hA c0 c1 c2 c3 hown hb1)
    all_goals (go_ret; exact ⟨ret_bool Hres.out.symm, hA1⟩)
  | true =>
    rw [hok, Bool.true_and] at hpx
    have hR0 : 0 < (P.rowA x.a).length := by rw [P.rowA_len hok]; unfold P.wid; split <;> omega
    have hR1 := P.rowA_le x.a
    clear hok
    have Hpx := Lib.hid hpx
    clear hpx
    by_cases hn : x.bits < 0
    · have t1 : decide (x.bits < 0) = true := decide_eq_true hn
      have Hres := Lib.hid (show P.pxOk x = false by rw [Hpx.out, decide_eq_false (by omega), Bool.false_and])
      clear hn Hpx
      have h1 := Bx.fresh w 44 #[.int .u8 (x.a.fam : Nat), V64 x.a.hi, V64 x.a.lo, .int .i64 x.bits]
      have hA := (Below.refl w.heap.size w).alloc (Nat.le_refl _) (.cells #[.int .u8 (x.a.fam : Nat), V64 x.a.hi, V64 x.a.lo, .int .i64 x.bits] 44)
      obtain ⟨c0, c1, c2, c3, _, _, _, _⟩ := h1.fourP
      have HB := Lib.hid (fun wx => row20_any x.a ht.1 wx)
      generalize P.rowA x.a = R at *
      generalize P.pxOk x = res at *
      have t0 : (((R.length : Nat) : Int) == 0) = false := beq_eq_false_iff_ne.2 (by omega)
      go_enter Tryd.func38, Tryd.ntmps38
      go_wp2_with (go_at_call 76; (with_reducible refine (HB.out _).mono ?_); rintro e w1 ⟨v, rfl, hown, hb1⟩; have hA1 := Chain.up hA hb1; have h2 := h1.up hb1; obtain ⟨d0, d1, d2, d3, _, _, _, _⟩ := h2.fourP; obtain ⟨la, lc, rfl, hrows, -⟩ := OwnR.is byQ_len (own_rowsQ.1 hown); clear h1 hA c0 c1 c2 c3 hown hb1)
      all_goals (go_ret; exact ⟨ret_bool Hres.out.symm, hA1⟩)
    · have t1 : decide (x.bits < 0) = false := decide_eq_false hn
      by_cases hg : ((P.rowA x.a).length : Int) < x.bits
      · have t2 : decide (((P.rowA x.a).length : Int) < x.bits) = true := decide_eq_true hg
        have Hres := Lib.hid (show P.pxOk x = false by rw [Hpx.out, decide_eq_false (by omega), Bool.false_and])
        clear hn Hpx
        have h1 := Bx.fresh w 44 #[.int .u8 (x.a.fam : Nat), V64 x.a.hi, V64 x.a.lo, .int .i64 x.bits]
        have hA := (Below.refl w.heap.size w).alloc (Nat.le_refl _) (.cells #[.int .u8 (x.a.fam : Nat), V64 x.a.hi, V64 x.a.lo, .int .i64 x.bits] 44)
        obtain ⟨c0, c1, c2, c3, _, _, _, _⟩ := h1.fourP
        have HB := Lib.hid (fun wx => row20_any x.a ht.1 wx)
        generalize P.rowA x.a = R at *
        generalize P.pxOk x = res at *
        have t0 : (((R.length : Nat) : Int) == 0) = false := beq_eq_false_iff_ne.2 (by omega)
        clear hg
        go_enter Tryd.func38, Tryd.ntmps38
        go_wp2_with (go_at_call 76; (with_reducible refine (HB.out _).mono ?_); rintro e w1 ⟨v, rfl, hown, hb1⟩; have hA1 := Chain.up hA hb1; have h2 := h1.up hb1; obtain ⟨d0, d1, d2, d3, _, _, _, _⟩ := h2.fourP; obtain ⟨la, lc, rfl, hrows, -⟩ := OwnR.is byQ_len (own_rowsQ.1 hown); clear h1 hA c0 c1 c2 c3 hown hb1)
        all_goals (go_ret; exact ⟨ret_bool Hres.out.symm, hA1⟩)
      · have t2 : decide (((P.rowA x.a).length : Int) < x.bits) = false := decide_eq_false hg
        obtain ⟨b, hb⟩ : ∃ b : Nat, x.bits = (b : Int) := ⟨x.bits.toNat, by omega⟩
        have hbl : b ≤ (P.rowA x.a).length := by omega
        have Hres := Lib.hid (show P.pxOk x = P.freeB (P.rowA x.a) b by rw [Hpx.out, decide_eq_true (by omega), Bool.true_and, hb, Int.toNat_natCast])
        clear hn Hpx hg
        rw [hb] at t1 t2
        show Calls Tryd.prog 38 #[.agg #[.int .u8 (x.a.fam : Nat), V64 x.a.hi, V64 x.a.lo, .int .i64 x.bits]] w fun e w' => e = .returned (.bool (P.pxOk x)) ∧ Below w.heap.size w w'
        rw [hb]
        have h1 := Bx.fresh w 44 #[.int .u8 (x.a.fam : Nat), V64 x.a.hi, V64 x.a.lo, .int .i64 (b : Nat)]
        have hA := (Below.refl w.heap.size w).alloc (Nat.le_refl _) (.cells #[.int .u8 (x.a.fam : Nat), V64 x.a.hi, V64 x.a.lo, .int .i64 (b : Nat)] 44)
        obtain ⟨c0, c1, c2, c3, _, _, _, _⟩ := h1.fourP
        have HB := Lib.hid (fun wx => row20_any x.a ht.1 wx)
        generalize P.rowA x.a = R at *
        generalize P.pxOk x = res at *
        have t0 : (((R.length : Nat) : Int) == 0) = false := beq_eq_false_iff_ne.2 (by omega)
        clear hb
        go_enter Tryd.func38, Tryd.ntmps38
        go_wp2_with (go_at_call 76; (with_reducible refine (HB.out _).mono ?_); rintro e w1 ⟨v, rfl, hown, hb1⟩; have hA1 := Chain.up hA hb1; have h2 := h1.up hb1; obtain ⟨d0, d1, d2, d3, _, _, _, _⟩ := h2.fourP; obtain ⟨la, lc, rfl, hrows, -⟩ := OwnR.is byQ_len (own_rowsQ.1 hown); clear h1 hA c0 c1 c2 c3 hown hb1)
        go_loop [4] (fun i => ∃ k : Nat, k ≤ R.length ∧ i = .int .i64 ((k : Nat) : Int) ∧ P.freeB R b = P.freeB R k) (fun i => R.length - (intOf i).toNat)
        case atStart => exact ⟨b, hbl, rfl, rfl⟩
        case round =>
          obtain ⟨k, hk, rfl, hfr⟩ := hrel
          have Hfr := Lib.hid hfr
          clear hfr
          by_cases hkl : k < R.length
          · obtain ⟨bb, of, rfl, hlt, hc⟩ := hrows k hkl
            have hc0 : w1.cell? ⟨bb, of + k, none⟩ = some (.int .u8 ((R[k]).toNat : Int)) := by
              have h3 := hc 0 (by omega)
              simp only [Nat.mul_one, Nat.add_zero] at h3
              rw [h3]
              rfl
            have hkt : decide (((k : Nat) : Int) < ((R.length : Nat) : Int)) = true := decide_eq_true (by omega)
            have HK := Lib.hid hkl
            by_cases h1 : R[k] = 1
            · have t3 : (((R[k]).toNat : Int) == 1) = true := by rw [h1]; rfl
              have Hf := Lib.hid (show res = false by rw [Hres.out, Hfr.out]; exact P.freeB_one hkl h1)
              clear h1 hc hrows
              generalize R[k] = cv at *
              go_wp2_with fail
              all_goals (go_ret; exact ⟨ret_bool Hf.out.symm, hA1⟩)
            · have t3 : (((R[k]).toNat : Int) == 1) = false := beq_eq_false_iff_ne.2 (fun e => h1 (UInt8.toNat_inj.1 (by rw [show (1 : UInt8).toNat = 1 from rfl]; omega)))
              have Hf := Lib.hid (show P.freeB R b = P.freeB R (k + 1) by rw [Hfr.out]; exact P.freeB_not hkl h1)
              clear h1 hc hrows
              generalize R[k] = cv at *
              go_wp2_with fail
              go_round
              case rel => exact ⟨k + 1, by have := HK.out; omega, by go_num, Hf.out⟩
              case measure => simp [intOf]; have := HK.out; omega
          · have hkt : decide (((k : Nat) : Int) < ((R.length : Nat) : Int)) = false := decide_eq_false (by omega)
            have Hf := Lib.hid (show res = true by rw [Hres.out, Hfr.out, P.freeB_end (by omega)])
            clear hkt
            go_wp2_with fail
            all_goals (go_ret; exact ⟨ret_bool Hf.out.symm, hA1⟩)
end Go.Proofs.YtcobfoiajdbahaaDoor
namespace Go.Proofs.YtcobfoiajdbahaaDoor
open Go.RowKit
set_option linter.unusedVariables false
set_option linter.unusedSimpArgs false
end Go.Proofs.YtcobfoiajdbahaaDoor
