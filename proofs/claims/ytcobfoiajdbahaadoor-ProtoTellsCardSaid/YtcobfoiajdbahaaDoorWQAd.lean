/- The walks of addresses: Right, Bytes, FromBytes. -/
import Derived.Test.YtcobfoiajdbahaaDoorPQ
import Derived.Test.YtcobfoiajdbahaaDoorWBaseQ
namespace Go.Proofs.YtcobfoiajdbahaaDoor
open Go.RowKit
set_option linter.unusedVariables false
set_option linter.unusedSimpArgs false
abbrev adV (a : P.Ad) : Value := .agg #[.int .u8 (a.fam : Nat), V64 a.hi, V64 a.lo]
theorem str_dropQ (s : List UInt8) (k : Nat) : (ByteArray.mk s.toArray).extract k s.length = ⟨(s.drop k).toArray⟩ := by
  rw [ByteArray.extract_mk]
  congr 2
  exact List.take_of_length_le (by simp)
theorem str_takeQ (s : List UInt8) (k : Nat) : (ByteArray.mk s.toArray).extract 0 k = ⟨(s.take k).toArray⟩ := by
  rw [ByteArray.extract_mk]
  simp
set_option maxRecDepth 100000 in
set_option maxHeartbeats 2000000 in
theorem adRight_any (a : P.Ad) (ht : P.tyA a) (w : World) :
    Calls Tryd.prog 70 #[adV a] w fun e w' => e = .returned (.bool (P.adOk a)) ∧ Below w.heap.size w w' := by
  obtain ⟨fam, hi, lo⟩ := a
  obtain ⟨t1, t2, t3⟩ := ht
  simp only at t1 t2 t3
  by_cases h6 : fam = 6
  · have Hr := Lib.hid (show P.adOk ⟨fam, hi, lo⟩ = true by unfold P.adOk; simp [h6])
    generalize P.adOk ⟨fam, hi, lo⟩ = res at *
    subst h6
    go_enter Tryd.func70, Tryd.ntmps70
    go_wp2_with fail
    go_ret
    exact ⟨by rw [Hr.out]; rfl, (Below.refl _ _).alloc (Nat.le_refl _) _⟩
  · by_cases h4 : fam = 4
    · have Hr := Lib.hid (show P.adOk ⟨fam, hi, lo⟩ = (decide (hi = 0) && decide (lo < 4294967296)) by unfold P.adOk; simp [h4])
      generalize P.adOk ⟨fam, hi, lo⟩ = res at *
      subst h4
      clear h6
      by_cases hh : hi = 0
      · subst hh
        by_cases hl : lo < 4294967296
        · have hl2 : decide ((lo : Int) ≤ 4294967295) = true := decide_eq_true (by omega)
          have Hl := Lib.hid hl
          clear hl
          go_enter Tryd.func70, Tryd.ntmps70
          go_wp2_with fail
          go_ret
          exact ⟨by rw [Hr.out, decide_eq_true Hl.out]; rfl, (Below.refl _ _).alloc (Nat.le_refl _) _⟩
        · have hl2 : decide ((lo : Int) ≤ 4294967295) = false := decide_eq_false (by omega)
          have Hl := Lib.hid hl
          clear hl
          go_enter Tryd.func70, Tryd.ntmps70
          go_wp2_with fail
          go_ret
          exact ⟨by rw [Hr.out, decide_eq_false Hl.out]; rfl, (Below.refl _ _).alloc (Nat.le_refl _) _⟩
      · have hh2 : ((hi : Int) == 0) = false := beq_eq_false_iff_ne.2 (by omega)
        have Hh := Lib.hid hh
        clear hh
        go_enter Tryd.func70, Tryd.ntmps70
        go_wp2_with fail
        go_ret
        exact ⟨by rw [Hr.out, decide_eq_false Hh.out]; rfl, (Below.refl _ _).alloc (Nat.le_refl _) _⟩
    · have Hr := Lib.hid (show P.adOk ⟨fam, hi, lo⟩ = false by unfold P.adOk; simp [h6, h4])
      generalize P.adOk ⟨fam, hi, lo⟩ = res at *
      have g6 : ((fam : Int) == 6) = false := beq_eq_false_iff_ne.2 (by omega)
      have g4 : ((fam : Int) == 4) = false := beq_eq_false_iff_ne.2 (by omega)
      have H6 := Lib.hid h6
      have H4 := Lib.hid h4
      clear h6 h4
      go_enter Tryd.func70, Tryd.ntmps70
      go_wp2_with fail
      go_ret
      exact ⟨by rw [Hr.out]; rfl, (Below.refl _ _).alloc (Nat.le_refl _) _⟩
theorem big8 (n : Nat) (hn : n < 18446744073709551616) : P.bigS n 8 = P.be 8 n ∧ P.bigE n 8 = 0 := by
  have h := P.bigE_ok n 8 (by decide) (by decide) (P.dig_le n)
  exact ⟨h.2, h.1⟩
theorem bigPut8 (n : Nat) (hn : n < 18446744073709551616) (w : World) :
    Calls Tryd.prog 72 #[V64 n, .int .i64 8] w fun e w' => e = .returned (.tuple #[S (P.be 8 n), .int .i64 0]) ∧ Below w.heap.size w w' := by
  have h := bigPut_any n 8 w hn (by omega) (by omega)
  rw [(big8 n hn).1, (big8 n hn).2] at h
  exact h
attribute [local go_sem] str_dropQ str_takeQ str_app
set_option maxRecDepth 100000 in
set_option maxHeartbeats 2000000 in
theorem adBytes_any (a : P.Ad) (ht : P.tyA a) (w : World) :
    Calls Tryd.prog 73 #[adV a] w fun e w' => e = .returned (S (P.adB a)) ∧ Below w.heap.size w w' := by
  have HR := Lib.hid (fun wx => adRight_any a ht wx)
  have HB1 := Lib.hid (fun wx => bigPut8 a.hi ht.2.1 wx)
  have HB2 := Lib.hid (fun wx => bigPut8 a.lo ht.2.2 wx)
  cases ho : P.adOk a with
  | false =>
    have Hr := Lib.hid (show P.adB a = [] by unfold P.adB; rw [ho]; rfl)
    rw [ho] at HR
    generalize P.adB a = res at *
    clear ho HB1 HB2
    go_enter Tryd.func73, Tryd.ntmps73
    go_wp2_with (go_at_call 70; (with_reducible refine (HR.out _).mono ?_); rintro e w1 ⟨rfl, hb1⟩)
    go_ret
    exact ⟨by rw [Hr.out]; rfl, Chain.up ((Below.refl _ _).alloc (Nat.le_refl _) _) hb1⟩
  | true =>
    rw [ho] at HR
    have h1 := P.be_length 8 a.hi
    have h2 := P.be_length 8 a.lo
    have H4 := Lib.hid (fun hf => P.adB_four ho (a := a) hf)
    have H6 := Lib.hid (fun hf => P.adB_six ho (a := a) hf)
    have hc := P.adOk_cases ho
    have Hcut := Lib.hid (show a.lo < 4294967296 → (P.be 8 a.hi ++ P.be 8 a.lo).drop 12 = P.be 4 a.lo from fun hl => by
      have e : P.be 8 a.lo = P.be 4 (a.lo / 256 ^ 4) ++ P.be 4 a.lo := by
        refine List.ext_getElem (by simp [P.be_length]) (fun i hi hj => ?_)
        rw [P.be_at, List.getElem_append]
        simp only [P.be_length] at hi ⊢
        split
        · rename_i hlt
          rw [P.be_at, Nat.div_div_eq_div_mul, ← Nat.pow_add]
          congr 3
          omega
        · rename_i hge
          rw [P.be_at]
          congr 3
          omega
      rw [e, ← List.append_assoc, show 12 = (P.be 8 a.hi ++ P.be 4 (a.lo / 256 ^ 4)).length by simp [P.be_length], List.drop_left])
    rcases hc with hf | ⟨hf, hh, hl⟩
    · have Hr := Lib.hid (H6.out hf)
      generalize P.adB a = res at *
      clear Hcut H4 H6 ho
      generalize P.be 8 a.hi = x at *
      generalize P.be 8 a.lo = y at *
      have hf4 : ((a.fam : Int) == 4) = false := beq_eq_false_iff_ne.2 (by omega)
      have hxl : x.length + y.length ≤ 16 := by omega
      clear h1 h2 hf
      go_enter Tryd.func73, Tryd.ntmps73
      go_wp2_with (first
        | (go_at_call 70; (with_reducible refine (HR.out _).mono ?_); rintro e w1 ⟨rfl, hb1⟩; have hx1 := (Bx.fresh w 24 #[.int .u8 (a.fam : Nat), V64 a.hi, V64 a.lo]).up hb1; have hc1 := Chain.up ((Below.refl w.heap.size w).alloc (Nat.le_refl _) _) hb1; obtain ⟨c0, c1, c2, _, _, _⟩ := hx1.three; clear hb1)
        | (go_at_call 72; (with_reducible refine (HB1.out _).mono ?_); rintro e w2 ⟨rfl, hb2⟩; have hx2 := hx1.up hb2; obtain ⟨d0, d1, d2, _, _, _⟩ := hx2.three; have hc2 := Chain.up hc1 hb2)
        | (go_at_call 72; (with_reducible refine (HB2.out _).mono ?_); rintro e w3 ⟨rfl, hb3⟩; have hx3 := hx2.up hb3; obtain ⟨e0, e1, e2, _, _, _⟩ := hx3.three; have hc3 := Chain.up hc2 hb3))
      go_ret
      exact ⟨by rw [Hr.out]; rfl, hc3⟩
    · have Hr := Lib.hid (show P.adB a = (P.be 8 a.hi ++ P.be 8 a.lo).drop 12 by rw [H4.out hf, Hcut.out hl])
      generalize P.adB a = res at *
      clear Hcut H4 H6 ho hl
      generalize P.be 8 a.hi = x at *
      generalize P.be 8 a.lo = y at *
      have Hxy := Lib.hid (show (x ++ y).length = 16 by rw [List.length_append]; omega)
      have hle : 12 ≤ (x ++ y).length := by have := Hxy.out; omega
      have hf4 : ((a.fam : Int) == 4) = true := beq_iff_eq.2 (by omega)
      have hxl : x.length + y.length ≤ 16 := by omega
      have hxm : 12 ≤ x.length + y.length := by omega
      clear h1 h2 hf hh
      go_enter Tryd.func73, Tryd.ntmps73
      go_wp2_with (first
        | (go_at_call 70; (with_reducible refine (HR.out _).mono ?_); rintro e w1 ⟨rfl, hb1⟩; have hx1 := (Bx.fresh w 24 #[.int .u8 (a.fam : Nat), V64 a.hi, V64 a.lo]).up hb1; have hc1 := Chain.up ((Below.refl w.heap.size w).alloc (Nat.le_refl _) _) hb1; obtain ⟨c0, c1, c2, _, _, _⟩ := hx1.three; clear hb1)
        | (go_at_call 72; (with_reducible refine (HB1.out _).mono ?_); rintro e w2 ⟨rfl, hb2⟩; have hx2 := hx1.up hb2; obtain ⟨d0, d1, d2, _, _, _⟩ := hx2.three; have hc2 := Chain.up hc1 hb2)
        | (go_at_call 72; (with_reducible refine (HB2.out _).mono ?_); rintro e w3 ⟨rfl, hb3⟩; have hx3 := hx2.up hb3; obtain ⟨e0, e1, e2, _, _, _⟩ := hx3.three; have hc3 := Chain.up hc2 hb3))
      go_ret
      exact ⟨by rw [Hr.out]; exact congrArg (fun z => Ending.returned (Value.string z)) (show (ByteArray.mk (x ++ y).toArray).extract 12 (x.length + y.length) = ⟨((x ++ y).drop 12).toArray⟩ by rw [← List.length_append]; exact str_dropQ _ _), hc3⟩
theorem big8_any (s : List UInt8) (n : Int) (hn : n = 8) (w : World) (hs : s.length ≤ 1000000000) :
    Calls Tryd.prog 81 #[S s, .int .i64 n] w fun e w' => e = .returned (.tuple #[V64 (P.bigNum s n), .bool (P.bigOk s n)]) ∧ Below w.heap.size w w' := big_any s n w (by omega) (by omega) (by omega)
theorem P.bigNum_val (s : List UInt8) (k : Nat) (h1 : 1 ≤ k) (h8 : k ≤ 8) (h : k ≤ s.length) : P.bigNum s k = P.val (s.take k) ∧ P.bigOk s k = true := by
  have ho : P.bigOk s k = true := by unfold P.bigOk; simp only [decide_eq_true_eq]; omega
  refine ⟨?_, ho⟩
  unfold P.bigNum
  rw [if_pos ho, Int.toNat_natCast]
set_option maxRecDepth 100000 in
set_option maxHeartbeats 2000000 in
theorem fromB_any (fam : Nat) (s : List UInt8) (hf : fam < 256) (hs : s.length ≤ 1000000000) (w : World) :
    Calls Tryd.prog 83 #[.int .u8 (fam : Nat), S s] w fun e w' => e = .returned (.tuple #[adV (P.fromB fam s).1, .bool (P.fromB fam s).2]) ∧ Below w.heap.size w w' := by
  by_cases h4 : fam = 4 ∧ s.length = 4
  · obtain ⟨rfl, hl⟩ := h4
    have Hr := Lib.hid (show P.fromB 4 s = (⟨4, 0, P.val s⟩, true) by unfold P.fromB; rw [if_pos ⟨rfl, hl⟩])
    have HB := Lib.hid (fun wx => show Calls Tryd.prog 81 #[S s, .int .i64 4] wx fun e w' => e = .returned (.tuple #[V64 (P.val s), .bool true]) ∧ Below wx.heap.size wx w' from by
      have h := big_any s 4 wx (by omega) (by omega) (by omega)
      have := P.bigNum_val s 4 (by omega) (by omega) (by omega)
      rw [List.take_of_length_le (by omega)] at this
      rw [show (4 : Int) = ((4 : Nat) : Int) from rfl, this.1, this.2] at h
      exact h)
    generalize P.fromB 4 s = res at *
    generalize P.val s = n at *
    have hl2 : ((s.length : Nat) : Int) = 4 := by omega
    clear hl
    go_enter Tryd.func83, Tryd.ntmps83
    go_wp2_with (go_at_call 81; (with_reducible refine (HB.out _).mono ?_); rintro e w1 ⟨rfl, hb1⟩; have hx1 := (Bx.fresh w 24 #[.int .u8 0, .int .u64 0, .int .u64 0]).up hb1; have hc1 := Chain.up ((Below.refl w.heap.size w).alloc (Nat.le_refl _) _) hb1; obtain ⟨c0, c1, c2, f0, f1, f2⟩ := hx1.three; clear hb1)
    have hx2 := hx1.set3 (.int .u8 4) (.int .u64 0) (V64 n)
    obtain ⟨q0, q1, q2, _, _, _⟩ := hx2.three
    exact bodyPost_ret (v := .tuple #[.agg #[.int .u8 4, (.int .u64 0), (V64 n)], .bool true]) (by simp [results, Tryd.results83, go_sem, q0, q1, q2]) rfl ⟨by rw [Hr.out]; rfl, ((hc1.setCell (Nat.le_refl _) _).setCell (Nat.le_refl _) _).setCell (Nat.le_refl _) _⟩
  · by_cases h6 : fam = 6 ∧ s.length = 16
    · obtain ⟨rfl, hl⟩ := h6
      have Hr := Lib.hid (show P.fromB 6 s = (⟨6, P.val (s.take 8), P.val (s.drop 8)⟩, true) by unfold P.fromB; rw [if_neg (by simp), if_pos ⟨rfl, hl⟩])
      have HB := Lib.hid (fun wx => show Calls Tryd.prog 81 #[S s, .int .i64 8] wx fun e w' => e = .returned (.tuple #[V64 (P.val (s.take 8)), .bool true]) ∧ Below wx.heap.size wx w' from by
        have h := big_any s 8 wx (by omega) (by omega) (by omega)
        have := P.bigNum_val s 8 (by omega) (by omega) (by omega)
        rw [show (8 : Int) = ((8 : Nat) : Int) from rfl, this.1, this.2] at h
        exact h)
      have HC := Lib.hid (fun wx => show Calls Tryd.prog 81 #[S (s.drop 8), .int .i64 8] wx fun e w' => e = .returned (.tuple #[V64 (P.val (s.drop 8)), .bool true]) ∧ Below wx.heap.size wx w' from by
        have hd : (s.drop 8).length = 8 := by rw [List.length_drop]; omega
        have h := big_any (s.drop 8) 8 wx (by omega) (by omega) (by omega)
        have := P.bigNum_val (s.drop 8) 8 (by omega) (by omega) (by omega)
        rw [List.take_of_length_le (by omega)] at this
        rw [show (8 : Int) = ((8 : Nat) : Int) from rfl, this.1, this.2] at h
        exact h)
      generalize P.fromB 6 s = res at *
      generalize P.val (s.take 8) = n at *
      generalize P.val (s.drop 8) = m at *
      have hl2 : ((s.length : Nat) : Int) = 16 := by omega
      clear hl h4
      go_enter Tryd.func83, Tryd.ntmps83
      go_wp2_with (first
        | (go_at_call 81; (with_reducible refine (HB.out _).mono ?_); rintro e w1 ⟨rfl, hb1⟩; have hx1 := (Bx.fresh w 24 #[.int .u8 0, .int .u64 0, .int .u64 0]).up hb1; have hc1 := Chain.up ((Below.refl w.heap.size w).alloc (Nat.le_refl _) _) hb1; clear hb1)
        | (go_at_call 81; (with_reducible refine (HC.out _).mono ?_); rintro e w2 ⟨rfl, hb2⟩; have hx2 := hx1.up hb2; have hc2 := Chain.up hc1 hb2; obtain ⟨c0, c1, c2, f0, f1, f2⟩ := hx2.three; clear hb2))
      have hx3 := hx2.set3 (.int .u8 6) (V64 n) (V64 m)
      obtain ⟨q0, q1, q2, _, _, _⟩ := hx3.three
      exact bodyPost_ret (v := .tuple #[.agg #[.int .u8 6, (V64 n), (V64 m)], .bool true]) (by simp [results, Tryd.results83, go_sem, q0, q1, q2]) rfl ⟨by rw [Hr.out]; rfl, ((hc2.setCell (Nat.le_refl _) _).setCell (Nat.le_refl _) _).setCell (Nat.le_refl _) _⟩
    · have Hr := Lib.hid (show P.fromB fam s = (P.noA, false) by unfold P.fromB; rw [if_neg h4, if_neg h6])
      generalize P.fromB fam s = res at *
      have hx1 := Bx.fresh w 24 #[.int .u8 0, .int .u64 0, .int .u64 0]
      obtain ⟨c0, c1, c2, f0, f1, f2⟩ := hx1.three
      have hc1 := (Below.refl w.heap.size w).alloc (Nat.le_refl _) (.cells #[.int .u8 0, .int .u64 0, .int .u64 0] 24)
      have key : ∀ (b4 b6 : Bool), ((fam : Int) == 4) = b4 → ((fam : Int) == 6) = b6 → (b4 = true → ((s.length : Int) == 4) = false) → (b6 = true → ((s.length : Int) == 16) = false) →
          Calls Tryd.prog 83 #[.int .u8 (fam : Nat), S s] w fun e w' => e = .returned (.tuple #[adV res.1, .bool res.2]) ∧ Below w.heap.size w w' := by
        intro b4 b6 e4 e6 l4 l6
        clear h4 h6
        cases b4 <;> cases b6
        all_goals
          (try have l4' := l4 rfl)
          (try have l6' := l6 rfl)
          clear l4 l6
          go_enter Tryd.func83, Tryd.ntmps83
          go_wp2_with fail
          exact bodyPost_ret (v := .tuple #[.agg #[.int .u8 0, .int .u64 0, .int .u64 0], .bool false]) (by simp [results, Tryd.results83, go_sem]) rfl ⟨by rw [Hr.out]; rfl, hc1⟩
      refine key _ _ rfl rfl (fun h => ?_) (fun h => ?_)
      · have : (fam : Int) = 4 := by simpa using h
        exact beq_eq_false_iff_ne.2 (fun hl => h4 ⟨by omega, by omega⟩)
      · have : (fam : Int) = 6 := by simpa using h
        exact beq_eq_false_iff_ne.2 (fun hl => h6 ⟨by omega, by omega⟩)
end Go.Proofs.YtcobfoiajdbahaaDoor
