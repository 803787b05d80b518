/- The walk of frame.one: the record that a text begins with. -/
import Derived.Test.YtmfabbncoekjhaaDoorWFrameW
import Derived.Test.YtmfabbncoekjhaaDoorWRead
import Derived.Test.YtmfabbncoekjhaaDoorWBox
namespace Go.Proofs.YtmfabbncoekjhaaDoor
open Go.RowKit
set_option linter.unusedVariables false

/-- The record that a text begins with, and how many bytes its frame has; no byte: there is none. -/
def P.oneR (s : List UInt8) : List UInt8 := match P.one s with
  | some (r, _) => r
  | none => []
def P.oneN (s : List UInt8) : Nat := match P.one s with
  | some (_, m) => 32 * m
  | none => 0
theorem P.one_is {s r : List UInt8} {m : Nat} (h : P.one s = some (r, m)) : P.oneR s = r ∧ P.oneN s = 32 * m := by unfold P.oneR P.oneN; rw [h]; exact ⟨rfl, rfl⟩
theorem P.one_no {s : List UInt8} (h : P.one s = none) : P.oneR s = [] ∧ P.oneN s = 0 := by unfold P.oneR P.oneN; rw [h]; exact ⟨rfl, rfl⟩
theorem str_mid (s : List UInt8) (k : Nat) : (ByteArray.mk s.toArray).extract k (k + 32) = ⟨((s.drop k).take 32).toArray⟩ := by
  rw [ByteArray.extract_mk, Nat.add_sub_cancel_left]

attribute [local go_sem] str_takeN str_dropN

set_option maxRecDepth 100000 in
set_option maxHeartbeats 4000000 in
theorem oneF_any (s : List UInt8) (w : World) (hs : s.length ≤ 1000000000000) (ht : TabOk w) :
    Calls Tryd.prog 20 #[S s] w fun e w' => e = .returned (.tuple #[S (P.oneR s), .int .i64 (P.oneN s)]) ∧ Below w.heap.size w w' := by
  have hB0 : 0 < w.heap.size := ht.1
  have Ht := Lib.hid ht
  clear ht
  go_enter Tryd.func20, Tryd.ntmps20
  go_wp2
  go_loopw [3, 5] (fun z n wr => ∃ (k : Nat) (acc : List UInt8), n = .int .i64 k ∧ z = .int .i64 ((32 * k : Nat) : Int) ∧ 32 * k ≤ s.length ∧ acc.length ≤ 24 * k ∧ P.one s = P.oneFrom (s.drop (32 * k)) k acc ∧ Bld wr w.heap.size w.heap.size acc ∧ Below w.heap.size w wr) (fun z _ _ => s.length - (intOf z).toNat)
  case atStart => exact ⟨0, [], rfl, rfl, by omega, by simp, rfl, Bld.fresh w, (Below.refl _ _).alloc (Nat.le_refl _) _⟩
  case round =>
    obtain ⟨k, acc, rfl, rfl, hk, hacc, hone, hbld, hb⟩ := hrel
    have hbs := hb.size
    have Hone := Lib.hid hone
    clear hone
    have HL := Lib.hid (fun wx hx => len_any w.heap.size w.heap.size acc wx hx)
    by_cases hend : s.length < 32 * k + 32
    · have Hno := Lib.hid (P.one_no (s := s) (by rw [Hone.out]; exact P.one_end (.inl (by simp; omega))))
      have hei : (s.length : Int) < ((32 * k : Nat) : Int) + 32 := by omega
      go_wp2
      exact bodyPost_ret (v := .tuple #[S [], .int .i64 0]) (by simp [results, Tryd.results20, go_sem]) rfl ⟨by rw [Hno.out.1, Hno.out.2]; rfl, hb⟩
    · have hei : ((32 * k : Nat) : Int) + 32 ≤ (s.length : Int) := by omega
      by_cases hbig : 524288 < acc.length
      · have Hno := Lib.hid (P.one_no (s := s) (by rw [Hone.out]; exact P.one_end (.inr hbig)))
        go_wp2_with (go_at_call 25; (with_reducible refine (HL.out _ hbld).mono ?_); rintro e w1 ⟨rfl, rfl⟩)
        exact bodyPost_ret (v := .tuple #[S [], .int .i64 0]) (by simp [results, Tryd.results20, go_sem]) rfl ⟨by rw [Hno.out.1, Hno.out.2]; rfl, hb⟩
      · have hmid := str_mid s (32 * k)
        have HR := Lib.hid (fun wx hx => read_any ((s.drop (32 * k)).take 32) wx (by simp; omega) hx)
        have hel : ((s.drop (32 * k)).take 32).length = 32 := by simp; omega
        have Hdl := Lib.hid (show (s.drop (32 * k)).length = s.length - 32 * k by simp)
        have Hdd := Lib.hid (show (s.drop (32 * k)).drop 32 = s.drop (32 * (k + 1)) by rw [List.drop_drop]; congr 1)
        have haccb : acc.length ≤ 524288 := by omega
        have hmidi : (0 : Int) ≤ ((32 * k : Nat) : Int) := by omega
        by_cases hrd : P.reads ((s.drop (32 * k)).take 32) = true
        · have Hcd := Lib.hid (P.read_is hrd)
          have hm := P.reads_may hrd
          have hdl := P.may_len hm
          rw [Hcd.out, hrd] at HR
          by_cases hnum : (P.cand ((s.drop (32 * k)).take 32)).num = k
          · have Hr := Lib.hid (And.intro hrd hnum)
            have HL2 := Lib.hid (fun wx hx => len_any w.heap.size w.heap.size (acc ++ (P.cand ((s.drop (32 * k)).take 32)).data) wx hx)
            have HS2 := Lib.hid (fun wx hx hB => string_any w.heap.size w.heap.size (acc ++ (P.cand ((s.drop (32 * k)).take 32)).data) wx hx hB)
            have HW := Lib.hid (fun wx hx hl hB => write_any w.heap.size w.heap.size acc (P.cand ((s.drop (32 * k)).take 32)).data wx hx hl hB)
            have Hlast := Lib.hid (fun a b => P.one_last (s := s.drop (32 * k)) (acc := acc) (n := k) (by rw [Hdl.out]; omega) haccb Hr.out a b)
            have Hmore := Lib.hid (fun a => P.one_more (s := s.drop (32 * k)) (acc := acc) (n := k) (by rw [Hdl.out]; omega) haccb Hr.out a)
            rw [Hdd.out, ← Hone.out] at Hmore
            rw [← Hone.out] at Hlast
            clear Hcd hm Hr
            generalize (s.drop (32 * k)).take 32 = e at *
            generalize P.cand e = c at *
            obtain ⟨f, l, n, d⟩ := c
            simp only at hnum hdl
            subst hnum
            have Hnext := Lib.hid (show ((32 * (k + 1) : Nat) : Int) = ((32 * k : Nat) : Int) + 32 by omega)
            have Hz := Lib.hid (show 32 * k = 32 * k from rfl)
            by_cases hfin : l = true ∧ (acc ++ d).length ≤ 524288
            · obtain ⟨rfl, hfl⟩ := hfin
              have Hi := Lib.hid (P.one_is (Hlast.out rfl hfl))
              have hfi : (acc.length : Int) + (d.length : Int) ≤ 524288 := by simp at hfl; omega
              go_wp2_with (first
                | (go_at_call 25; (with_reducible refine (HL.out _ hbld).mono ?_); rintro e w1 ⟨rfl, rfl⟩)
                | (go_at_call 26; (with_reducible refine (HR.out _ (Ht.out.below hb hB0)).mono ?_); rintro e w2 ⟨rfl, hb2⟩; have hb3 := Chain.up hb hb2; have hbld2 := (hbld.up hb2).up ((Below.refl w2.heap.size w2).alloc (Nat.le_refl _) (.cells #[.bool f, .bool true, .int .i64 k, S d] 51)); have hbox := Box.fresh w2 51 f true k d; have hb4 := hb3.alloc hb3.size (.cells #[.bool f, .bool true, .int .i64 k, S d] 51); have hne : w2.heap.size ≠ w.heap.size := by have := hbld.lt; have := hb2.size; omega)
                | (go_at_call 24; (with_reducible refine (HW.out _ hbld2 ?hl ?hB).mono ?_); (case hl => omega); (case hB => exact hb4.size); rintro e w3 ⟨rfl, hbld3, hb5, hkept⟩; have hb6 := hb4.trans hb5; obtain ⟨x0, x1, x2, x3⟩ := Box.cell (hkept _ _ _ (by decide) hne hbox))
                | (go_at_call 25; (with_reducible refine (HL2.out _ hbld3).mono ?_); rintro e w4 ⟨rfl, rfl⟩)
                | (go_at_call 19; (with_reducible refine (HS2.out _ hbld3 hb6.size).mono ?_); rintro e w5 ⟨rfl, hb7⟩))
              exact bodyPost_ret (v := .tuple #[S (acc ++ d), .int .i64 (32 * (k : Int) + 32)]) (by simp [results, Tryd.results20, go_sem]) rfl ⟨by rw [Hi.out.1, Hi.out.2, show ((32 * (k + 1) : Nat) : Int) = 32 * (k : Int) + 32 by omega], hb6.trans hb7⟩
            · have Hm := Lib.hid (Hmore.out hfin)
              cases l with
              | true =>
                have hfi : (524288 : Int) < (acc.length : Int) + (d.length : Int) := by
                  by_cases h : (acc ++ d).length ≤ 524288
                  · exact absurd ⟨rfl, h⟩ hfin
                  · simp at h; omega
                clear hfin
                go_wp2_with (first
                | (go_at_call 25; (with_reducible refine (HL.out _ hbld).mono ?_); rintro e w1 ⟨rfl, rfl⟩)
                | (go_at_call 26; (with_reducible refine (HR.out _ (Ht.out.below hb hB0)).mono ?_); rintro e w2 ⟨rfl, hb2⟩; have hb3 := Chain.up hb hb2; have hbld2 := (hbld.up hb2).up ((Below.refl w2.heap.size w2).alloc (Nat.le_refl _) (.cells #[.bool f, .bool true, .int .i64 k, S d] 51)); have hbox := Box.fresh w2 51 f true k d; have hb4 := hb3.alloc hb3.size (.cells #[.bool f, .bool true, .int .i64 k, S d] 51); have hne : w2.heap.size ≠ w.heap.size := by have := hbld.lt; have := hb2.size; omega)
                | (go_at_call 24; (with_reducible refine (HW.out _ hbld2 ?hl ?hB).mono ?_); (case hl => omega); (case hB => exact hb4.size); rintro e w3 ⟨rfl, hbld3, hb5, hkept⟩; have hb6 := hb4.trans hb5; obtain ⟨x0, x1, x2, x3⟩ := Box.cell (hkept _ _ _ (by decide) hne hbox))
                | (go_at_call 25; (with_reducible refine (HL2.out _ hbld3).mono ?_); rintro e w4 ⟨rfl, rfl⟩)
                | (go_at_call 19; (with_reducible refine (HS2.out _ hbld3 hb6.size).mono ?_); rintro e w5 ⟨rfl, hb7⟩))
                go_roundw
                case rel => exact ⟨k + 1, acc ++ d, by go_num, congrArg (Value.int .i64) (by omega), by omega, by simp; omega, Hm.out, hbld3, hb6⟩
                case measure => simp [intOf]; omega
              | false =>
                clear hfin
                go_wp2_with (first
                | (go_at_call 25; (with_reducible refine (HL.out _ hbld).mono ?_); rintro e w1 ⟨rfl, rfl⟩)
                | (go_at_call 26; (with_reducible refine (HR.out _ (Ht.out.below hb hB0)).mono ?_); rintro e w2 ⟨rfl, hb2⟩; have hb3 := Chain.up hb hb2; have hbld2 := (hbld.up hb2).up ((Below.refl w2.heap.size w2).alloc (Nat.le_refl _) (.cells #[.bool f, .bool false, .int .i64 k, S d] 51)); have hbox := Box.fresh w2 51 f false k d; have hb4 := hb3.alloc hb3.size (.cells #[.bool f, .bool false, .int .i64 k, S d] 51); have hne : w2.heap.size ≠ w.heap.size := by have := hbld.lt; have := hb2.size; omega)
                | (go_at_call 24; (with_reducible refine (HW.out _ hbld2 ?hl ?hB).mono ?_); (case hl => omega); (case hB => exact hb4.size); rintro e w3 ⟨rfl, hbld3, hb5, hkept⟩; have hb6 := hb4.trans hb5; obtain ⟨x0, x1, x2, x3⟩ := Box.cell (hkept _ _ _ (by decide) hne hbox))
                | (go_at_call 25; (with_reducible refine (HL2.out _ hbld3).mono ?_); rintro e w4 ⟨rfl, rfl⟩)
                | (go_at_call 19; (with_reducible refine (HS2.out _ hbld3 hb6.size).mono ?_); rintro e w5 ⟨rfl, hb7⟩))
                go_roundw
                case rel => exact ⟨k + 1, acc ++ d, by go_num, congrArg (Value.int .i64) (by omega), by omega, by simp; omega, Hm.out, hbld3, hb6⟩
                case measure => simp [intOf]; omega
          · have Hno := Lib.hid (P.one_no (s := s) (by rw [Hone.out]; exact P.one_bad (fun h => hnum h.2)))
            clear Hcd hm
            generalize (s.drop (32 * k)).take 32 = e at *
            generalize P.cand e = c at *
            obtain ⟨f, l, n, d⟩ := c
            simp only at hnum hdl
            go_wp2_with (first
              | (go_at_call 25; (with_reducible refine (HL.out _ hbld).mono ?_); rintro e w1 ⟨rfl, rfl⟩)
              | (go_at_call 26; (with_reducible refine (HR.out _ (Ht.out.below hb hB0)).mono ?_); rintro e w2 ⟨rfl, hb2⟩; have hb3 := Chain.up hb hb2))
            exact bodyPost_ret (v := .tuple #[S [], .int .i64 0]) (by simp [results, Tryd.results20, go_sem]) rfl ⟨by rw [Hno.out.1, Hno.out.2]; rfl, hb3.alloc hb3.size _⟩
        · have hrd' : P.reads ((s.drop (32 * k)).take 32) = false := by simpa using hrd
          have Hno := Lib.hid (P.one_no (s := s) (by rw [Hone.out]; exact P.one_bad (fun h => hrd h.1)))
          rw [hrd'] at HR
          clear hrd hrd'
          generalize (s.drop (32 * k)).take 32 = e at *
          generalize P.read e = c at *
          obtain ⟨f, l, n, d⟩ := c
          go_wp2_with (first
            | (go_at_call 25; (with_reducible refine (HL.out _ hbld).mono ?_); rintro e w1 ⟨rfl, rfl⟩)
            | (go_at_call 26; (with_reducible refine (HR.out _ (Ht.out.below hb hB0)).mono ?_); rintro e w2 ⟨rfl, hb2⟩; have hb3 := Chain.up hb hb2))
          exact bodyPost_ret (v := .tuple #[S [], .int .i64 0]) (by simp [results, Tryd.results20, go_sem]) rfl ⟨by rw [Hno.out.1, Hno.out.2]; rfl, hb3.alloc hb3.size _⟩
end Go.Proofs.YtmfabbncoekjhaaDoor
