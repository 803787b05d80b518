/- The walk of block.next: an entry at a place. -/
import Derived.Test.YthaiekilifoegaaWKey
import Derived.Test.YthaiekilifoegaaWText
import Derived.Test.YthaiekilifoegaaPBlock
namespace Go.Proofs.Ythaiekilifoegaa
open Go.RowKit
set_option linter.unusedVariables false
set_option linter.unusedSimpArgs false

theorem str_tail (s : List UInt8) (k : Nat) : (ByteArray.mk s.toArray).extract k s.length = ⟨(s.drop k).toArray⟩ := by
  rw [ByteArray.extract_mk]
  congr 2
  exact List.take_of_length_le (by simp)
attribute [local go_sem] str_tail

/-- What next gives back. -/
def NextP (t : List UInt8) (n : Nat) (v : Value) (k : List UInt8) (w : World) (e : Ending) (w' : World) : Prop :=
  Below w.heap.size w w' ∧
  (P.eOk t k.length = true → ∃ v', e = .returned (.tuple #[v', S (P.eVal t), .int .i64 ((n + P.eSize t : Nat) : Int)]) ∧ KeyV w' v' (P.eKey t k) ∧ (v'.ownBlock = v.ownBlock ∨ ∀ g, v'.ownBlock = some g → w.heap.size ≤ g)) ∧
  (P.eOk t k.length = false → e = .returned (.tuple #[.slice none 0 0, S [], .int .i64 (-1)]))

set_option maxRecDepth 100000 in
set_option maxHeartbeats 4000000 in
theorem next_any (s : List UInt8) (n : Nat) (v : Value) (k : List UInt8) (w : World) (hs : s.length ≤ 1000000) (hn : n ≤ s.length) (hv : KeyV w v k) (hk : k.length ≤ 900000) :
    Calls Try.prog 29 #[S s, .int .i64 n, v] w (NextP (s.drop n) n v k w) := by
  obtain ⟨ao, c, rfl, _, hkc⟩ := hv.is
  have HV := Lib.hid hv
  have hni : (n : Int) ≤ (s.length : Int) := by omega
  have hdl : (s.drop n).length = s.length - n := by simp
  obtain ⟨t, ht⟩ : ∃ t, t = s.drop n := ⟨_, rfl⟩
  rw [← ht] at hdl ⊢
  have HRV := Lib.hid (fun wx => readVar_any t wx (by omega))
  cases hok : P.rOk t with
  | false =>
    rw [hok] at HRV
    have he : P.eOk t k.length = false := by unfold P.eOk; rw [hok]; rfl
    clear hok
    generalize P.rNum t = rn at *
    generalize P.rSize t = rz at *
    go_enter Try.func29, Try.ntmps29
    go_wp2_with (go_at_call 43; (try rw [← ht]); (with_reducible refine (HRV.out _).mono ?_); rintro e w1 ⟨rfl, hb1⟩)
    exact bodyPost_ret (v := .tuple #[.slice none 0 0, S [], .int .i64 (-1)]) (by simp [results, Try.results29, go_sem]) rfl ⟨hb1, fun h => (by rw [he] at h; cases h), fun _ => rfl⟩
  | true =>
    obtain ⟨hz1, hz2, _, hn64⟩ := P.row_read t hok
    by_cases hnk : P.rNum t ≤ k.length
    · have hu1 : P.s1 t = s.drop (n + P.rSize t) := by unfold P.s1; rw [ht, List.drop_drop]
      have hul : (P.s1 t).length = t.length - P.rSize t := by unfold P.s1; simp
      have hE : P.eOk t k.length = (P.tOk (P.s1 t) 1024 && P.tOk (P.s2 t) 1024) := by unfold P.eOk; rw [hok, decide_eq_true hnk]; rfl
      have hS2 : P.s2 t = (P.s1 t).drop (P.tSize (P.s1 t) 1024) := rfl
      have hKey : P.eKey t k = k.take (P.rNum t) ++ P.tText (P.s1 t) 1024 := rfl
      have hVal : P.eVal t = P.tText (P.s2 t) 1024 := rfl
      have hSz : P.eSize t = P.rSize t + P.tSize (P.s1 t) 1024 + P.tSize (P.s2 t) 1024 := rfl
      have hsl := fun h => P.eSize_le (s := t) (m := k.length) h
      rw [hok] at HRV
      clear hok
      obtain ⟨u, hu⟩ : ∃ u, u = s.drop (n + P.rSize t) := ⟨_, rfl⟩
      rw [← hu] at hu1
      rw [hu1] at hul hE hS2 hKey hSz hsl
      obtain ⟨x, hx0⟩ : ∃ x, x = P.s2 t := ⟨_, rfl⟩
      rw [← hx0] at hE hS2 hVal hSz
      have HT1 := Lib.hid (fun wx => readText_any u 1024 wx (by omega) (by omega) (by omega))
      have hm64 : P.rNum t < 18446744073709551616 := hn64
      have hgt : ¬ (k.length < P.rNum t) := by omega
      have hwk : IntKind.u64.wrap (k.length : Int) = (k.length : Int) := by rw [IntKind.wrap_u64]; omega
      generalize P.rNum t = rn at *
      generalize hrz : P.rSize t = rz at *
      obtain ⟨n1, hn1⟩ : ∃ n1 : Nat, n + rz = n1 := ⟨_, rfl⟩
      rw [hn1] at hu
      have hi1 : (n : Int) + (rz : Int) = (n1 : Int) := by omega
      have hn1i : (n1 : Int) ≤ (s.length : Int) := by omega
      cases hok1 : P.tOk u 1024 with
      | false =>
        rw [hok1] at HT1 hE
        have he : P.eOk t k.length = false := by rw [hE]; rfl
        clear hok1 hn1 hrz
        generalize P.tSize u 1024 = m1 at *
        generalize P.tText u 1024 = x1 at *
        go_enter Try.func29, Try.ntmps29
        go_wp2_with (first
          | (go_at_call 43; (try rw [← ht]); (with_reducible refine (HRV.out _).mono ?_); rintro e w1 ⟨rfl, hb1⟩)
          | (go_at_call 44; (try rw [← hu]); (with_reducible refine (HT1.out _).mono ?_); rintro e w2 ⟨rfl, hb2⟩))
        exact bodyPost_ret (v := .tuple #[.slice none 0 0, S [], .int .i64 (-1)]) (by simp [results, Try.results29, go_sem]) rfl ⟨Chain.up hb1 hb2, fun h => (by rw [he] at h; cases h), fun _ => rfl⟩
      | true =>
        rw [hok1] at HT1 hE
        have hm1 : P.tSize u 1024 ≤ u.length := by
          have hk1 := hok1
          unfold P.tOk at hk1
          simp only [Bool.and_eq_true, decide_eq_true_eq] at hk1
          unfold P.tSize
          rw [hok1, if_pos rfl]
          exact hk1.2.2.2
        have hx1l : (P.tText u 1024).length ≤ 1024 := by
          have hk1 := hok1
          unfold P.tOk at hk1
          simp only [Bool.and_eq_true, decide_eq_true_eq] at hk1
          unfold P.tText
          rw [hok1, if_pos rfl, List.length_take]
          omega
        have hxl : x.length = u.length - P.tSize u 1024 := by rw [hS2]; simp
        obtain ⟨n2, hn2⟩ : ∃ n2 : Nat, n1 + P.tSize u 1024 = n2 := ⟨_, rfl⟩
        have hx : x = s.drop n2 := hS2.trans (by rw [← hn2, ← List.drop_drop, ← hu])
        have hi2 : (n1 : Int) + (P.tSize u 1024 : Int) = (n2 : Int) := by omega
        have hn2i : (n2 : Int) ≤ (s.length : Int) := by omega
        have HT2 := Lib.hid (fun wx => readText_any x 1024 wx (by omega) (by omega) (by omega))
        cases hok2 : P.tOk x 1024 with
        | false =>
          rw [hok2] at HT2 hE
          have he : P.eOk t k.length = false := by rw [hE]; rfl
          clear hok1 hok2 hn1 hrz hS2 hn2
          generalize P.tSize u 1024 = m1 at *
          generalize P.tText u 1024 = x1 at *
          generalize P.tSize x 1024 = m2 at *
          generalize P.tText x 1024 = x2 at *
          go_enter Try.func29, Try.ntmps29
          go_wp2_with (first
            | (go_at_call 43; (try rw [← ht]); (with_reducible refine (HRV.out _).mono ?_); rintro e w1 ⟨rfl, hb1⟩)
            | ((fail_if_success (have := hb2)); (go_at_call 44; (try rw [← hu]); (with_reducible refine (HT1.out _).mono ?_); rintro e w2 ⟨rfl, hb2⟩))
            | (go_at_call 44; (try rw [← hx]); (with_reducible refine (HT2.out _).mono ?_); rintro e w3 ⟨rfl, hb3⟩))
          exact bodyPost_ret (v := .tuple #[.slice none 0 0, S [], .int .i64 (-1)]) (by simp [results, Try.results29, go_sem]) rfl ⟨Chain.up (Chain.up hb1 hb2) hb3, fun h => (by rw [he] at h; cases h), fun _ => rfl⟩
        | true =>
          rw [hok2] at HT2 hE
          have he : P.eOk t k.length = true := by rw [hE]; rfl
          have hsz := (hsl he)
          rw [hVal, hSz] at hsz
          have HK := Lib.hid hKey
          have HVl := Lib.hid hVal
          have HSz := Lib.hid hSz
          clear hSz
          clear hok1 hok2 hrz hS2 hKey hVal hsl
          obtain ⟨n3, hn3⟩ : ∃ n3 : Nat, n2 + P.tSize x 1024 = n3 := ⟨_, rfl⟩
          have hi3 : (n2 : Int) + (P.tSize x 1024 : Int) = (n3 : Int) := by omega
          have hn3i : (n3 : Int) ≤ (s.length : Int) := by omega
          generalize P.tSize u 1024 = m1 at *
          generalize P.tText u 1024 = x1 at *
          generalize P.tSize x 1024 = m2 at *
          generalize P.tText x 1024 = x2 at *
          have hrc : (rn : Int) ≤ (c : Int) := by omega
          have hrt : (rn : Int).toNat = rn := by omega
          have Hn3 := Lib.hid (show n + (rz + m1 + m2) = n3 by omega)
          clear hn1 hn2 hn3
          go_enter Try.func29, Try.ntmps29
          go_wp2_with (first
            | (go_at_call 43; (try rw [← ht]); (with_reducible refine (HRV.out _).mono ?_); rintro e w1 ⟨rfl, hb1⟩)
            | ((fail_if_success (have := hb2)); (go_at_call 44; (try rw [← hu]); (with_reducible refine (HT1.out _).mono ?_); rintro e w2 ⟨rfl, hb2⟩))
            | (go_at_call 44; (try rw [← hx]); (with_reducible refine (HT2.out _).mono ?_); rintro e w3 ⟨rfl, hb3⟩; have hc3 := Chain.up (Chain.up hb1 hb2) hb3)
            | (at_builtin; go_loud ((refine wpList_appKey (by rfl) _ _ (by rfl) _ k x1 ao rn c rfl hnk (by rfl) (HV.out.up hc3) (by rfl) (by omega) ?_); intro v6 w6 hK6 hb6 hsn6)))
          exact bodyPost_ret (v := .tuple #[v6, S x2, .int .i64 n3]) (by simp [results, Try.results29, go_sem]) rfl ⟨Chain.up hc3 hb6, fun _ => ⟨v6, by rw [HVl.out, HSz.out, Hn3.out], by rw [HK.out]; exact hK6, hsn6.imp id (fun h g hg => Nat.le_trans hc3.size (h g hg))⟩, fun h => by rw [he] at h; cases h⟩
    · have he : P.eOk t k.length = false := by unfold P.eOk; rw [hok, decide_eq_false hnk]; rfl
      rw [hok] at HRV
      have hgt : k.length < P.rNum t := by omega
      have hwk : IntKind.u64.wrap (k.length : Int) = (k.length : Int) := by rw [IntKind.wrap_u64]; omega
      clear hok hnk
      generalize P.rNum t = rn at *
      generalize P.rSize t = rz at *
      go_enter Try.func29, Try.ntmps29
      go_wp2_with (go_at_call 43; (try rw [← ht]); (with_reducible refine (HRV.out _).mono ?_); rintro e w1 ⟨rfl, hb1⟩)
      exact bodyPost_ret (v := .tuple #[.slice none 0 0, S [], .int .i64 (-1)]) (by simp [results, Try.results29, go_sem]) rfl ⟨hb1, fun h => (by rw [he] at h; cases h), fun _ => rfl⟩
end Go.Proofs.Ythaiekilifoegaa
