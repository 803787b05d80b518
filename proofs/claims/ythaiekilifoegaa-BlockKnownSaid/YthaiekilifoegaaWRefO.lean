/- The walks of the document's Open and Seek for blocks. -/
import Derived.Test.YthaiekilifoegaaWRefBy
import Derived.Test.YthaiekilifoegaaWOpen
namespace Go.Proofs.Ythaiekilifoegaa
open Go.RowKit
set_option linter.unusedVariables false
set_option linter.unusedSimpArgs false

def sliceLen : Value → Nat
  | .slice _ n _ => n
  | _ => 0
theorem P.addL_eq (l : List P.En) (k v : List UInt8) : P.addL l k v = if P.addE l.length (P.lastK l) k v = 0 then l ++ [⟨k, v⟩] else l := rfl
theorem P.Opens.stepS {s : List UInt8} {l : List P.En} (h : P.Opens s l) (i : Nat) (hi : i < l.length) :
    P.eOk (s.drop (P.upTo l i).length) (P.lastK (l.take i)).length = true ∧ P.eKey (s.drop (P.upTo l i).length) (P.lastK (l.take i)) = P.keyAt l i ∧ P.eVal (s.drop (P.upTo l i).length) = P.valAt l i ∧ (P.upTo l i).length + P.eSize (s.drop (P.upTo l i).length) = (P.upTo l (i + 1)).length := by
  obtain ⟨x, hx⟩ := h.drop i hi
  have hl : (l.take i).length = i := by rw [List.length_take]; omega
  obtain ⟨r1, r2, r3, r4⟩ := h.1.read i hi (P.lastK (l.take i)) (fun h4 => by unfold P.lastK; rw [hl, P.keyAt_take _ _ _ (by omega)]) x
  rw [hx]
  exact ⟨r1, r2, r3, by rw [r4, P.upTo_succ, List.length_append]⟩
section
variable {s : List UInt8} {c i n : Nat} {li : List P.En}
theorem P.ropen_no (hS : ∀ l, P.Opens s l → ∀ i, i < c → P.eOk (s.drop (P.upTo l i).length) (P.lastK (l.take i)).length = true ∧ P.eKey (s.drop (P.upTo l i).length) (P.lastK (l.take i)) = P.keyAt l i ∧ P.eVal (s.drop (P.upTo l i).length) = P.valAt l i ∧ (P.upTo l i).length + P.eSize (s.drop (P.upTo l i).length) = (P.upTo l (i + 1)).length)
  (hC : ∀ l, P.Opens s l → li = l.take i ∧ n = (P.upTo l i).length) (hi : i < c) (h : P.eOk (s.drop n) (P.lastK li).length = false) : ∀ l, ¬ P.Opens s l := fun l ho => by
  obtain ⟨rfl, rfl⟩ := hC l ho
  have := (hS l ho i hi).1
  rw [h] at this
  cases this
theorem P.ropen_no2 (hS : ∀ l, P.Opens s l → ∀ i, i < c → P.eOk (s.drop (P.upTo l i).length) (P.lastK (l.take i)).length = true ∧ P.eKey (s.drop (P.upTo l i).length) (P.lastK (l.take i)) = P.keyAt l i ∧ P.eVal (s.drop (P.upTo l i).length) = P.valAt l i ∧ (P.upTo l i).length + P.eSize (s.drop (P.upTo l i).length) = (P.upTo l (i + 1)).length)
  (hL : ∀ l, P.Opens s l → l.length = c) (hC : ∀ l, P.Opens s l → li = l.take i ∧ n = (P.upTo l i).length) (hi : i < c) (h : P.addE i (P.lastK li) (P.eKey (s.drop n) (P.lastK li)) (P.eVal (s.drop n)) ≠ 0) : ∀ l, ¬ P.Opens s l := fun l ho => by
  obtain ⟨rfl, rfl⟩ := hC l ho
  obtain ⟨_, h2, h3, _⟩ := hS l ho i hi
  rw [h2, h3] at h
  have := ho.1.at i (by rw [hL l ho]; exact hi)
  rw [show (l.take i).length = i by rw [List.length_take, hL l ho]; omega] at this
  exact h this
theorem P.ropen_yes (hS : ∀ l, P.Opens s l → ∀ i, i < c → P.eOk (s.drop (P.upTo l i).length) (P.lastK (l.take i)).length = true ∧ P.eKey (s.drop (P.upTo l i).length) (P.lastK (l.take i)) = P.keyAt l i ∧ P.eVal (s.drop (P.upTo l i).length) = P.valAt l i ∧ (P.upTo l i).length + P.eSize (s.drop (P.upTo l i).length) = (P.upTo l (i + 1)).length)
  (hL : ∀ l, P.Opens s l → l.length = c) (hC : ∀ l, P.Opens s l → li = l.take i ∧ n = (P.upTo l i).length) (hi : i < c) : ∀ l, P.Opens s l → li ++ [⟨P.eKey (s.drop n) (P.lastK li), P.eVal (s.drop n)⟩] = l.take (i + 1) ∧ n + P.eSize (s.drop n) = (P.upTo l (i + 1)).length := fun l ho => by
  obtain ⟨rfl, rfl⟩ := hC l ho
  obtain ⟨_, h2, h3, h4⟩ := hS l ho i hi
  rw [h2, h3, h4]
  exact ⟨(P.take_snoc l i (by rw [hL l ho]; exact hi)).symm, rfl⟩
end
def ROpenP (s : List UInt8) (w : World) (e : Ending) (w' : World) : Prop :=
  Below w.heap.size w w' ∧ ((∃ l a c, P.Opens s l ∧ e = .returned (.tuple #[.slice a l.length c, .bool true]) ∧ EnsAt w' a l) ∨ ((∀ l, ¬ P.Opens s l) ∧ ∃ a n c, e = .returned (.tuple #[.slice a n c, .bool false])))

set_option maxRecDepth 100000 in
set_option maxHeartbeats 1000000 in
theorem least_any (a b : Int) (w : World) : Calls Try.prog 37 #[.int .i64 a, .int .i64 b] w fun e w' => e = .returned (.int .i64 (min a b)) ∧ Below w.heap.size w w' := by
  by_cases h : a < b
  · go_enter Try.func37, Try.ntmps37
    go_wp2
    go_ret
    exact ⟨by show Ending.returned (.int .i64 a) = _; rw [show min a b = a by omega], Below.refl _ _⟩
  · go_enter Try.func37, Try.ntmps37
    go_wp2
    go_ret
    exact ⟨by show Ending.returned (.int .i64 b) = _; rw [show min a b = b by omega], Below.refl _ _⟩

attribute [local go_sem] str_from str_take str_app

set_option maxRecDepth 100000 in
set_option maxHeartbeats 4000000 in
theorem ropen_none (s : List UInt8) (w : World) (hs : s.length ≤ 100000) (hno : P.bigOk (s.drop (s.length - 4)) 4 = false ∨ s.length < P.bigNum (s.drop (s.length - 4)) 4) :
    Calls Try.prog 21 #[S s] w (ROpenP s w) := by
  have hopens : ∀ l, ¬ P.Opens s l := fun l h => by
    obtain ⟨c1, c2⟩ := h.count (by omega)
    have hb := h.len
    rw [c1, c2] at hno
    rcases hno with hno | hno
    · cases hno
    · omega
  have HO := Lib.hid hopens
  clear hopens
  have HB := Lib.hid (fun wx => refReadBig_any (s.drop (s.length - 4)) 4 wx (by simp; omega) (by omega) (by omega))
  have HM := Lib.hid (fun wx => least_any 4 (s.length : Int) wx)
  have hmx : (s.length : Int) - min 4 (s.length : Int) = ((s.length - 4 : Nat) : Int) := by omega
  have hsl : ((s.length - 4 : Nat) : Int) ≤ (s.length : Int) := by omega
  have hwl : IntKind.u64.wrap (s.length : Int) = (s.length : Int) := by rw [IntKind.wrap_u64]; omega
  generalize P.bigNum (s.drop (s.length - 4)) 4 = c at *
  cases hok : P.bigOk (s.drop (s.length - 4)) 4 with
  | false =>
    rw [hok] at HB
    clear hno hok
    generalize s.length - 4 = e4 at *
    go_enter Try.func21, Try.ntmps21
    go_wp2_with (first
      | (go_at_call 37; (with_reducible refine (HM.out _).mono ?_); rintro e w0 ⟨rfl, hb0⟩)
      | (go_at_call 36; (with_reducible refine (HB.out _).mono ?_); rintro e w1 ⟨rfl, hb1⟩))
    exact bodyPost_ret (v := .tuple #[.slice none 0 0, .bool false]) (by simp [results, Try.results21, go_sem]) rfl ⟨Chain.up hb0 hb1, .inr ⟨HO.out, _, _, _, rfl⟩⟩
  | true =>
    rw [hok] at HB
    have hgt : s.length < c := hno.resolve_left (by rw [hok]; intro h; cases h)
    clear hno hok
    generalize s.length - 4 = e4 at *
    go_enter Try.func21, Try.ntmps21
    go_wp2_with (first
      | (go_at_call 37; (with_reducible refine (HM.out _).mono ?_); rintro e w0 ⟨rfl, hb0⟩)
      | (go_at_call 36; (with_reducible refine (HB.out _).mono ?_); rintro e w1 ⟨rfl, hb1⟩))
    exact bodyPost_ret (v := .tuple #[.slice none 0 0, .bool false]) (by simp [results, Try.results21, go_sem]) rfl ⟨Chain.up hb0 hb1, .inr ⟨HO.out, _, _, _, rfl⟩⟩

set_option maxRecDepth 100000 in
set_option maxHeartbeats 8000000 in
theorem ropen_some (s : List UInt8) (w : World) (hs : s.length ≤ 100000) (c : Nat) (hok : P.bigOk (s.drop (s.length - 4)) 4 = true) (hcc : P.bigNum (s.drop (s.length - 4)) 4 = c) (hst : c ≤ s.length) :
    Calls Try.prog 21 #[S s] w (ROpenP s w) := by
  have HLen := Lib.hid (show ∀ l, P.Opens s l → l.length = c from fun l h => by rw [← hcc]; exact (h.count (by omega)).2.symm)
  have HB := Lib.hid (fun wx => refReadBig_any (s.drop (s.length - 4)) 4 wx (by simp; omega) (by omega) (by omega))
  rw [hok, hcc] at HB
  have HM := Lib.hid (fun wx => least_any 4 (s.length : Int) wx)
  have hmx : (s.length : Int) - min 4 (s.length : Int) = ((s.length - 4 : Nat) : Int) := by omega
  have hsl : ((s.length - 4 : Nat) : Int) ≤ (s.length : Int) := by omega
  have hwl : IntKind.u64.wrap (s.length : Int) = (s.length : Int) := by rw [IntKind.wrap_u64]; omega
  have hgt : ¬ (s.length < c) := by omega
  have hwc : IntKind.i64.wrap (c : Int) = (c : Int) := IntWalk.i64_in _ (by omega)
  have HStep := Lib.hid (show ∀ l, P.Opens s l → ∀ i, i < c → P.eOk (s.drop (P.upTo l i).length) (P.lastK (l.take i)).length = true ∧ P.eKey (s.drop (P.upTo l i).length) (P.lastK (l.take i)) = P.keyAt l i ∧ P.eVal (s.drop (P.upTo l i).length) = P.valAt l i ∧ (P.upTo l i).length + P.eSize (s.drop (P.upTo l i).length) = (P.upTo l (i + 1)).length from fun l h i hi => h.stepS i (by rw [HLen.out l h]; exact hi))
  clear hok hcc
  generalize s.length - 4 = e4 at *
  go_enter Try.func21, Try.ntmps21
  go_wp2_with (first
    | (go_at_call 37; (with_reducible refine (HM.out _).mono ?_); rintro e w0 ⟨rfl, hb0⟩)
    | (go_at_call 36; (with_reducible refine (HB.out _).mono ?_); rintro e w1 ⟨rfl, hb1⟩))
  have hb01 := Chain.up hb0 hb1
  clear hmx hsl hwl hgt HB HM hb0 hb1
  go_loopw [6, 7, 8] (fun u k v wr => ∃ (i : Nat) (li : List P.En) (a : Option Addr) (c2 n : Nat), i ≤ c ∧ u = .slice a i c2 ∧ li.length = i ∧ P.Good li ∧ k = S (P.lastK li) ∧ v = .int .i64 n ∧ n ≤ s.length ∧ EnsAt wr a li ∧ (∀ l, P.Opens s l → li = l.take i ∧ n = (P.upTo l i).length) ∧ Below w.heap.size w wr) (fun u _ _ _ => c - sliceLen u)
  case atStart => exact ⟨0, [], none, 0, 0, by omega, rfl, rfl, P.good_nil, rfl, rfl, by omega, fun i h => by simp at h, fun l h => ⟨rfl, rfl⟩, hb01⟩
  case round =>
    clear hb01
    obtain ⟨i, li, a, c2, n, hic, rfl, hli, hgd, rfl, rfl, hn, hE, hC, hb⟩ := hrel
    have HC := Lib.hid hC
    clear hC
    have hni : (n : Int) ≤ (s.length : Int) := by omega
    by_cases hlt : i < c
    · skip
      obtain ⟨t, ht⟩ : ∃ t, t = s.drop n := ⟨_, rfl⟩
      have hdl : t.length = s.length - n := by rw [ht]; simp
      have HRV := Lib.hid (fun wx => refReadVar_any t wx (by omega))
      have hpk := P.lastK_len hgd
      have HNo := Lib.hid (show P.eOk t (P.lastK li).length = false → ∀ l, ¬ P.Opens s l from fun h => P.ropen_no HStep.out HC.out hlt (by rw [← ht]; exact h))
      have HNo2 := Lib.hid (show P.addE i (P.lastK li) (P.eKey t (P.lastK li)) (P.eVal t) ≠ 0 → ∀ l, ¬ P.Opens s l from fun h => P.ropen_no2 HStep.out HLen.out HC.out hlt (by rw [← ht]; exact h))
      have HYes := Lib.hid (show ∀ l, P.Opens s l → li ++ [⟨P.eKey t (P.lastK li), P.eVal t⟩] = l.take (i + 1) ∧ n + P.eSize t = (P.upTo l (i + 1)).length from fun l h => by rw [ht]; exact P.ropen_yes HStep.out HLen.out HC.out hlt l h)
      have HAdd := Lib.hid (fun (k v : List UInt8) (wx : World) (hk : k.length ≤ 1000000000) (hv : v.length ≤ 1000000000) (hx : Below wr.heap.size wr wx) => refAdd_any li a i c2 hli.symm k v wx hk hv (hE.up hx) (by omega))
      have Hli := Lib.hid hli
      have Hgd := Lib.hid hgd
      clear hli hgd
      have Hap := Lib.hid (fun k v => P.addL_eq li k v)
      generalize hpp : P.lastK li = p at *
      cases hok : P.rOk t with
      | false =>
        rw [hok] at HRV
        have he : P.eOk t p.length = false := by unfold P.eOk; rw [hok]; rfl
        have HN := Lib.hid (HNo.out he)
        clear hok he HNo HNo2 HYes
        generalize P.rNum t = rn at *
        generalize P.rSize t = rz at *
        go_wp2_with (go_at_call 38; (try rw [← ht]); (with_reducible refine (HRV.out _).mono ?_); rintro e w1 ⟨rfl, hb1⟩)
        exact bodyPost_ret (v := .tuple #[.slice none 0 0, .bool false]) (by simp [results, Try.results21, go_sem]) rfl ⟨Chain.up hb hb1, .inr ⟨HN.out, _, _, _, rfl⟩⟩
      | true =>
        obtain ⟨hz1, hz2, _, hn64⟩ := P.row_read t hok
        by_cases hnk : P.rNum t ≤ p.length
        · have hu1 : P.s1 t = s.drop (n + P.rSize t) := by unfold P.s1; rw [ht, List.drop_drop]
          have hul : (P.s1 t).length = t.length - P.rSize t := by unfold P.s1; simp
          have hEo : P.eOk t p.length = (P.tOk (P.s1 t) 1024 && P.tOk (P.s2 t) 1024) := by unfold P.eOk; rw [hok, decide_eq_true hnk]; rfl
          have hS2 : P.s2 t = (P.s1 t).drop (P.tSize (P.s1 t) 1024) := rfl
          have hKey : P.eKey t p = p.take (P.rNum t) ++ P.tText (P.s1 t) 1024 := rfl
          have hVal : P.eVal t = P.tText (P.s2 t) 1024 := rfl
          have hSz : P.eSize t = P.rSize t + P.tSize (P.s1 t) 1024 + P.tSize (P.s2 t) 1024 := rfl
          have hsl := fun h => P.eSize_le (s := t) (m := p.length) h
          rw [hok] at HRV
          clear hok
          obtain ⟨u, hu⟩ : ∃ u, u = s.drop (n + P.rSize t) := ⟨_, rfl⟩
          rw [← hu] at hu1
          rw [hu1] at hul hEo hS2 hKey hSz hsl
          obtain ⟨x, hx0⟩ : ∃ x, x = P.s2 t := ⟨_, rfl⟩
          rw [← hx0] at hEo hS2 hVal hSz
          have HT1 := Lib.hid (fun wx => refReadText_any u 1024 wx (by omega) (by omega) (by omega))
          have hm64 : P.rNum t < 18446744073709551616 := hn64
          have hgt : ¬ (p.length < P.rNum t) := by omega
          have hwk : IntKind.u64.wrap (p.length : Int) = (p.length : Int) := by rw [IntKind.wrap_u64]; omega
          generalize P.rNum t = rn at *
          generalize hrz : P.rSize t = rz at *
          obtain ⟨n1, hn1⟩ : ∃ n1 : Nat, n + rz = n1 := ⟨_, rfl⟩
          rw [hn1] at hu
          have hi1 : (n : Int) + (rz : Int) = (n1 : Int) := by omega
          have hn1i : (n1 : Int) ≤ (s.length : Int) := by omega
          cases hok1 : P.tOk u 1024 with
          | false =>
            rw [hok1] at HT1 hEo
            have he : P.eOk t p.length = false := by rw [hEo]; rfl
            have HN := Lib.hid (HNo.out he)
            clear hok1 hn1 hrz he HNo HNo2 HYes hsl
            generalize P.tSize u 1024 = m1 at *
            generalize P.tText u 1024 = x1 at *
            go_wp2_with (first
              | (go_at_call 38; (try rw [← ht]); (with_reducible refine (HRV.out _).mono ?_); rintro e w1 ⟨rfl, hb1⟩)
              | (go_at_call 39; (try rw [← hu]); (with_reducible refine (HT1.out _).mono ?_); rintro e w2 ⟨rfl, hb2⟩))
            exact bodyPost_ret (v := .tuple #[.slice none 0 0, .bool false]) (by simp [results, Try.results21, go_sem]) rfl ⟨Chain.up hb (Chain.up hb1 hb2), .inr ⟨HN.out, _, _, _, rfl⟩⟩
          | true =>
            rw [hok1] at HT1 hEo
            have hm1 : P.tSize u 1024 ≤ u.length := by
              have hk1 := hok1
              unfold P.tOk at hk1
              simp only [Bool.and_eq_true, decide_eq_true_eq] at hk1
              unfold P.tSize
              rw [hok1, if_pos rfl]
              exact hk1.2.2.2
            have hx1l : (P.tText u 1024).length ≤ 1024 := by
              have hk1 := hok1
              unfold P.tOk at hk1
              simp only [Bool.and_eq_true, decide_eq_true_eq] at hk1
              unfold P.tText
              rw [hok1, if_pos rfl, List.length_take]
              omega
            have hxl : x.length = u.length - P.tSize u 1024 := by rw [hS2]; simp
            obtain ⟨n2, hn2⟩ : ∃ n2 : Nat, n1 + P.tSize u 1024 = n2 := ⟨_, rfl⟩
            have hx : x = s.drop n2 := hS2.trans (by rw [← hn2, ← List.drop_drop, ← hu])
            have hi2 : (n1 : Int) + (P.tSize u 1024 : Int) = (n2 : Int) := by omega
            have hn2i : (n2 : Int) ≤ (s.length : Int) := by omega
            have HT2 := Lib.hid (fun wx => refReadText_any x 1024 wx (by omega) (by omega) (by omega))
            cases hok2 : P.tOk x 1024 with
            | false =>
              rw [hok2] at HT2 hEo
              have he : P.eOk t p.length = false := by rw [hEo]; rfl
              have HN := Lib.hid (HNo.out he)
              clear hok1 hok2 hn1 hrz hS2 hn2 he HNo HNo2 HYes hsl
              generalize P.tSize u 1024 = m1 at *
              generalize P.tText u 1024 = x1 at *
              generalize P.tSize x 1024 = m2 at *
              generalize P.tText x 1024 = x2 at *
              go_wp2_with (first
                | (go_at_call 38; (try rw [← ht]); (with_reducible refine (HRV.out _).mono ?_); rintro e w1 ⟨rfl, hb1⟩)
                | ((fail_if_success (have := hb2)); (go_at_call 39; (try rw [← hu]); (with_reducible refine (HT1.out _).mono ?_); rintro e w2 ⟨rfl, hb2⟩))
                | (go_at_call 39; (try rw [← hx]); (with_reducible refine (HT2.out _).mono ?_); rintro e w3 ⟨rfl, hb3⟩))
              exact bodyPost_ret (v := .tuple #[.slice none 0 0, .bool false]) (by simp [results, Try.results21, go_sem]) rfl ⟨Chain.up hb (Chain.up (Chain.up hb1 hb2) hb3), .inr ⟨HN.out, _, _, _, rfl⟩⟩
            | true =>
              rw [hok2] at HT2 hEo
              have he : P.eOk t p.length = true := by rw [hEo]; rfl
              have hsz := (hsl he)
              rw [hVal, hSz] at hsz
              rw [hKey, hVal] at HNo2
              rw [hKey, hVal, hSz] at HYes
              clear hok1 hok2 hrz hS2 hKey hVal hSz hsl HNo he
              obtain ⟨n3, hn3⟩ : ∃ n3 : Nat, n2 + P.tSize x 1024 = n3 := ⟨_, rfl⟩
              have hi3 : (n2 : Int) + (P.tSize x 1024 : Int) = (n3 : Int) := by omega
              have hn3i : (n3 : Int) ≤ (s.length : Int) := by omega
              generalize P.tSize u 1024 = m1 at *
              generalize P.tText u 1024 = x1 at *
              generalize P.tSize x 1024 = m2 at *
              generalize P.tText x 1024 = x2 at *
              have Hn3 := Lib.hid (show n + (rz + m1 + m2) = n3 by omega)
              have hkl : (p.take rn ++ x1).length ≤ 2048 := by rw [List.length_append, List.length_take]; omega
              have hrk : (rn : Int) ≤ (p.length : Int) := by omega
              have hrt : (rn : Int).toNat = rn := by omega
              have htk : (p.take rn).length = rn := by rw [List.length_take]; omega
              have hadd : ¬ 9223372036854775807 < (p.take rn).length + x1.length := by omega
              have hadd2 : ¬ 9223372036854775807 < rn + x1.length := by omega
              clear hn1 hn2 hn3
              have HA := Lib.hid (fun wx (hx : Below wr.heap.size wr wx) => HAdd.out (p.take rn ++ x1) x2 wx (by omega) (by omega) hx)
              clear HAdd
              obtain ⟨key, hkey⟩ : ∃ key, key = p.take rn ++ x1 := ⟨_, rfl⟩
              rw [← hkey] at HA HNo2 HYes hkl
              have Hkey := Lib.hid hkey
              clear hkey
              by_cases hAE : P.addE i p key x2 = 0
              · have HL := Lib.hid (Hap.out key x2)
                have Hg2 := Lib.hid (P.good_addL Hgd.out key x2)
                have hlk : P.addE li.length p key x2 = 0 := by rw [Hli.out]; exact hAE
                rw [if_pos hlk] at HL
                rw [HL.out] at Hg2
                have hlen : (li ++ [(⟨key, x2⟩ : P.En)]).length = i + 1 := by rw [List.length_append, Hli.out]; rfl
                go_wp2_with (first
                  | (go_at_call 38; (try rw [← ht]); (with_reducible refine (HRV.out _).mono ?_); rintro e w1 ⟨rfl, hb1⟩)
                  | ((fail_if_success (have := hb2)); (go_at_call 39; (try rw [← hu]); (with_reducible refine (HT1.out _).mono ?_); rintro e w2 ⟨rfl, hb2⟩))
                  | (go_at_call 39; (try rw [← hx]); (with_reducible refine (HT2.out _).mono ?_); rintro e w3 ⟨rfl, hb3⟩)
                  | (go_at_call 19; (try rw [← Hkey.out]); (with_reducible refine (HA.out _ (Chain.up (Chain.up hb1 hb2) hb3)).mono ?_); rintro e w4 ⟨⟨a4, c4, rfl, hE4⟩, hb4⟩; rw [hpp, hlk, HL.out, hlen]; rw [HL.out] at hE4))
                go_roundw
                case rel => exact ⟨i + 1, li ++ [⟨key, x2⟩], a4, c4, n3, by omega, rfl, hlen, Hg2.out, by rw [P.lastK_snoc], rfl, by omega, hE4, fun l h => by have := HYes.out l h; rw [Hn3.out] at this; exact this, Chain.up hb (Chain.up (Chain.up (Chain.up hb1 hb2) hb3) hb4)⟩
                case measure => simp [sliceLen]; omega
              · have HN := Lib.hid (HNo2.out hAE)
                have hlk : ¬ P.addE li.length p key x2 = 0 := by rw [Hli.out]; exact hAE
                have hEn : (((P.addE li.length p key x2 : Nat) : Int) != 0) = true := by rw [bne_iff_ne]; omega
                have hEb : (((P.addE li.length p key x2 : Nat) : Int) == 0) = false := beq_eq_false_iff_ne.2 (by omega)
                go_wp2_with (first
                  | (go_at_call 38; (try rw [← ht]); (with_reducible refine (HRV.out _).mono ?_); rintro e w1 ⟨rfl, hb1⟩)
                  | ((fail_if_success (have := hb2)); (go_at_call 39; (try rw [← hu]); (with_reducible refine (HT1.out _).mono ?_); rintro e w2 ⟨rfl, hb2⟩))
                  | (go_at_call 39; (try rw [← hx]); (with_reducible refine (HT2.out _).mono ?_); rintro e w3 ⟨rfl, hb3⟩)
                  | (go_at_call 19; (try rw [← Hkey.out]); (with_reducible refine (HA.out _ (Chain.up (Chain.up hb1 hb2) hb3)).mono ?_); rintro e w4 ⟨⟨a4, c4, rfl, hE4⟩, hb4⟩))
                exact bodyPost_ret (v := .tuple #[.slice none 0 0, .bool false]) (by simp [results, Try.results21, go_sem]) rfl ⟨Chain.up hb (Chain.up (Chain.up (Chain.up hb1 hb2) hb3) hb4), .inr ⟨HN.out, _, _, _, rfl⟩⟩
        · have he : P.eOk t p.length = false := by unfold P.eOk; rw [hok, decide_eq_false hnk]; rfl
          have HN := Lib.hid (HNo.out he)
          rw [hok] at HRV
          have hgt : p.length < P.rNum t := by omega
          have hwk : IntKind.u64.wrap (p.length : Int) = (p.length : Int) := by rw [IntKind.wrap_u64]; omega
          clear hok hnk he HNo HNo2 HYes
          generalize P.rNum t = rn at *
          generalize P.rSize t = rz at *
          go_wp2_with (go_at_call 38; (try rw [← ht]); (with_reducible refine (HRV.out _).mono ?_); rintro e w1 ⟨rfl, hb1⟩)
          exact bodyPost_ret (v := .tuple #[.slice none 0 0, .bool false]) (by simp [results, Try.results21, go_sem]) rfl ⟨Chain.up hb hb1, .inr ⟨HN.out, _, _, _, rfl⟩⟩
    · obtain rfl : i = c := by omega
      have HBy := Lib.hid (fun wx (hx : Below wr.heap.size wr wx) => refBytes_any li a i c2 hli.symm wx (hE.up hx) hgd (by omega))
      by_cases hEq : P.bytesB li = s
      · have hO : P.Opens s li := ⟨hgd, hEq⟩
        have HO := Lib.hid hO
        have HLi := Lib.hid hli
        rw [hEq] at HBy
        clear hEq hO hli hgd
        go_wp2_with (go_at_call 20; (with_reducible refine (HBy.out _ (Below.refl _ _)).mono ?_); rintro e w5 ⟨rfl, hb5⟩)
        exact bodyPost_ret (v := .tuple #[.slice a i c2, .bool true]) (by simp [results, Try.results21, go_sem]) rfl ⟨Chain.up hb hb5, .inl ⟨li, a, c2, HO.out, by rw [HLi.out], hE.up hb5⟩⟩
      · have hno : ∀ l, ¬ P.Opens s l := fun l h => by
          have h1 := (HC.out l h).1
          have h2 := HLen.out l h
          rw [← h2, List.take_length] at h1
          exact hEq (by rw [h1]; exact h.2)
        have HN := Lib.hid hno
        have hqb : (P.bytesB li == s) = false := by rw [beq_eq_false_iff_ne]; exact hEq
        clear hno hEq hli hgd
        generalize P.bytesB li = bl at *
        go_wp2_with (go_at_call 20; (with_reducible refine (HBy.out _ (Below.refl _ _)).mono ?_); rintro e w5 ⟨rfl, hb5⟩)
        exact bodyPost_ret (v := .tuple #[.slice a i c2, .bool false]) (by simp [results, Try.results21, go_sem]) rfl ⟨Chain.up hb hb5, .inr ⟨HN.out, _, _, _, rfl⟩⟩
theorem ropen_any (s : List UInt8) (w : World) (hs : s.length ≤ 100000) : Calls Try.prog 21 #[S s] w (ROpenP s w) := by
  by_cases h : P.bigOk (s.drop (s.length - 4)) 4 = true ∧ P.bigNum (s.drop (s.length - 4)) 4 ≤ s.length
  · exact ropen_some s w hs _ h.1 rfl h.2
  · refine ropen_none s w hs ?_
    cases hok : P.bigOk (s.drop (s.length - 4)) 4 with
    | false => exact .inl rfl
    | true => exact .inr (by
      rcases Nat.lt_or_ge s.length (P.bigNum (s.drop (s.length - 4)) 4) with h2 | h2
      · exact h2
      · exact absurd ⟨hok, h2⟩ h)

set_option maxRecDepth 100000 in
set_option maxHeartbeats 4000000 in
theorem refSeek_any (l : List P.En) (a : Option Addr) (n c : Nat) (hn : n = l.length) (k : List UInt8) (w : World) (hp : EnsAt w a l) (hll : l.length ≤ 1000000) :
    Calls Try.prog 23 #[.slice a n c, S k] w fun e w' => e = .returned (.int .i64 (P.seekL l k)) ∧ Below w.heap.size w w' := by
  have HP := Lib.hid hp
  have HB := Lib.hid (P.seekL_below l k)
  have HA := Lib.hid (P.seekL_at l k)
  have hle := P.seekL_le l k
  rw [← hn] at hle HA hll
  have Hn := Lib.hid hn
  clear hp hn
  generalize hsk : P.seekL l k = sk at *
  clear hsk
  go_enter Try.func23, Try.ntmps23
  go_wp2
  go_loopw [5] (fun i wr => ∃ j : Nat, j ≤ sk ∧ i = .int .i64 j ∧ Below w.heap.size w wr) (fun i _ => sk - (intOf i).toNat)
  case atStart => exact ⟨0, by omega, rfl, Below.refl _ _⟩
  case round =>
    obtain ⟨j, hj, rfl, hb⟩ := hrel
    by_cases hlt : j < sk
    · obtain ⟨b, o, rfl, hbb, x0, _⟩ := ens_at HP.out j (by have := Hn.out; omega)
      have y0 := cell_up hb x0
      have hl := HB.out j hlt
      clear x0
      generalize P.keyAt l j = kj at *
      go_wp2
      go_roundw
      case rel => exact ⟨j + 1, by omega, by go_num, hb⟩
      case measure => simp [intOf]; omega
    · obtain rfl : j = sk := by omega
      by_cases hjn : j < n
      · obtain ⟨b, o, rfl, hbb, x0, _⟩ := ens_at HP.out j (by have := Hn.out; omega)
        have y0 := cell_up hb x0
        have hl := HA.out hjn
        clear x0
        generalize P.keyAt l j = kj at *
        go_wp2
        go_ret
        exact ⟨rfl, hb⟩
      · obtain rfl : j = n := by omega
        go_wp2
        go_ret
        exact ⟨rfl, hb⟩
end Go.Proofs.Ythaiekilifoegaa
