/- The walks of the document's plain and small (script). -/
import Derived.Test.YtnflbgindcejjaaDoorWSRight
namespace Go.Proofs.YtnflbgindcejjaaDoor
open Go.RowKit
set_option linter.unusedVariables false
set_option linter.unusedSimpArgs false

set_option maxRecDepth 100000 in
theorem refPlain_any (n : Int) (a b : Option Addr) (k kc m mc : Nat) (w : World) :
    Calls Tryd.prog 26 #[crV n a k kc b m mc] w fun e w' => e = .returned (.bool (decide (n = 0) && decide (k = 0) && decide (m = 0))) ∧ Below w.heap.size w w' := by
  have hb : Below w.heap.size w (w.alloc (.cells #[.int .i64 n, .slice a k kc, .slice b m mc] 29)) := (Below.refl _ _).alloc (Nat.le_refl _) _
  by_cases h1 : n = 0
  · subst h1
    by_cases h2 : k = 0
    · subst h2
      by_cases h3 : m = 0
      · subst h3
        go_enter Tryd.func26, Tryd.ntmps26
        go_wp2_with fail
        go_ret
        exact ⟨ret_bool (by simp), hb⟩
      · have h3' : ((m : Int) == 0) = false := beq_eq_false_iff_ne.2 (by omega)
        go_enter Tryd.func26, Tryd.ntmps26
        go_wp2_with fail
        go_ret
        exact ⟨ret_bool (by simp [h3]), hb⟩
    · have h2' : ((k : Int) == 0) = false := beq_eq_false_iff_ne.2 (by omega)
      go_enter Tryd.func26, Tryd.ntmps26
      go_wp2_with fail
      go_ret
      exact ⟨ret_bool (by simp [h2]), hb⟩
  · have h1' : (n == 0) = false := beq_eq_false_iff_ne.2 h1
    go_enter Tryd.func26, Tryd.ntmps26
    go_wp2_with fail
    go_ret
    exact ⟨ret_bool (by simp [h1]), hb⟩
theorem P.smallB_no {v : Int} (h : P.smallB v = false) : v < 0 ∨ 2147483647 < v := by
  unfold P.smallB at h
  rw [decide_eq_false_iff_not] at h
  omega
theorem P.smallB_yes {v : Int} (h : P.smallB v = true) : 0 ≤ v ∧ v ≤ 2147483647 := by
  unfold P.smallB at h
  exact of_decide_eq_true h

set_option maxRecDepth 100000 in
set_option maxHeartbeats 4000000 in
theorem refSmall_any (c : P.Cr) (a b : Option Addr) (k kc m mc : Nat) (hk : k = c.keep.length) (hm : m = c.spoil.length) (w : World) (hp : CrAt w a b c) :
    Calls Tryd.prog 27 #[crV c.names a k kc b m mc] w fun e w' => e = .returned (.bool (P.crB c)) ∧ Below w.heap.size w w' := by
  have HI := Lib.hid (fun wx (hx : Below w.heap.size w wx) => RowsAt.up hp.1 hx)
  have HS := Lib.hid (fun wx (hx : Below w.heap.size w wx) => RowsAt.up hp.2 hx)
  obtain ⟨names, keep, spoil⟩ := c
  simp only at hk hm HI HS ⊢
  have HC := Lib.hid (show P.crB ⟨names, keep, spoil⟩ = (P.smallB names && decide (keep.length ≤ 255) && decide (spoil.length ≤ 255) && keep.all P.smallB && spoil.all (fun x => P.smallB x.1)) from rfl)
  generalize P.crB ⟨names, keep, spoil⟩ = res at *
  clear hp
  have Hk := Lib.hid hk
  have Hm := Lib.hid hm
  have hx := Bx.fresh w 29 #[.int .i64 names, .slice a k kc, .slice b m mc]
  have hb : Below w.heap.size w (w.alloc (.cells #[.int .i64 names, .slice a k kc, .slice b m mc] 29)) := (Below.refl _ _).alloc (Nat.le_refl _) _
  clear hk hm
  cases hs : P.smallB names with
  | false =>
    have Hr := Lib.hid (show res = false by rw [HC.out, hs]; rfl)
    clear HC
    by_cases h0 : names < 0
    · go_enter Tryd.func27, Tryd.ntmps27
      go_wp2_with fail
      go_ret
      exact ⟨ret_bool Hr.out.symm, hb⟩
    · have h1 : 2147483647 < names := by have := P.smallB_no hs; omega
      have h0' : decide (names < 0) = false := decide_eq_false h0
      clear h0
      go_enter Tryd.func27, Tryd.ntmps27
      go_wp2_with fail
      go_ret
      exact ⟨ret_bool Hr.out.symm, hb⟩
  | true =>
    obtain ⟨hn0, hn1⟩ := P.smallB_yes hs
    have hn0' : decide (names < 0) = false := decide_eq_false (by omega)
    have hn1' : decide (2147483647 < names) = false := decide_eq_false (by omega)
    clear hn0 hn1
    by_cases hk1 : 255 < k
    · have Hr := Lib.hid (show res = false by rw [HC.out, hs, decide_eq_false (p := keep.length ≤ 255) (by have := Hk.out; omega)]; rfl)
      have hk2 : (255 : Int) < (k : Int) := by omega
      clear HC hs
      go_enter Tryd.func27, Tryd.ntmps27
      go_wp2_with fail
      go_ret
      exact ⟨ret_bool Hr.out.symm, hb⟩
    · by_cases hm1 : 255 < m
      · have Hr := Lib.hid (show res = false by rw [HC.out, decide_eq_false (p := spoil.length ≤ 255) (by have := Hm.out; omega)]; simp)
        have hk2 : (k : Int) ≤ 255 := by omega
        have hm2 : (255 : Int) < (m : Int) := by omega
        clear HC hs
        go_enter Tryd.func27, Tryd.ntmps27
        go_wp2_with fail
        go_ret
        exact ⟨ret_bool Hr.out.symm, hb⟩
      · have hk2 : (k : Int) ≤ 255 := by omega
        have hm2 : (m : Int) ≤ 255 := by omega
        have Hr := Lib.hid (show res = (keep.all P.smallB && spoil.all (fun x => P.smallB x.1)) by rw [HC.out, hs, decide_eq_true (p := spoil.length ≤ 255) (by have := Hm.out; omega), decide_eq_true (p := keep.length ≤ 255) (by have := Hk.out; omega)]; rfl)
        clear HC hs
        go_enter Tryd.func27, Tryd.ntmps27
        go_wp2_with fail
        go_loopw [3] (fun i wr => ∃ j : Nat, j ≤ k ∧ i = .int .i64 j ∧ (keep.take j).all P.smallB = true ∧ Bx wr w.heap.size 29 #[.int .i64 names, .slice a k kc, .slice b m mc] ∧ Below w.heap.size w wr) (fun i _ => k - (intOf i).toNat)
        case atStart => exact ⟨0, by omega, rfl, rfl, hx, hb⟩
        case round =>
          clear hx hb
          obtain ⟨j, hj, rfl, hall, hx, hb⟩ := hrel
          have Hall := Lib.hid hall
          clear hall
          obtain ⟨q0, q1, q2, _, _, _⟩ := hx.three
          by_cases hlt : j < k
          · have hltl : j < keep.length := by have := Hk.out; omega
            obtain ⟨bb, o, rfl, hbb, c0⟩ := int_at (HI.out _ hb) j hltl
            have Hnx := Lib.hid (P.all_take P.smallB keep j hltl)
            have Hno := Lib.hid (fun h => P.all_not (f := P.smallB) hltl h)
            generalize keep[j] = v at *
            cases hv : P.smallB v with
            | false =>
              have Hr2 := Lib.hid (show res = false by rw [Hr.out, Hno.out hv]; rfl)
              clear Hnx Hno
              by_cases h0 : v < 0
              · go_wp2_with fail
                go_ret
                exact ⟨ret_bool Hr2.out.symm, hb⟩
              · have h1 : 2147483647 < v := by have := P.smallB_no hv; omega
                have h0' : decide (v < 0) = false := decide_eq_false h0
                clear h0
                go_wp2_with fail
                go_ret
                exact ⟨ret_bool Hr2.out.symm, hb⟩
            | true =>
              rw [Hall.out, hv] at Hnx
              obtain ⟨h0, h1⟩ := P.smallB_yes hv
              have h0' : decide (v < 0) = false := decide_eq_false (by omega)
              have h1' : decide (2147483647 < v) = false := decide_eq_false (by omega)
              clear h0 h1 hv Hno
              go_wp2_with fail
              go_roundw
              case rel => exact ⟨j + 1, by omega, by go_num, by rw [Hnx.out]; rfl, hx, hb⟩
              case measure => simp [intOf]; omega
          · obtain rfl : j = k := by omega
            have Hka := Lib.hid (show res = spoil.all (fun x => P.smallB x.1) by have h := Hall.out; rw [List.take_of_length_le (by have := Hk.out; omega)] at h; rw [Hr.out, h]; rfl)
            clear Hr Hall
            go_wp2_with fail
            go_loopw [4] (fun i wx => ∃ j' : Nat, j' ≤ m ∧ i = .int .i64 j' ∧ (spoil.take j').all (fun x => P.smallB x.1) = true ∧ Bx wx w.heap.size 29 #[.int .i64 names, .slice a j kc, .slice b m mc] ∧ Below w.heap.size w wx) (fun i _ => m - (intOf i).toNat)
            case atStart => exact ⟨0, by omega, rfl, rfl, hx, hb⟩
            case round =>
              clear q0 q1 q2 hx hb
              obtain ⟨i, hi, rfl, hall, hx, hb⟩ := hrel
              have Hall := Lib.hid hall
              clear hall
              obtain ⟨q0, q1, q2, _, _, _⟩ := hx.three
              by_cases hlt : i < m
              · have hltl : i < spoil.length := by have := Hm.out; omega
                obtain ⟨bb, o, rfl, hbb, c0, c1⟩ := spot_at (HS.out _ hb) i hltl
                have Hnx := Lib.hid (P.all_take (fun x : Int × Nat => P.smallB x.1) spoil i hltl)
                have Hno := Lib.hid (fun h => P.all_not (f := fun x : Int × Nat => P.smallB x.1) hltl h)
                generalize spoil[i] = v at *
                obtain ⟨v, mk⟩ := v
                simp only at c0 c1 Hnx Hno
                cases hv : P.smallB v with
                | false =>
                  have Hr2 := Lib.hid (show res = false by rw [Hka.out]; exact Hno.out hv)
                  clear Hnx Hno
                  by_cases h0 : v < 0
                  · go_wp2_with fail
                    go_ret
                    exact ⟨ret_bool Hr2.out.symm, hb⟩
                  · have h1 : 2147483647 < v := by have := P.smallB_no hv; omega
                    have h0' : decide (v < 0) = false := decide_eq_false h0
                    clear h0
                    go_wp2_with fail
                    go_ret
                    exact ⟨ret_bool Hr2.out.symm, hb⟩
                | true =>
                  rw [Hall.out, hv] at Hnx
                  obtain ⟨h0, h1⟩ := P.smallB_yes hv
                  have h0' : decide (v < 0) = false := decide_eq_false (by omega)
                  have h1' : decide (2147483647 < v) = false := decide_eq_false (by omega)
                  clear h0 h1 hv Hno
                  go_wp2_with fail
                  go_roundw
                  case rel => exact ⟨i + 1, by omega, by go_num, by rw [Hnx.out]; rfl, hx, hb⟩
                  case measure => simp [intOf]; omega
              · obtain rfl : i = m := by omega
                have Hr2 := Lib.hid (show res = true by rw [Hka.out]; have h := Hall.out; rwa [List.take_of_length_le (by have := Hm.out; omega)] at h)
                go_wp2_with fail
                go_ret
                exact ⟨ret_bool Hr2.out.symm, hb⟩
end Go.Proofs.YtnflbgindcejjaaDoor
