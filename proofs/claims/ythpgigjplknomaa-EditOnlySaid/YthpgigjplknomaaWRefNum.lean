/- The walk of the document's numbers. -/
import Derived.Test.YthpgigjplknomaaWEdJoins
import Derived.Test.YthpgigjplknomaaPEdit4
namespace Go.Proofs.Ythpgigjplknomaa
open Go.RowKit
set_option linter.unusedVariables false
set_option linter.unusedSimpArgs false
attribute [local go_sem] str_dropN

set_option maxRecDepth 100000 in
set_option maxHeartbeats 4000000 in
theorem numbers_any (s : List UInt8) (many : Nat) (z : Int) (hz : z = (many : Int)) (w : World) (hs : s.length ≤ 524288) (hm : many ≤ 600000) :
    Calls Try.prog 45 #[S s, .int .i64 z] w fun e w' => ∃ v, e = .returned (.tuple #[v, .int .i64 (P.nz many s)]) ∧ OwnNums w' w.heap.size v (P.nl many s) ∧ Below w.heap.size w w' := by
  subst hz
  have H1 := Lib.hid (show P.rdNums many s = none → P.nz many s = -1 ∧ P.nl many s = [] from fun h => by unfold P.nz P.nl; rw [h]; exact ⟨rfl, rfl⟩)
  have H2 := Lib.hid (show ∀ l at_, at_ ≤ s.length → P.rdNums many s = some (l, s.drop at_) → P.nz many s = (at_ : Int) ∧ P.nl many s = l from fun l at_ ha h => by
    unfold P.nz P.nl
    rw [h]
    exact ⟨by simp only [Option.map_some, Option.getD_some, List.length_drop]; omega, rfl⟩)
  generalize P.nz many s = z at *
  generalize P.nl many s = nl at *
  go_enter Try.func45, Try.ntmps45
  go_wp2_with fail
  go_loopw [6, 7] (fun v i wr => ∃ (l : List Nat) (a : Nat), l.length ≤ many ∧ a ≤ s.length ∧ i = .int .i64 a ∧ OwnNums wr w.heap.size v l ∧ P.rdNums l.length s = some (l, s.drop a) ∧ Below w.heap.size w wr) (fun _ i _ => s.length - (intOf i).toNat)
  case atStart => exact ⟨[], 0, by simp, by omega, rfl, ownR_nil _ _, rfl, Below.refl _ _⟩
  case round =>
    obtain ⟨l, a, hl, ha, rfl, hown, hrd, hb⟩ := hrel
    have Hrd := Lib.hid hrd
    clear hrd
    have HO := Lib.hid hown
    obtain ⟨aa, ca, hva, _, _⟩ := hown.is numCells_len
    subst hva
    by_cases hlt : l.length < many
    · have hlti : (l.length : Int) < (many : Int) := by omega
      have Hno := Lib.hid (show P.rOk (s.drop a) = false → P.rdNums many s = none from fun h => P.rdNums_stop _ _ _ _ _ hlt Hrd.out (P.rd_bad h))
      have Hyes := Lib.hid (show P.rOk (s.drop a) = true → P.rdNums (l.length + 1) s = some (l ++ [P.rNum (s.drop a)], s.drop (a + P.rSize (s.drop a))) from fun h => by
        have := P.rdNums_snoc _ _ _ _ _ _ Hrd.out (P.rd_def h)
        rwa [List.drop_drop] at this)
      have HV := Lib.hid (fun wx => refReadVar_any (s.drop a) wx (by rw [List.length_drop]; omega))
      have Hsz := Lib.hid (show P.rOk (s.drop a) = true → 1 ≤ P.rSize (s.drop a) ∧ a + P.rSize (s.drop a) ≤ s.length from fun h => by
        have := P.row_read _ h
        rw [List.length_drop] at this
        omega)
      generalize P.rSize (s.drop a) = sz at *
      generalize P.rNum (s.drop a) = nn at *
      cases hok : P.rOk (s.drop a) with
      | false =>
        have Hn := Lib.hid (Hno.out hok)
        rw [hok] at HV
        clear hok Hyes Hsz Hno
        generalize hln : l.length = ln at *
        have Hln := Lib.hid hln
        clear hln
        go_wp2_with (go_at_call 43; (with_reducible refine (HV.out _).mono ?_); rintro e w1 ⟨rfl, hb1⟩)
        go_ret2
        obtain ⟨e1, e2⟩ := H1.out Hn.out
        exact ⟨.slice none 0 0, by rw [e1]; rfl, by rw [e2]; exact ownR_nil _ _, Chain.up hb hb1⟩
      | true =>
        obtain ⟨hs1, hs2⟩ := Hsz.out hok
        have Hn := Lib.hid (Hyes.out hok)
        rw [hok] at HV
        clear hok Hyes Hsz Hno
        have hll : l.length ≤ 600000 := by omega
        have hwa : IntKind.i64.wrap ((a : Int) + (sz : Int)) = (a : Int) + (sz : Int) := IntWalk.i64_in _ (by omega)
        go_wp2_with (first
          | (go_at_call 43; (with_reducible refine (HV.out _).mono ?_); rintro e w1 ⟨rfl, hb1⟩; have hb2 := Chain.up hb hb1; have ha1 := (Below.refl w1.heap.size w1).alloc (Nat.le_refl _) (.cells #[V64 nn] 27))
          | (at_builtin; (refine wpList_appNums (by rfl) _ _ (by rfl) w.heap.size _ l [nn] (by rfl) (OwnR.alloc (OwnR.up HO.out hb1) _) (by simp; omega) _ _ _ (by rfl) (by rfl) (NumsAt.of (rows_new 1 numCells numCells_len w1 _ _ _ (by rfl))) (Chain.up hb2 ha1).size ?_); intro v' w8 hown8 hb8 hk8; obtain ⟨ad, cc, hv', _, _⟩ := hown8.is numCells_len; (subst hv')))
        go_roundw
        case rel => exact ⟨l ++ [nn], a + sz, by simp; omega, hs2, by go_num, by simpa using hown8, by simpa using Hn.out, (Chain.up hb2 ha1).trans hb8⟩
        case measure => simp [intOf]; omega
    · have hlm : l.length = many := by omega
      have Hn := Lib.hid (show P.rdNums many s = some (l, s.drop a) by rw [← hlm]; exact Hrd.out)
      have hlti : ¬ (l.length : Int) < (many : Int) := by omega
      clear hlm hlt
      go_wp2_with fail
      go_ret2
      obtain ⟨e1, e2⟩ := H2.out _ _ ha Hn.out
      exact ⟨.slice aa l.length ca, by rw [e1]; rfl, by rw [e2]; exact HO.out, hb⟩
end Go.Proofs.Ythpgigjplknomaa
