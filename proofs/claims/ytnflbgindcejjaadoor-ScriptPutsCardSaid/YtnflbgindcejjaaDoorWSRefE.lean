/- The walk of the document's Encode (script). -/
import Derived.Test.YtnflbgindcejjaaDoorWSRefB
import Derived.Test.YtnflbgindcejjaaDoorWSRefR
import Derived.Test.YtnflbgindcejjaaDoorWSEnc
namespace Go.Proofs.YtnflbgindcejjaaDoor
open Go.RowKit
set_option linter.unusedVariables false
set_option linter.unusedSimpArgs false
attribute [local go_sem] str_app

/-- What the document's Encode gives. -/
def RefEncDid (l : List P.Ac) (w : World) (e : Ending) (w' : World) : Prop := e = .returned (.tuple #[S (P.encS l).1, .int .i64 ((P.encS l).2 : Nat)]) ∧ Below w.heap.size w w'
set_option maxRecDepth 100000 in
set_option maxHeartbeats 8000000 in
theorem refEncode_any (a : Option Addr) (rs : List AcR) (c n : Nat) (w : World) (hn : n = rs.length) (hl : n ≤ 1000000000) (hat : ActsAt w a rs) (hst : SmallT rs) :
    Calls Tryd.prog 16 #[.slice a n c] w (RefEncDid (rs.map AcR.x) w) := by
  by_cases hlong : 4096 < n
  · have He := Lib.hid (show P.encS (rs.map AcR.x) = ([], 3) by unfold P.encS; rw [if_pos (by rw [List.length_map]; omega)])
    have hlong2 : (4096 : Int) < (n : Int) := by omega
    clear hat hst hn
    go_enter Tryd.func16, Tryd.ntmps16
    go_wp2_with fail
    exact bodyPost_ret (v := .tuple #[S [], .int .i64 3]) (by simp [results, Tryd.results16, go_sem]) rfl ⟨by rw [He.out]; rfl, Below.refl _ _⟩
  have hshort : ¬ (4096 : Int) < (n : Int) := by omega
  have Hrows := Lib.hid hat.rows
  have Hacts := Lib.hid hat.acts
  have Hty := Lib.hid hat.ty
  have Hn := Lib.hid hn
  have Hst := Lib.hid hst
  clear hat hn hst
  go_enter Tryd.func16, Tryd.ntmps16
  go_wp2_with fail
  go_loopw [5, 4] (fun z y wr => ∃ j : Nat, j ≤ n ∧ z = .int .i64 j ∧ ((rs.map AcR.x).take j).all P.rightB = true ∧ y = S (P.scriptB ((rs.map AcR.x).take j)) ∧ Below w.heap.size w wr) (fun z _ _ => n - (intOf z).toNat)
  case atStart => exact ⟨0, by omega, rfl, rfl, rfl, Below.refl _ _⟩
  case round =>
    obtain ⟨j, hj, rfl, hall, rfl, hw⟩ := hrel
    have Hall := Lib.hid hall
    clear hall
    have hbl : (P.scriptB ((rs.map AcR.x).take j)).length ≤ 900000000 := by
      rw [← List.map_take]
      have h1 := P.scriptB_le (rs.take j) (fun r hr => by
        have hm := List.mem_of_mem_take hr
        have h2 : P.rightB r.x = true := List.all_eq_true.1 Hall.out _ (by rw [← List.map_take]; exact List.mem_map_of_mem hr)
        exact ⟨h2, Hst.out r hm h2⟩)
      rw [List.length_take] at h1
      omega
    by_cases hlt : j < n
    · have hltl : j < rs.length := by have := Hn.out; omega
      have hltm : j < (rs.map AcR.x).length := by rw [List.length_map]; exact hltl
      obtain ⟨bb, o, rfl, hbb, c0, c1, c2, c3, c4, c5, c6⟩ := act_at (RowsAt.up Hrows.out hw) j hltl
      have hmem : rs[j] ∈ rs := List.getElem_mem hltl
      have hac := (Hacts.out _ hmem).up hw
      have hty := Hty.out _ hmem
      have Hsm := Lib.hid (Hst.out _ hmem)
      have Hnx := Lib.hid (show P.scriptB ((rs.map AcR.x).take (j + 1)) = P.scriptB ((rs.map AcR.x).take j) ++ P.actB rs[j].x by rw [List.take_succ_eq_append_getElem hltm, P.scriptB_app, List.getElem_map]; simp [P.scriptB])
      have Hna := Lib.hid (show ((rs.map AcR.x).take (j + 1)).all P.rightB = P.rightB rs[j].x by rw [P.all_take P.rightB _ j hltm, Hall.out, List.getElem_map, Bool.true_and])
      have Hno := Lib.hid (show P.rightB rs[j].x = false → (rs.map AcR.x).all P.rightB = false from fun h => P.all_not (f := P.rightB) hltm (by rw [List.getElem_map]; exact h))
      generalize rs[j] = r at *
      have HR := Lib.hid (fun wx (hp : CrAt wx r.a r.b r.x.cr) => refRight_any r.x r.da r.a r.b r.x.draws.length r.dc r.x.cr.keep.length r.k r.x.cr.spoil.length r.m rfl rfl rfl wx hp)
      have hcr := hac.2.2
      cases hr : P.rightB r.x with
      | false =>
        rw [hr] at HR
        have He := Lib.hid (show P.encS (rs.map AcR.x) = ([], 1) by unfold P.encS; rw [if_neg (by rw [List.length_map]; have := Hn.out; omega), if_neg (by rw [Hno.out hr]; simp)])
        go_wp2_with (go_at_call 17; (with_reducible refine (HR.out _ hcr).mono ?_); rintro e w2 ⟨rfl, hb2⟩)
        exact bodyPost_ret (v := .tuple #[S [], .int .i64 1]) (by simp [results, Tryd.results16, go_sem]) rfl ⟨by rw [He.out]; rfl, Chain.up hw hb2⟩
      | true =>
        rw [hr] at HR
        have hts := Hsm.out hr
        have hal := P.actB_le r.x hr
        have HB := Lib.hid (fun wx (hx : Below wr.heap.size wr wx) => refBytes_any r wx hr hty hts (hac.up hx))
        generalize P.scriptB ((rs.map AcR.x).take j) = acc at *
        generalize P.actB r.x = ab at *
        have habl : ab.length ≤ 27000 := by omega
        go_wp2_with (first
          | (go_at_call 17; (with_reducible refine (HR.out _ hcr).mono ?_); rintro e w2 ⟨rfl, hb2⟩; have hw2 := Chain.up hw hb2; have d0 := cell_up hb2 c0; have d1 := cell_up hb2 c1; have d2 := cell_up hb2 c2; have d3 := cell_up hb2 c3; have d4 := cell_up hb2 c4; have d5 := cell_up hb2 c5; have d6 := cell_up hb2 c6)
          | (go_at_call 25; (with_reducible refine (HB.out _ hb2).mono ?_); rintro e w3 ⟨rfl, hb3⟩; have hw3 := Chain.up hw2 hb3))
        go_roundw
        case rel => exact ⟨j + 1, by omega, by go_num, by rw [Hna.out]; exact hr, by rw [Hnx.out], hw3⟩
        case measure => simp [intOf]; omega
    · obtain rfl : j = n := by omega
      have Htk := Lib.hid (show (rs.map AcR.x).take j = rs.map AcR.x from List.take_of_length_le (by rw [List.length_map]; have := Hn.out; omega))
      have Hall2 := Lib.hid (show (rs.map AcR.x).all P.rightB = true by rw [← Htk.out]; exact Hall.out)
      rw [Htk.out]
      have He := Lib.hid (show P.encS (rs.map AcR.x) = (P.scriptB (rs.map AcR.x), 0) by unfold P.encS; rw [if_neg (by rw [List.length_map]; have := Hn.out; omega), if_pos Hall2.out])
      go_wp2_with fail
      exact bodyPost_ret (v := .tuple #[S (P.scriptB (rs.map AcR.x)), .int .i64 0]) (by simp [results, Tryd.results16, go_sem]) rfl ⟨by rw [He.out]; rfl, hw⟩
end Go.Proofs.YtnflbgindcejjaaDoor
