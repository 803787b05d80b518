/- The walk of the script's Encode. -/
import Derived.Test.YtnflbgindcejjaaDoorWSPut
import Derived.Test.YtnflbgindcejjaaDoorWOwn
namespace Go.Proofs.YtnflbgindcejjaaDoor
open Go.RowKit
set_option linter.unusedVariables false
set_option linter.unusedSimpArgs false

theorem act_at {w : World} {a : Option Addr} {l : List AcR} (h : RowsAt 7 acCells w a l) (k : Nat) (hk : k < l.length) : ∃ b o, a = some ⟨b, o, none⟩ ∧ b < w.heap.size ∧ w.cell? ⟨b, o + k * 7, none⟩ = some (.int .u8 l[k].x.kind) ∧ w.cell? ⟨b, o + k * 7 + 1, none⟩ = some (V64 l[k].x.n) ∧ w.cell? ⟨b, o + k * 7 + 2, none⟩ = some (S l[k].x.text) ∧
    w.cell? ⟨b, o + k * 7 + 3, none⟩ = some (.slice l[k].da l[k].x.draws.length l[k].dc) ∧ w.cell? ⟨b, o + k * 7 + 4, none⟩ = some (.int .i64 l[k].x.cr.names) ∧ w.cell? ⟨b, o + k * 7 + 5, none⟩ = some (.slice l[k].a l[k].x.cr.keep.length l[k].k) ∧ w.cell? ⟨b, o + k * 7 + 6, none⟩ = some (.slice l[k].b l[k].x.cr.spoil.length l[k].m) := by
  obtain ⟨b, o, rfl, hlt, hc⟩ := h k hk
  exact ⟨b, o, rfl, hlt, hc 0 (by decide), hc 1 (by decide), hc 2 (by decide), hc 3 (by decide), hc 4 (by decide), hc 5 (by decide), hc 6 (by decide)⟩
/-- The bytes of acts, and the error's number. -/
def P.encS (l : List P.Ac) : List UInt8 × Nat := if 4096 < l.length then ([], 3) else if l.all P.rightB = true then (P.scriptB l, 0) else ([], 1)
/-- What lies in memory of acts. -/
structure ActsAt (w : World) (a : Option Addr) (rs : List AcR) : Prop where
  rows : RowsAt 7 acCells w a rs
  acts : ∀ r ∈ rs, AcAt w r
  ty : ∀ r ∈ rs, P.tyAc r.x
theorem ActsAt.up {w w' : World} {a : Option Addr} {rs : List AcR} (h : ActsAt w a rs) (hb : Below w.heap.size w w') : ActsAt w' a rs := ⟨RowsAt.up h.rows hb, fun r hr => (h.acts r hr).up hb, h.ty⟩
def SmallT (rs : List AcR) : Prop := ∀ r ∈ rs, P.rightB r.x = true → r.x.text.length ≤ 20000
/-- What Encode gives. -/
def EncDid (l : List P.Ac) (w : World) (e : Ending) (w' : World) : Prop := ∃ v, e = .returned (.tuple #[v, .int .i64 ((P.encS l).2 : Nat)]) ∧ Own w' w.heap.size v (P.encS l).1 ∧ Below w.heap.size w w'
theorem P.scriptB_le (l : List AcR) (h : ∀ r ∈ l, P.rightB r.x = true ∧ r.x.text.length ≤ 20000) : (P.scriptB (l.map AcR.x)).length ≤ 27000 * l.length := by
  induction l with
  | nil => simp [P.scriptB]
  | cons r l ih =>
    have h1 := P.actB_le r.x (h r (List.mem_cons_self ..)).1
    have h2 := (h r (List.mem_cons_self ..)).2
    have h3 := ih (fun q hq => h q (List.mem_cons_of_mem _ hq))
    rw [List.map_cons, P.scriptB_cons, List.length_append, List.length_cons]
    omega
theorem buf_bytes (B g : Nat) (l : List UInt8) (w : World) (h : Buf w B g l) :
    Calls Tryd.prog 20 #[.pointer (some ⟨g, 0, none⟩)] w fun e w' => ∃ v, e = .returned v ∧ Own w' B v l ∧ Below w.heap.size w w' :=
  (Tryd.Buffer_Bytes B g (l.map u8V) w h).mono fun e w' ⟨v, h1, h2, n, h3⟩ => ⟨v, h1, by unfold Own; rw [List.length_map] at h2; exact h2, by rw [h3]; exact below_drewN (Below.refl _ _) n⟩
set_option maxRecDepth 100000 in
set_option maxHeartbeats 8000000 in
theorem encode_any (a : Option Addr) (rs : List AcR) (c n : Nat) (w : World) (hn : n = rs.length) (hl : n ≤ 1000000000) (hat : ActsAt w a rs) (hst : SmallT rs) :
    Calls Tryd.prog 9 #[.slice a n c] w (EncDid (rs.map AcR.x) w) := by
  by_cases hlong : 4096 < n
  · have He := Lib.hid (show P.encS (rs.map AcR.x) = ([], 3) by unfold P.encS; rw [if_pos (by rw [List.length_map]; omega)])
    have hlong2 : (4096 : Int) < (n : Int) := by omega
    clear hat hst hn
    go_enter Tryd.func9, Tryd.ntmps9
    go_wp2_with fail
    exact bodyPost_ret (v := .tuple #[.slice none 0 0, .int .i64 3]) (by simp [results, Tryd.results9, go_sem]) rfl ⟨.slice none 0 0, by rw [He.out]; rfl, by rw [He.out]; exact own_nil _ _, Below.refl _ _⟩
  have hshort : ¬ (4096 : Int) < (n : Int) := by omega
  have Hrows := Lib.hid hat.rows
  have Hacts := Lib.hid hat.acts
  have Hty := Lib.hid hat.ty
  have Hn := Lib.hid hn
  have Hst := Lib.hid hst
  have hB0 : Buf (w.alloc (.cells #[.slice none 0 0, .int .i64 0, .int .i8 0] 52)) w.heap.size w.heap.size [] := Lib.fresh_isBuffer _ _ w
  have hw0 : Below w.heap.size w (w.alloc (.cells #[.slice none 0 0, .int .i64 0, .int .i8 0] 52)) := (Below.refl _ _).alloc (Nat.le_refl _) _
  clear hat hn hst
  go_enter Tryd.func9, Tryd.ntmps9
  go_wp2_with fail
  go_loopw [12] (fun z wr => ∃ j : Nat, j ≤ n ∧ z = .int .i64 j ∧ ((rs.map AcR.x).take j).all P.rightB = true ∧ Buf wr w.heap.size w.heap.size (P.scriptB ((rs.map AcR.x).take j)) ∧ Below w.heap.size w wr) (fun z _ => n - (intOf z).toNat)
  case atStart => exact ⟨0, by omega, rfl, rfl, hB0, hw0⟩
  case round =>
    clear hB0 hw0
    obtain ⟨j, hj, rfl, hall, hB, hw⟩ := hrel
    have Hall := Lib.hid hall
    clear hall
    have hbl : (P.scriptB ((rs.map AcR.x).take j)).length ≤ 900000000 := by
      rw [← List.map_take]
      have h1 := P.scriptB_le (rs.take j) (fun r hr => by
        have hm := List.mem_of_mem_take hr
        have h2 : P.rightB r.x = true := List.all_eq_true.1 Hall.out _ (by rw [← List.map_take]; exact List.mem_map_of_mem hr)
        exact ⟨h2, Hst.out r hm h2⟩)
      rw [List.length_take] at h1
      omega
    by_cases hlt : j < n
    · have hltl : j < rs.length := by have := Hn.out; omega
      have hltm : j < (rs.map AcR.x).length := by rw [List.length_map]; exact hltl
      obtain ⟨bb, o, rfl, hbb, c0, c1, c2, c3, c4, c5, c6⟩ := act_at (RowsAt.up Hrows.out hw) j hltl
      have hmem : rs[j] ∈ rs := List.getElem_mem hltl
      have hac := Hacts.out _ hmem
      have hty := Hty.out _ hmem
      have Hsm := Lib.hid (Hst.out _ hmem)
      have Hnx := Lib.hid (show P.scriptB ((rs.map AcR.x).take (j + 1)) = P.scriptB ((rs.map AcR.x).take j) ++ P.actB rs[j].x by rw [List.take_succ_eq_append_getElem hltm, P.scriptB_app, List.getElem_map]; simp [P.scriptB])
      have Hna := Lib.hid (show ((rs.map AcR.x).take (j + 1)).all P.rightB = P.rightB rs[j].x by rw [P.all_take P.rightB _ j hltm, Hall.out, List.getElem_map, Bool.true_and])
      have Hno := Lib.hid (show P.rightB rs[j].x = false → (rs.map AcR.x).all P.rightB = false from fun h => P.all_not (f := P.rightB) hltm (by rw [List.getElem_map]; exact h))
      generalize rs[j] = r at *
      have HR := Lib.hid (fun wx => fun (hp : CrAt wx r.a r.b r.x.cr) => right_any r.x r.da r.a r.b r.x.draws.length r.dc r.x.cr.keep.length r.k r.x.cr.spoil.length r.m rfl rfl rfl wx hp)
      have hxS := Bx.fresh wr 32 #[.int .u8 r.x.kind, V64 r.x.n, S r.x.text, .slice r.da r.x.draws.length r.dc, .int .i64 r.x.cr.names, .slice r.a r.x.cr.keep.length r.k, .slice r.b r.x.cr.spoil.length r.m]
      have hB1 := hB.up ((Below.refl wr.heap.size wr).alloc (Nat.le_refl _) (.cells #[.int .u8 r.x.kind, V64 r.x.n, S r.x.text, .slice r.da r.x.draws.length r.dc, .int .i64 r.x.cr.names, .slice r.a r.x.cr.keep.length r.k, .slice r.b r.x.cr.spoil.length r.m] 32))
      have hw1 : Below w.heap.size w (wr.alloc (.cells #[.int .u8 r.x.kind, V64 r.x.n, S r.x.text, .slice r.da r.x.draws.length r.dc, .int .i64 r.x.cr.names, .slice r.a r.x.cr.keep.length r.k, .slice r.b r.x.cr.spoil.length r.m] 32)) := hw.alloc hw.size _
      have hcr1 := hac.2.2.up hw1
      cases hr : P.rightB r.x with
      | false =>
        rw [hr] at HR
        have He := Lib.hid (show P.encS (rs.map AcR.x) = ([], 1) by unfold P.encS; rw [if_neg (by rw [List.length_map]; have := Hn.out; omega), if_neg (by rw [Hno.out hr]; simp)])
        go_wp2_with (go_at_call 12; (with_reducible refine (HR.out _ hcr1).mono ?_); rintro e w2 ⟨rfl, hb2⟩)
        exact bodyPost_ret (v := .tuple #[.slice none 0 0, .int .i64 1]) (by simp [results, Tryd.results9, go_sem]) rfl ⟨.slice none 0 0, by rw [He.out]; rfl, by rw [He.out]; exact own_nil _ _, Chain.up hw1 hb2⟩
      | true =>
        rw [hr] at HR
        have hts := Hsm.out hr
        go_wp2_with (first
          | (go_at_call 12; (with_reducible refine (HR.out _ hcr1).mono ?_); rintro e w2 ⟨rfl, hb2⟩; have hxS2 := hxS.up hb2; have hB2 := hB1.up hb2; have hw2 := Chain.up hw1 hb2; obtain ⟨⟨_, _, _, _, _, _, _⟩, _, _, _, _, _, _, _⟩ := hxS2.sevenF)
          | (go_at_call 19; (with_reducible refine (putAct_any w w.heap.size _ r w2 hr hty hts hac hw2 hB2 hbl).mono ?_); rintro e w3 ⟨v3, rfl, hB3, hw3⟩))
        go_roundw
        case rel => exact ⟨j + 1, by omega, by go_num, by rw [Hna.out]; exact hr, by rw [Hnx.out]; exact hB3, hw3⟩
        case measure => simp [intOf]; omega
    · obtain rfl : j = n := by omega
      rw [List.take_of_length_le (by rw [List.length_map]; have := Hn.out; omega)] at hB hbl Hall
      have He := Lib.hid (show P.encS (rs.map AcR.x) = (P.scriptB (rs.map AcR.x), 0) by unfold P.encS; rw [if_neg (by rw [List.length_map]; have := Hn.out; omega), if_pos Hall.out])
      go_wp2_with (go_at_call 20; (with_reducible refine (buf_bytes _ _ _ _ hB).mono ?_); rintro e w1 ⟨v1, rfl, hown, hb1⟩)
      exact bodyPost_ret (v := .tuple #[v1, .int .i64 0]) (by simp [results, Tryd.results9, go_sem]) rfl ⟨v1, by rw [He.out]; rfl, by rw [He.out]; exact hown, Chain.up hw hb1⟩
end Go.Proofs.YtnflbgindcejjaaDoor
