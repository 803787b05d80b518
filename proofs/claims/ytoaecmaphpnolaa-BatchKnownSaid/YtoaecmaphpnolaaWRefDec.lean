/- The walk of the document's Decode. -/
import Derived.Test.YtoaecmaphpnolaaWRefE
import Derived.Test.YtoaecmaphpnolaaPBatch2
namespace Go.Proofs.Ytoaecmaphpnolaa
open Go.RowKit
set_option linter.unusedVariables false

theorem obox_call2 {w w1 : World} {g : Bool} (hb1 : Below (w.alloc (.cells #[S [], S [], .bool g] 24)).heap.size (w.alloc (.cells #[S [], S [], .bool g] 24)) w1) :
    OBox w1 w.heap.size [] [] g ∧ Below w.heap.size w w1 := ⟨(OBox.fresh w [] [] g).up hb1, ((Below.refl _ _).alloc (Nat.le_refl _) _).trans (hb1.mono (by simp))⟩
theorem OBox.set0 {w : World} {g : Nat} {k v : List UInt8} {b : Bool} (h : OBox w g k v b) (k' : List UInt8) : OBox (w.setCell ⟨g, 0, none⟩ (S k')) g k' v b := by
  unfold OBox at h ⊢
  simp [World.setCell, Array.getElem?_modify, h]
theorem OBox.set1 {w : World} {g : Nat} {k v : List UInt8} {b : Bool} (h : OBox w g k v b) (v' : List UInt8) : OBox (w.setCell ⟨g, 1, none⟩ (S v')) g k v' b := by
  unfold OBox at h ⊢
  simp [World.setCell, Array.getElem?_modify, h]

attribute [local go_sem] str_take str_dropN str_at

set_option maxRecDepth 100000 in
set_option maxHeartbeats 4000000 in
theorem refDecode_no1 (s : List UInt8) (w : World) (hs : s.length ≤ 1000000) (hno : P.rOk s = false) :
    Calls Try.prog 21 #[S s] w fun e w' => e = .returned noBatch ∧ Below w.heap.size w w' := by
  have HV := Lib.hid (fun w => refReadVar_any s w (by omega))
  rw [hno] at HV
  generalize P.rNum s = nn at *
  generalize P.rSize s = ss at *
  go_enter Try.func21, Try.ntmps21
  go_wp2_with (go_at_call 34; (with_reducible refine (HV.out _).mono ?_); rintro e w1 ⟨rfl, hb1⟩; have hbx := (Bx.fresh w _ _).up hb1; obtain ⟨x0, x1, f0, f1⟩ := hbx.two)
  obtain ⟨y0, y1, g0, g1⟩ := (hbx.set2 (.int .u64 0) (.slice none 0 0)).two
  have hc1 : Below w.heap.size w w1 := ((Below.refl _ _).alloc (Nat.le_refl _) _).trans (hb1.mono (by simp))
  exact bodyPost_ret (v := noBatch) (by simp [results, Try.results21, go_sem, y0, y1]) rfl ⟨rfl, below_set2 hc1 (Nat.le_refl _) _ _⟩
set_option maxRecDepth 100000 in
set_option maxHeartbeats 4000000 in
theorem refDecode_no2 (s : List UInt8) (w : World) (hs : s.length ≤ 1000000) (hok : P.rOk s = true) (hno : ¬ (P.rOk (s.drop (P.rSize s)) = true ∧ P.rNum (s.drop (P.rSize s)) ≤ 16)) :
    Calls Try.prog 21 #[S s] w fun e w' => e = .returned noBatch ∧ Below w.heap.size w w' := by
  have HV := Lib.hid (fun w => refReadVar_any s w (by omega))
  have HU := Lib.hid (fun w => refReadVar_any (s.drop (P.rSize s)) w (by rw [List.length_drop]; omega))
  have hsz := (P.row_read s hok).2.1
  rw [hok] at HV
  generalize P.rNum s = nn at *
  generalize P.rSize s = ss at *
  generalize P.rSize (s.drop ss) = su at *
  cases hoku : P.rOk (s.drop ss) with
  | false =>
    rw [hoku] at HU
    generalize P.rNum (s.drop ss) = nu at *
    clear hno hoku hok
    go_enter Try.func21, Try.ntmps21
    go_wp2_with (first
      | (go_at_call 34; (with_reducible refine (HV.out _).mono ?_); rintro e w1 ⟨rfl, hb1⟩; have hbx1 := (Bx.fresh w _ _).up hb1)
      | (go_at_call 34; (with_reducible refine (HU.out _).mono ?_); rintro e w2 ⟨rfl, hb2⟩; have hbx := hbx1.up hb2; obtain ⟨x0, x1, f0, f1⟩ := hbx.two))
    obtain ⟨y0, y1, g0, g1⟩ := (hbx.set2 (.int .u64 0) (.slice none 0 0)).two
    have hc1 : Below w.heap.size w w1 := ((Below.refl _ _).alloc (Nat.le_refl _) _).trans (hb1.mono (by simp))
    exact bodyPost_ret (v := noBatch) (by simp [results, Try.results21, go_sem, y0, y1]) rfl ⟨rfl, below_set2 (Chain.up hc1 hb2) (Nat.le_refl _) _ _⟩
  | true =>
    rw [hoku] at HU
    have hnu : ¬ P.rNum (s.drop ss) ≤ 16 := fun h => hno ⟨hoku, h⟩
    generalize P.rNum (s.drop ss) = nu at *
    have hni : (16 : Int) < (nu : Int) := by omega
    clear hno hoku hok
    go_enter Try.func21, Try.ntmps21
    go_wp2_with (first
      | (go_at_call 34; (with_reducible refine (HV.out _).mono ?_); rintro e w1 ⟨rfl, hb1⟩; have hbx1 := (Bx.fresh w _ _).up hb1)
      | (go_at_call 34; (with_reducible refine (HU.out _).mono ?_); rintro e w2 ⟨rfl, hb2⟩; have hbx := hbx1.up hb2; obtain ⟨x0, x1, f0, f1⟩ := hbx.two))
    obtain ⟨y0, y1, g0, g1⟩ := (hbx.set2 (.int .u64 0) (.slice none 0 0)).two
    have hc1 : Below w.heap.size w w1 := ((Below.refl _ _).alloc (Nat.le_refl _) _).trans (hb1.mono (by simp))
    exact bodyPost_ret (v := noBatch) (by simp [results, Try.results21, go_sem, y0, y1]) rfl ⟨rfl, below_set2 (Chain.up hc1 hb2) (Nat.le_refl _) _ _⟩

theorem P.readOpsL_none {n k m : Nat} {s : List UInt8} {l : List P.Op} (h : P.readOpL (s.drop m) = none) (hn : n = k + 1) : P.readOpsL n s m l = none := by
  subst hn
  unfold P.readOpsL
  rw [h]
theorem P.readOpsL_some {n k m j : Nat} {s : List UInt8} {l : List P.Op} {o : P.Op} (h : P.readOpL (s.drop m) = some (o, j)) (hn : n = k + 1) : P.readOpsL n s m l = P.readOpsL k s (m + j) (l ++ [o]) := by
  subst hn
  rw [P.readOpsL, h]
theorem P.at_drop (s : List UInt8) (m : Nat) : P.at_ (s.drop m) 0 = P.at_ s m := by
  unfold P.at_
  simp [List.getD_eq_getElem?_getD]

set_option maxRecDepth 100000 in
set_option maxHeartbeats 8000000 in
theorem refDecode_loop (s : List UInt8) (w : World) (hs : s.length ≤ 1000000) (hok : P.rOk s = true) (hok2 : P.rOk (s.drop (P.rSize s)) = true) (hn16 : P.rNum (s.drop (P.rSize s)) ≤ 16) :
    Calls Try.prog 21 #[S s] w fun e w' => DecR (P.decL s) e w' ∧ Below w.heap.size w w' := by
  have HD := Lib.hid (show P.decL s = match P.readOpsL (P.rNum (s.drop (P.rSize s))) s (P.rSize s + P.rSize (s.drop (P.rSize s))) [] with
    | none => none
    | some (l, _) => if P.chk (P.rNum s) l = 0 ∧ P.enc (P.rNum s) l = s then some (P.rNum s, l) else none by unfold P.decL; rw [if_pos ⟨hok, hok2, hn16⟩]; rfl)
  have HV := Lib.hid (fun w => refReadVar_any s w (by omega))
  have HU := Lib.hid (fun w => refReadVar_any (s.drop (P.rSize s)) w (by rw [List.length_drop]; omega))
  have hsz := (P.row_read s hok).2.1
  have hsu := (P.row_read _ hok2).2.1
  rw [List.length_drop] at hsu
  have hseq : P.rNum s < 18446744073709551616 := (P.row_read s hok).2.2.2
  rw [hok] at HV
  rw [hok2] at HU
  generalize P.decL s = res at *
  generalize P.rNum s = seq at *
  generalize P.rSize s = ss at *
  generalize P.rNum (s.drop ss) = nn at *
  generalize P.rSize (s.drop ss) = su at *
  clear hok hok2
  have hadd : ss + su ≤ s.length := by omega
  have hnni : (nn : Int) ≤ 16 := by omega
  have Hseq := Lib.hid hseq
  clear hseq
  go_enter Try.func21, Try.ntmps21
  go_wp2_with (first
      | (go_at_call 34; (with_reducible refine (HV.out _).mono ?_); rintro e w1 ⟨rfl, hb1⟩; have hbx1 := (Bx.fresh w _ _).up hb1)
      | (go_at_call 34; (with_reducible refine (HU.out _).mono ?_); rintro e w2 ⟨rfl, hb2⟩; have hbx := hbx1.up hb2))
  have hbb := Bx.fresh w2 43 #[.int .u64 (seq : Int), .slice none 0 0]
  have hbx0 := hbx.up ((Below.refl w2.heap.size w2).alloc (Nat.le_refl _) (.cells #[.int .u64 (seq : Int), .slice none 0 0] 43))
  have hc1 : Below w.heap.size w w1 := ((Below.refl _ _).alloc (Nat.le_refl _) _).trans (hb1.mono (by simp))
  have hc2 := Chain.up hc1 hb2
  have hc3 := hc2.alloc hc2.size (.cells #[.int .u64 (seq : Int), .slice none 0 0] 43)
  have hlt0 : w.heap.size < w2.heap.size := hbx.lt
  have Hl0 := Lib.hid hlt0
  clear hbx hbx1 hb1 hb2 hc1 hlt0
  go_loopw [5, 10] (fun z i wr => ∃ (k m : Nat) (l : List P.Op) (u : Value), k ≤ nn ∧ m ≤ s.length ∧ z = .int .i64 (m : Int) ∧ i = .int .u64 (k : Int) ∧ l.length = k ∧ P.readOpsL nn s (ss + su) [] = P.readOpsL (nn - k) s m l ∧
      Bx wr w.heap.size 43 #[.int .u64 0, .slice none 0 0] ∧ Bx wr w2.heap.size 43 #[.int .u64 (seq : Int), u] ∧ OwnOps wr (w2.heap.size + 1) u l ∧ w2.heap.size + 1 ≤ wr.heap.size ∧ Below w.heap.size w wr) (fun _ i _ => nn - (intOf i).toNat)
  case atStart => exact ⟨0, ss + su, [], _, by omega, hadd, by simp, rfl, rfl, rfl, hbx0, hbb, ownR_nil _ _, by simp, hc3⟩
  case round =>
    clear hbb hbx0 hc2 hc3
    obtain ⟨k, m, l, u, hk, hm, rfl, rfl, hlk, hro, hbx, hbb, hown, hsz1, hb⟩ := hrel
    have Hsz1 := Lib.hid hsz1
    have Hlk := Lib.hid hlk
    have Hro := Lib.hid hro
    have hl16 : l.length < 100000 := by omega
    clear hlk hro
    obtain ⟨x0, x1, f0, f1⟩ := hbx.two
    obtain ⟨y0, y1, g0, g1⟩ := hbb.two
    by_cases hlt : k < nn
    · have Hnk := Lib.hid (show nn - k = (nn - (k + 1)) + 1 by omega)
      have Hno := Lib.hid (show P.readOpL (s.drop m) = none → res = none from fun h => by rw [HD.out, Hro.out, P.readOpsL_none h Hnk.out])
      have Hsome := Lib.hid (show ∀ o j, P.readOpL (s.drop m) = some (o, j) → P.readOpsL nn s (ss + su) [] = P.readOpsL (nn - (k + 1)) s (m + j) (l ++ [o]) from fun o j h => by rw [Hro.out, P.readOpsL_some h Hnk.out])
      by_cases hme : m < s.length
      · have hmei : (m : Int) < (s.length : Int) := by omega
        have Hrd := Lib.hid (show P.readOpL (s.drop m) = if P.tOk (s.drop (m + 1)) 64 = true then
            if P.at_ s m = 1 then some (⟨P.tText (s.drop (m + 1)) 64, [], true⟩, 1 + P.tSize (s.drop (m + 1)) 64)
            else if P.tOk (s.drop (m + 1 + P.tSize (s.drop (m + 1)) 64)) 512 = true then
              some (⟨P.tText (s.drop (m + 1)) 64, P.tText (s.drop (m + 1 + P.tSize (s.drop (m + 1)) 64)) 512, false⟩, 1 + P.tSize (s.drop (m + 1)) 64 + P.tSize (s.drop (m + 1 + P.tSize (s.drop (m + 1)) 64)) 512)
            else none
          else none by
            unfold P.readOpL
            rw [if_neg (by rw [List.length_drop]; omega), P.at_drop]
            simp only [List.drop_drop, ← Nat.add_assoc])
        have HT := Lib.hid (fun w => refReadText_any (s.drop (m + 1)) 64 w (by rw [List.length_drop]; omega) (by omega) (by omega))
        cases hok : P.tOk (s.drop (m + 1)) 64 with
        | false =>
          rw [hok] at HT
          have Hn := Lib.hid (Hno.out (by rw [Hrd.out, hok]; rfl))
          clear hok
          generalize P.tText (s.drop (m + 1)) 64 = kk at *
          generalize P.tSize (s.drop (m + 1)) 64 = sz at *
          go_wp2_with (go_at_call 35; (with_reducible refine (HT.out _).mono ?_); rintro e w3 ⟨rfl, hb3⟩; obtain ⟨ho3, hc3⟩ := obox_call2 hb3; have ho4 := ho3.set0 kk; have hf0 := ho3.frozen 0; obtain ⟨z0, z1, z2⟩ := ho3.cell; have hc4 : Below wr.heap.size wr (w3.setCell ⟨wr.heap.size, 0, none⟩ (S kk)) := hc3.setCell (Nat.le_refl _) _; have hbx4 := hbx.up hc4; have hbb4 := hbb.up hc4; have hown4 := hown.up hc4; obtain ⟨x0', x1', f0', f1'⟩ := hbx4.two; obtain ⟨y0', y1', g0', g1'⟩ := hbb4.two; have hs6 : w2.heap.size + 1 ≤ (w3.setCell ⟨wr.heap.size, 0, none⟩ (S kk)).heap.size := Nat.le_trans Hsz1.out hc4.size)
          obtain ⟨q0, q1, _, _⟩ := (hbx4.set2 (.int .u64 0) (.slice none 0 0)).two
          exact bodyPost_ret (v := noBatch) (by simp [results, Try.results21, go_sem, q0, q1]) rfl ⟨by rw [Hn.out]; rfl, below_set2 (Chain.up hb hc4) (Nat.le_refl _) _ _⟩
        | true =>
          rw [hok] at HT
          have hsz0 := (P.tOk_row hok).2.1
          rw [List.length_drop] at hsz0
          have HU := Lib.hid (fun w => refReadText_any (s.drop (m + 1 + P.tSize (s.drop (m + 1)) 64)) 512 w (by rw [List.length_drop]; omega) (by omega) (by omega))
          rw [hok, if_pos rfl] at Hrd
          clear hok
          generalize P.tText (s.drop (m + 1)) 64 = kk at *
          generalize P.tSize (s.drop (m + 1)) 64 = sz at *
          have hsz3 : m + 1 + sz ≤ s.length := by omega
          clear hsz0
          by_cases hgo : P.at_ s m = 1
          · have hgb : ((P.at_ s m : Int) == 1) = true := beq_iff_eq.2 (by omega)
            have Hn := Lib.hid (show P.readOpsL nn s (ss + su) [] = P.readOpsL (nn - (k + 1)) s (m + (1 + sz)) (l ++ [⟨kk, [], true⟩]) from Hsome.out _ _ (by rw [Hrd.out, if_pos hgo]))
            clear hgo HU
            go_wp2_with (first
              | (go_at_call 35; (with_reducible refine (HT.out _).mono ?_); rintro e w3 ⟨rfl, hb3⟩; obtain ⟨ho3, hc3⟩ := obox_call2 hb3; have ho4 := ho3.set0 kk; have hf0 := ho3.frozen 0; obtain ⟨z0, z1, z2⟩ := ho3.cell; have hc4 : Below wr.heap.size wr (w3.setCell ⟨wr.heap.size, 0, none⟩ (S kk)) := hc3.setCell (Nat.le_refl _) _; have hbx4 := hbx.up hc4; have hbb4 := hbb.up hc4; have hown4 := hown.up hc4; obtain ⟨x0', x1', f0', f1'⟩ := hbx4.two; obtain ⟨y0', y1', g0', g1'⟩ := hbb4.two; have hs6 : w2.heap.size + 1 ≤ (w3.setCell ⟨wr.heap.size, 0, none⟩ (S kk)).heap.size := Nat.le_trans Hsz1.out hc4.size)
              | (at_builtin; go_loud (refine wpList_pushOp (by rfl) _ _ (by rfl) (w2.heap.size + 1) _ l (⟨kk, [], true⟩ : P.Op) (by rfl) hown4 hl16 ?hx hs6 ?_; (case hx => (show Value.slice (some ⟨_, 0, none⟩) 1 1 = _); simp); intro v' w7 hown8 hb8; obtain ⟨ad, cc, hv', _, _⟩ := hown8.is opCells_len; subst hv'; have hbx8 := hbx4.below hb8 (Nat.lt_succ_of_lt Hl0.out); have hbb8 := hbb4.below hb8 (Nat.lt_succ_self _); obtain ⟨x0'', x1'', f0'', f1''⟩ := hbx8.two; obtain ⟨y0'', y1'', g0'', g1''⟩ := hbb8.two)))
            go_roundw
            case rel => exact ⟨k + 1, m + (1 + sz), l ++ [(⟨kk, [], true⟩ : P.Op)], .slice ad (l ++ [(⟨kk, [], true⟩ : P.Op)]).length cc, by omega, by omega, by go_num, by go_num, by simp [Hlk.out], Hn.out,
                by simpa [Hlk.out] using hbx8.other (Nat.ne_of_gt Hl0.out) 1 (.slice ad (k + 1) cc), by simpa [Hlk.out] using hbb8.set 1 (.slice ad (k + 1) cc), OwnR.other hown8 (Nat.lt_succ_self _) 1 _,
                Nat.le_trans (Nat.le_trans Hsz1.out hc4.size) (Nat.le_trans hb8.size ((Below.refl w2.heap.size w7).setCell (Nat.le_refl _) _).size), ((Chain.up hb hc4).trans (hb8.mono (by have := Hl0.out; omega))).setCell (Nat.le_of_lt Hl0.out) _⟩
            case measure => simp [intOf]; omega
          · have hgb : ((P.at_ s m : Int) == 1) = false := beq_eq_false_iff_ne.2 (by omega)
            rw [if_neg hgo] at Hrd
            clear hgo
            cases hok : P.tOk (s.drop (m + 1 + sz)) 512 with
            | false =>
              rw [hok] at HU
              have Hn := Lib.hid (Hno.out (by rw [Hrd.out, hok]; rfl))
              clear hok
              generalize P.tText (s.drop (m + 1 + sz)) 512 = vv at *
              generalize P.tSize (s.drop (m + 1 + sz)) 512 = sv at *
              go_wp2_with (first
                | (go_at_call 35; (with_reducible refine (HT.out _).mono ?_); rintro e w3 ⟨rfl, hb3⟩; obtain ⟨ho3, hc3⟩ := obox_call2 hb3; have ho4 := ho3.set0 kk; have hf0 := ho3.frozen 0; obtain ⟨z0, z1, z2⟩ := ho3.cell; have hc4 : Below wr.heap.size wr (w3.setCell ⟨wr.heap.size, 0, none⟩ (S kk)) := hc3.setCell (Nat.le_refl _) _; have hbx4 := hbx.up hc4; have hbb4 := hbb.up hc4; have hown4 := hown.up hc4; obtain ⟨x0', x1', f0', f1'⟩ := hbx4.two; obtain ⟨y0', y1', g0', g1'⟩ := hbb4.two; have hs6 : w2.heap.size + 1 ≤ (w3.setCell ⟨wr.heap.size, 0, none⟩ (S kk)).heap.size := Nat.le_trans Hsz1.out hc4.size)
                | (go_at_call 35; (with_reducible refine (HU.out _).mono ?_); rintro e w5 ⟨rfl, hb5⟩; have ho5 := ho4.up hb5; have hf1 := ho5.frozen 1; obtain ⟨v0, v1, v2⟩ := ho5.cell; have hc6 : Below wr.heap.size wr (w5.setCell ⟨wr.heap.size, 1, none⟩ (S vv)) := (Chain.up hc4 hb5).setCell (Nat.le_refl _) _; have hbx6 := hbx.up hc6; have hbb6 := hbb.up hc6; have hown6 := hown.up hc6; obtain ⟨x0a, x1a, f0a, f1a⟩ := hbx6.two; obtain ⟨y0a, y1a, g0a, g1a⟩ := hbb6.two; have hs7 : w2.heap.size + 1 ≤ (w5.setCell ⟨wr.heap.size, 1, none⟩ (S vv)).heap.size := Nat.le_trans Hsz1.out hc6.size))
              obtain ⟨q0, q1, _, _⟩ := (hbx6.set2 (.int .u64 0) (.slice none 0 0)).two
              exact bodyPost_ret (v := noBatch) (by simp [results, Try.results21, go_sem, q0, q1]) rfl ⟨by rw [Hn.out]; rfl, below_set2 (Chain.up hb hc6) (Nat.le_refl _) _ _⟩
            | true =>
              rw [hok] at HU
              have hsz1 := (P.tOk_row hok).2.1
              rw [List.length_drop] at hsz1
              rw [hok, if_pos rfl] at Hrd
              clear hok
              generalize P.tText (s.drop (m + 1 + sz)) 512 = vv at *
              generalize P.tSize (s.drop (m + 1 + sz)) 512 = sv at *
              have hsz4 : m + 1 + sz + sv ≤ s.length := by omega
              clear hsz1
              have Hn := Lib.hid (show P.readOpsL nn s (ss + su) [] = P.readOpsL (nn - (k + 1)) s (m + (1 + sz + sv)) (l ++ [⟨kk, vv, false⟩]) from Hsome.out _ _ Hrd.out)
              go_wp2_with (first
                | (go_at_call 35; (with_reducible refine (HT.out _).mono ?_); rintro e w3 ⟨rfl, hb3⟩; obtain ⟨ho3, hc3⟩ := obox_call2 hb3; have ho4 := ho3.set0 kk; have hf0 := ho3.frozen 0; obtain ⟨z0, z1, z2⟩ := ho3.cell; have hc4 : Below wr.heap.size wr (w3.setCell ⟨wr.heap.size, 0, none⟩ (S kk)) := hc3.setCell (Nat.le_refl _) _; have hbx4 := hbx.up hc4; have hbb4 := hbb.up hc4; have hown4 := hown.up hc4; obtain ⟨x0', x1', f0', f1'⟩ := hbx4.two; obtain ⟨y0', y1', g0', g1'⟩ := hbb4.two; have hs6 : w2.heap.size + 1 ≤ (w3.setCell ⟨wr.heap.size, 0, none⟩ (S kk)).heap.size := Nat.le_trans Hsz1.out hc4.size)
                | (go_at_call 35; (with_reducible refine (HU.out _).mono ?_); rintro e w5 ⟨rfl, hb5⟩; have ho5 := ho4.up hb5; have hf1 := ho5.frozen 1; obtain ⟨v0, v1, v2⟩ := ho5.cell; have hc6 : Below wr.heap.size wr (w5.setCell ⟨wr.heap.size, 1, none⟩ (S vv)) := (Chain.up hc4 hb5).setCell (Nat.le_refl _) _; have hbx6 := hbx.up hc6; have hbb6 := hbb.up hc6; have hown6 := hown.up hc6; obtain ⟨x0a, x1a, f0a, f1a⟩ := hbx6.two; obtain ⟨y0a, y1a, g0a, g1a⟩ := hbb6.two; have hs7 : w2.heap.size + 1 ≤ (w5.setCell ⟨wr.heap.size, 1, none⟩ (S vv)).heap.size := Nat.le_trans Hsz1.out hc6.size)
                | (at_builtin; go_loud (refine wpList_pushOp (by rfl) _ _ (by rfl) (w2.heap.size + 1) _ l (⟨kk, vv, false⟩ : P.Op) (by rfl) hown6 hl16 ?hx hs7 ?_; (case hx => (show Value.slice (some ⟨_, 0, none⟩) 1 1 = _); simp); intro v' w7 hown8 hb8; obtain ⟨ad, cc, hv', _, _⟩ := hown8.is opCells_len; subst hv'; have hbx8 := hbx6.below hb8 (Nat.lt_succ_of_lt Hl0.out); have hbb8 := hbb6.below hb8 (Nat.lt_succ_self _); obtain ⟨x0'', x1'', f0'', f1''⟩ := hbx8.two; obtain ⟨y0'', y1'', g0'', g1''⟩ := hbb8.two)))
              go_roundw
              case rel => exact ⟨k + 1, m + (1 + sz + sv), l ++ [(⟨kk, vv, false⟩ : P.Op)], .slice ad (l ++ [(⟨kk, vv, false⟩ : P.Op)]).length cc, by omega, by omega, by go_num, by go_num, by simp [Hlk.out], Hn.out,
                  by simpa [Hlk.out] using hbx8.other (Nat.ne_of_gt Hl0.out) 1 (.slice ad (k + 1) cc), by simpa [Hlk.out] using hbb8.set 1 (.slice ad (k + 1) cc), OwnR.other hown8 (Nat.lt_succ_self _) 1 _,
                  Nat.le_trans (Nat.le_trans Hsz1.out hc6.size) (Nat.le_trans hb8.size ((Below.refl w2.heap.size w7).setCell (Nat.le_refl _) _).size), ((Chain.up hb hc6).trans (hb8.mono (by have := Hl0.out; omega))).setCell (Nat.le_of_lt Hl0.out) _⟩
              case measure => simp [intOf]; omega
      · obtain rfl : m = s.length := by omega
        have Hn := Lib.hid (Hno.out (by unfold P.readOpL; rw [if_pos (by simp)]))
        go_wp2
        obtain ⟨q0, q1, _, _⟩ := (hbx.set2 (.int .u64 0) (.slice none 0 0)).two
        exact bodyPost_ret (v := noBatch) (by simp [results, Try.results21, go_sem, q0, q1]) rfl ⟨by rw [Hn.out]; rfl, below_set2 (hb) (Nat.le_refl _) _ _⟩
    · obtain rfl : k = nn := by omega
      obtain ⟨ad, cc, hu, hops, _⟩ := hown.is opCells_len
      subst hu
      have Hops := Lib.hid (OpsAt.of hops)
      clear hops
      have hlk := Hlk.out
      have HC := Lib.hid (fun wx (hx : Below wr.heap.size wr wx) => refEncode_any seq ad cc l wx Hseq.out (by omega) (Hops.out.up hx))
      rw [hlk] at HC
      have Hdt := Lib.hid (show res = if P.chk seq l = 0 ∧ P.enc seq l = s then some (seq, l) else none by
        rw [HD.out, Hro.out, Nat.sub_self]; rfl)
      by_cases hck : P.chk seq l = 0
      · rw [show P.encS seq l = P.enc seq l by unfold P.encS; rw [if_pos hck], hck] at HC
        by_cases hen : P.enc seq l = s
        · have Hn := Lib.hid (show res = some (seq, l) by rw [Hdt.out, if_pos ⟨hck, hen⟩])
          rw [hen] at HC
          clear hck Hdt HD hen
          go_wp2_with (go_at_call 17; (with_reducible refine (HC.out _ (Below.refl _ _)).mono ?_); rintro e w3 ⟨rfl, hb3⟩; have hbx3 := hbx.up hb3; have hbb3 := hbb.up hb3; obtain ⟨x0', x1', f0', f1'⟩ := hbx3.two; obtain ⟨y0', y1', g0', g1'⟩ := hbb3.two)
          obtain ⟨z0, z1, _, _⟩ := (hbx3.set2 (.int .u64 seq) (.slice ad k cc)).two
          exact bodyPost_ret (v := .tuple #[batchV seq ad k cc, .bool true]) (by simp [results, Try.results21, go_sem, z0, z1]) rfl ⟨by rw [Hn.out]; exact ⟨ad, cc, by rw [Hlk.out], OpsAt.of ((((OwnR.up hown hb3).other (Nat.lt_succ_of_lt Hl0.out) 0 _).other (Nat.lt_succ_of_lt Hl0.out) 1 _).at opCells_len)⟩, below_set2 (Chain.up hb hb3) (Nat.le_refl _) _ _⟩
        · have Hn := Lib.hid (show res = none by rw [Hdt.out, if_neg (fun h => hen h.2)])
          have he1 : (P.enc seq l == s) = false := beq_eq_false_iff_ne.2 hen
          have he2 : (P.enc seq l != s) = true := by rw [bne, he1]; rfl
          generalize P.enc seq l = en at *
          clear hck Hdt HD hen
          go_wp2_with (go_at_call 17; (with_reducible refine (HC.out _ (Below.refl _ _)).mono ?_); rintro e w3 ⟨rfl, hb3⟩; have hbx3 := hbx.up hb3; obtain ⟨x0', x1', f0', f1'⟩ := hbx3.two)
          obtain ⟨q0, q1, _, _⟩ := (hbx3.set2 (.int .u64 0) (.slice none 0 0)).two
          exact bodyPost_ret (v := noBatch) (by simp [results, Try.results21, go_sem, q0, q1]) rfl ⟨by rw [Hn.out]; rfl, below_set2 (Chain.up hb hb3) (Nat.le_refl _) _ _⟩
      · have Hn := Lib.hid (show res = none by rw [Hdt.out, if_neg (fun h => hck h.1)])
        have hckb : ((P.chk seq l : Int) == 0) = false := beq_eq_false_iff_ne.2 (by omega)
        have hckc : ((P.chk seq l : Int) != 0) = true := by rw [bne, hckb]; rfl
        generalize P.chk seq l = ck at *
        generalize P.encS seq l = en at *
        clear hck Hdt HD
        go_wp2_with (go_at_call 17; (with_reducible refine (HC.out _ (Below.refl _ _)).mono ?_); rintro e w3 ⟨rfl, hb3⟩; have hbx3 := hbx.up hb3; obtain ⟨x0', x1', f0', f1'⟩ := hbx3.two)
        obtain ⟨q0, q1, _, _⟩ := (hbx3.set2 (.int .u64 0) (.slice none 0 0)).two
        exact bodyPost_ret (v := noBatch) (by simp [results, Try.results21, go_sem, q0, q1]) rfl ⟨by rw [Hn.out]; rfl, below_set2 (Chain.up hb hb3) (Nat.le_refl _) _ _⟩

theorem refDecode_any (s : List UInt8) (w : World) (hs : s.length ≤ 1000000) :
    Calls Try.prog 21 #[S s] w fun e w' => DecR (P.dec s) e w' ∧ Below w.heap.size w w' := by
  rw [← P.decL_eq]
  cases hok : P.rOk s with
  | false =>
    refine (refDecode_no1 s w hs hok).mono ?_
    rintro e w' ⟨rfl, hb⟩
    refine ⟨?_, hb⟩
    unfold P.decL
    rw [hok]
    exact rfl
  | true =>
    by_cases h2 : P.rOk (s.drop (P.rSize s)) = true ∧ P.rNum (s.drop (P.rSize s)) ≤ 16
    · exact refDecode_loop s w hs hok h2.1 h2.2
    · refine (refDecode_no2 s w hs hok h2).mono ?_
      rintro e w' ⟨rfl, hb⟩
      refine ⟨?_, hb⟩
      unfold P.decL
      rw [if_neg (fun h => h2 h.2)]
      exact rfl
end Go.Proofs.Ytoaecmaphpnolaa
