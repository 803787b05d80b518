/- The walks of the document's Encode, of Given and of Same. -/
import Derived.Test.YtoaecmaphpnolaaWRefB
import Derived.Deep.RegionHeld3
namespace Go.Proofs.Ytoaecmaphpnolaa
open Go.RowKit
set_option linter.unusedVariables false

theorem refText_one (k : List UInt8) (hk : k.length ≤ 20000) (w : World) (g : Nat) (hg : g = w.heap.size) :
    Calls Try.prog 33 #[.slice (some ⟨g, 0, none⟩) 1 1] (w.alloc (.cells #[S k] 9)) fun e w' => e = .returned (S (P.texts [k])) ∧ Below w.heap.size w w' := by
  subst hg
  have h := refTexts_any (some ⟨w.heap.size, 0, none⟩) 1 [k] (w.alloc (.cells #[S k] 9)) (by simp) (by simp [P.total]; omega) (strs_new w _ _ _ rfl)
  exact h.mono fun e w' ⟨he, hb⟩ => ⟨he, ((Below.refl _ _).alloc (Nat.le_refl _) _).trans (hb.mono (by simp))⟩
theorem refText_two (k v : List UInt8) (hk : k.length + v.length ≤ 20000) (w : World) (g : Nat) (hg : g = w.heap.size) :
    Calls Try.prog 33 #[.slice (some ⟨g, 0, none⟩) 2 2] (w.alloc (.cells #[S k, S v] 9)) fun e w' => e = .returned (S (P.texts [k, v])) ∧ Below w.heap.size w w' := by
  subst hg
  have h := refTexts_any (some ⟨w.heap.size, 0, none⟩) 2 [k, v] (w.alloc (.cells #[S k, S v] 9)) (by simp) (by simp [P.total]; omega) (strs_new w _ _ _ rfl)
  exact h.mono fun e w' ⟨he, hb⟩ => ⟨he, ((Below.refl _ _).alloc (Nat.le_refl _) _).trans (hb.mono (by simp))⟩

theorem P.opRows_len : ∀ m : List P.Op, (∀ o ∈ m, o.key.length ≤ 64 ∧ o.val.length ≤ 512) → (P.opRows m).length ≤ 600 * m.length
  | [], _ => by simp [P.opRows]
  | o :: m, h => by
    have h1 := P.opRow_len o (h o (List.mem_cons_self ..)).1 (h o (List.mem_cons_self ..)).2
    have h2 := P.opRows_len m (fun q hq => h q (List.mem_cons_of_mem _ hq))
    rw [P.opRows_cons, List.length_append, List.length_cons]
    omega

attribute [local go_sem] str_app

set_option maxRecDepth 100000 in
set_option maxHeartbeats 4000000 in
theorem refEncode_no (seq : Nat) (a : Option Addr) (c : Nat) (l : List P.Op) (w : World) (hs : seq < 18446744073709551616) (hl : l.length ≤ 9223372036854775807) (hp : OpsAt w a l) (hno : ¬ P.chk seq l = 0) :
    Calls Try.prog 17 #[batchV seq a l.length c] w fun e w' => e = .returned (.tuple #[S [], .int .i64 (P.chk seq l)]) ∧ Below w.heap.size w w' := by
  have HC := Lib.hid (fun wx (hx : Below w.heap.size w wx) => refCheck_of seq a c l wx hs hl (hp.up hx))
  have h0 : Below w.heap.size w (w.alloc (.cells #[V64 seq, .slice a l.length c] 43)) := (Below.refl _ _).alloc (Nat.le_refl _) _
  have hne : ¬ (P.chk seq l : Int) = 0 := by omega
  have hneb : ((P.chk seq l : Int) == 0) = false := beq_eq_false_iff_ne.2 hne
  generalize P.chk seq l = k at *
  clear hp hno
  go_enter Try.func17, Try.ntmps17
  go_wp2_with (go_at_call 20; (with_reducible refine (HC.out _ h0).mono ?_); rintro e w1 ⟨rfl, hb1⟩; obtain ⟨x0, x1, hs1, hc1⟩ := box2 hb1)
  exact bodyPost_ret (v := .tuple #[S [], .int .i64 k]) (by simp [results, Try.results17, go_sem]) rfl ⟨rfl, hc1⟩

set_option maxRecDepth 100000 in
set_option maxHeartbeats 8000000 in
theorem refEncode_ok (seq : Nat) (a : Option Addr) (c : Nat) (l : List P.Op) (w : World) (hs : seq < 18446744073709551616) (hl : l.length ≤ 9223372036854775807) (hp : OpsAt w a l) (hyes : P.chk seq l = 0) :
    Calls Try.prog 17 #[batchV seq a l.length c] w fun e w' => e = .returned (.tuple #[S (P.enc seq l), .int .i64 0]) ∧ Below w.heap.size w w' := by
  have HC := Lib.hid (fun wx (hx : Below w.heap.size w wx) => refCheck_of seq a c l wx hs hl (hp.up hx))
  have h0 : Below w.heap.size w (w.alloc (.cells #[V64 seq, .slice a l.length c] 43)) := (Below.refl _ _).alloc (Nat.le_refl _) _
  obtain ⟨k1, k2, k3, k4, k5⟩ := P.chk_ok hyes
  rw [hyes] at HC
  have HV := Lib.hid (fun wx => row_any seq hs wx)
  have HW := Lib.hid (fun wx => row_any l.length (by omega) wx)
  have Hop := Lib.hid hp
  have Hk5 := Lib.hid k5
  have hvl := P.row_len9 seq
  have hvl2 := P.row_len9 l.length
  have Henc := Lib.hid (show P.enc seq l = P.row seq ++ P.row l.length ++ P.opRows l by rw [P.enc_is, List.append_assoc])
  generalize P.row seq = r1 at *
  generalize P.row l.length = r2 at *
  have hwn : IntKind.u64.wrap (l.length : Int) = (l.length : Int) := by rw [IntKind.wrap_u64]; omega
  have hadd0 : ¬ 9223372036854775807 < r1.length + r2.length := by omega
  have Hs := Lib.hid hs
  clear hp hyes k5 k3 k4 hs
  go_enter Try.func17, Try.ntmps17
  go_wp2_with (go_at_call 20; (with_reducible refine (HC.out _ h0).mono ?_); rintro e w1 ⟨rfl, hb1⟩; have hbx1 := (Bx.fresh w 43 #[V64 seq, .slice a l.length c]).up hb1; have hc1 : Below w.heap.size w w1 := ((Below.refl _ _).alloc (Nat.le_refl _) _).trans (hb1.mono (by simp)))
  go_region_held3 (fun wx => Below w.heap.size w wx ∧ Bx wx w.heap.size 43 #[V64 seq, .slice a l.length c] ∧ wx.cell? ⟨w.heap.size, 0, none⟩ = some (V64 seq) ∧ wx.cell? ⟨w.heap.size, 1, none⟩ = some (.slice a l.length c))
    (first | exact ⟨hc1.drew, hbx1.drew, hbx1.two.1, hbx1.two.2.1⟩ | (go_split_ands; exact ⟨Chain.up (by assumption) hbL, Bx.up (by assumption) hbL, (Bx.up (by assumption) hbL).two.1, (Bx.up (by assumption) hbL).two.2.1⟩))
    (first
      | (go_at_call 32; (with_reducible refine (HV.out _).mono ?_); rintro e w2 ⟨rfl, hbL⟩)
      | (go_at_call 32; (with_reducible refine (HW.out _).mono ?_); rintro e w2 ⟨rfl, hbL⟩))
  obtain ⟨hb2, hbx2, _, _⟩ : Below w.heap.size w w2 ∧ Bx w2 w.heap.size 43 #[V64 seq, .slice a l.length c] ∧ w2.cell? ⟨w.heap.size, 0, none⟩ = some (V64 seq) ∧ w2.cell? ⟨w.heap.size, 1, none⟩ = some (.slice a l.length c) := by assumption
  have hvl3 : (r1 ++ r2).length ≤ 18 := by rw [List.length_append]; omega
  have Hk1 := Lib.hid k1
  go_wp2
  clear h0 hb1 hbx1 hc1 hadd0
  generalize r1 ++ r2 = vs at *
  go_loopw [5, 6] (fun s i wr => ∃ k : Nat, k ≤ l.length ∧ i = .int .i64 k ∧ s = S (vs ++ P.opRows (l.take k)) ∧ Bx wr w.heap.size 43 #[V64 seq, .slice a l.length c] ∧ Below w.heap.size w wr) (fun _ i _ => l.length - (intOf i).toNat)
  case atStart => exact ⟨0, by omega, rfl, by simp [P.opRows], hbx2, hb2⟩
  case round =>
    clear hbx2 hb2
    obtain ⟨k, hk, rfl, rfl, hbx, hb⟩ := hrel
    obtain ⟨y0, y1, _, _⟩ := hbx.two
    by_cases hlt : k < l.length
    · obtain ⟨b, o, rfl, hbb, q0, q1, q2⟩ := Hop.out k hlt
      have c0 := (hb.cell (p := ⟨b, o + k * 3, none⟩) hbb).trans q0
      have c1 := (hb.cell (p := ⟨b, o + k * 3 + 1, none⟩) hbb).trans q1
      have c2 := (hb.cell (p := ⟨b, o + k * 3 + 2, none⟩) hbb).trans q2
      clear q0 q1 q2
      have hk5 := Hk5.out l[k] (List.getElem_mem hlt)
      have Hnx := Lib.hid (show P.opRows (l.take (k + 1)) = P.opRows (l.take k) ++ P.opRow l[k] by rw [List.take_succ_eq_append_getElem hlt, P.opRows_snoc])
      have hrl := P.opRows_len (l.take k) (fun o ho => ⟨(Hk5.out o (List.mem_of_mem_take ho)).2.1, (Hk5.out o (List.mem_of_mem_take ho)).2.2.1⟩)
      rw [List.length_take] at hrl
      have hrl2 : (P.opRows (l.take k)).length ≤ 9600 := by omega
      clear hrl
      have hol := P.opRow_len l[k] hk5.2.1 hk5.2.2.1
      generalize P.opRows (l.take k) = rs at *
      generalize l[k] = q at *
      obtain ⟨kk, vv, gg⟩ := q
      simp only at c0 c1 c2 hk5 hol
      have Hk5q := Lib.hid hk5
      clear hk5
      have hvr : (vs ++ rs).length ≤ 9700 := by rw [List.length_append]; omega
      have Hap : ∀ x, Hid (vs ++ (rs ++ x) = (vs ++ rs) ++ x) := fun x => Lib.hid (by rw [List.append_assoc])
      generalize hgv : vs ++ rs = vr at *
      have Hgv := Lib.hid hgv
      clear hgv
      cases gg with
      | true =>
        obtain rfl : vv = [] := Hk5q.out.2.2.2 rfl
        have HT := Lib.hid (fun w g hg => refText_one kk (by have := Hk5q.out; omega) w g hg)
        rw [show P.opRow ⟨kk, [], true⟩ = [1] ++ P.texts [kk] from rfl] at Hnx hol
        generalize P.texts [kk] = tx at *
        have hol2 : tx.length ≤ 600 := by simp at hol; omega
        have hadd1 : ¬ 9223372036854775807 < vr.length + 1 := by omega
        have hadd2 : ¬ 9223372036854775807 < (vr ++ [1]).length + tx.length := by rw [List.length_append]; simp; omega
        have hadd3 : ¬ 9223372036854775807 < vr.length + 1 + tx.length := by omega
        have hba := (Below.refl wr.heap.size wr).alloc (Nat.le_refl _) (.cells #[S kk, S [], .bool true] 24)
        go_wp2_with (go_at_call 33; (with_reducible refine (HT.out _ _ ?hg).mono ?_); (case hg => simp); rintro e w4 ⟨rfl, hb4⟩)
        go_roundw
        case rel => exact ⟨k + 1, by omega, by go_num, by rw [Hnx.out, (Hap _).out]; rfl, (hbx.up hba).up hb4, Chain.up (Chain.up hb hba) hb4⟩
        case measure => simp [intOf]; omega
      | false =>
        have HT := Lib.hid (fun w g hg => refText_two kk vv (by have := Hk5q.out; omega) w g hg)
        rw [show P.opRow ⟨kk, vv, false⟩ = [0] ++ P.texts [kk, vv] from rfl] at Hnx hol
        generalize P.texts [kk, vv] = tx at *
        have hol2 : tx.length ≤ 1200 := by simp at hol; omega
        have hadd1 : ¬ 9223372036854775807 < vr.length + 1 := by omega
        have hadd2 : ¬ 9223372036854775807 < (vr ++ [0]).length + tx.length := by rw [List.length_append]; simp; omega
        have hadd3 : ¬ 9223372036854775807 < vr.length + 1 + tx.length := by omega
        have hba := (Below.refl wr.heap.size wr).alloc (Nat.le_refl _) (.cells #[S kk, S vv, .bool false] 24)
        go_wp2_with (go_at_call 33; (with_reducible refine (HT.out _ _ ?hg).mono ?_); (case hg => simp); rintro e w4 ⟨rfl, hb4⟩)
        go_roundw
        case rel => exact ⟨k + 1, by omega, by go_num, by rw [Hnx.out, (Hap _).out]; rfl, (hbx.up hba).up hb4, Chain.up (Chain.up hb hba) hb4⟩
        case measure => simp [intOf]; omega
    · obtain rfl : k = l.length := by omega
      rw [List.take_length, ← Henc.out]
      generalize hen : P.enc seq l = en at *
      go_wp2
      exact bodyPost_ret (v := .tuple #[S en, .int .i64 0]) (by simp [results, Try.results17, go_sem]) rfl ⟨by rw [hen], hb⟩

theorem refEncode_any (seq : Nat) (a : Option Addr) (c : Nat) (l : List P.Op) (w : World) (hs : seq < 18446744073709551616) (hl : l.length ≤ 9223372036854775807) (hp : OpsAt w a l) :
    Calls Try.prog 17 #[batchV seq a l.length c] w fun e w' => e = .returned (.tuple #[S (P.encS seq l), .int .i64 (P.chk seq l)]) ∧ Below w.heap.size w w' := by
  by_cases h : P.chk seq l = 0
  · have e := refEncode_ok seq a c l w hs hl hp h
    unfold P.encS
    rw [h, if_pos rfl]
    exact e
  · have e := refEncode_no seq a c l w hs hl hp h
    unfold P.encS
    rw [if_neg h]
    exact e

set_option maxRecDepth 100000 in
set_option maxHeartbeats 1000000 in
theorem given_any (seq : Nat) (a : Option Addr) (n c : Nat) (w : World) :
    Calls Try.prog 18 #[batchV seq a n c] w fun e w' => e = .returned (batchV seq a n c) ∧ Below w.heap.size w w' := by
  go_enter Try.func18, Try.ntmps18
  go_wp2
  exact bodyPost_ret (v := batchV seq a n c) (by simp [results, Try.results18, go_sem]) rfl ⟨rfl, ((Below.refl _ _).alloc (Nat.le_refl _) _).alloc (by simp) _⟩
end Go.Proofs.Ytoaecmaphpnolaa
