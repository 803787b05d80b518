/- The walk of batch.Encode. -/
import Derived.Test.YtoaecmaphpnolaaWLast
namespace Go.Proofs.Ytoaecmaphpnolaa
open Go.RowKit
set_option linter.unusedVariables false

theorem text_one (k : List UInt8) (hk : k.length ≤ 20000) (w : World) (g : Nat) (hg : g = w.heap.size) :
    Calls Try.prog 25 #[.slice (some ⟨g, 0, none⟩) 1 1] (w.alloc (.cells #[S k] 9)) fun e w' => e = .returned (S (P.texts [k])) ∧ Below w.heap.size w w' := by
  subst hg
  have h := texts_any (some ⟨w.heap.size, 0, none⟩) 1 [k] (w.alloc (.cells #[S k] 9)) (by simp) (by simp [P.total]; omega) (strs_new w _ _ _ rfl)
  exact h.mono fun e w' ⟨he, hb⟩ => ⟨he, ((Below.refl _ _).alloc (Nat.le_refl _) _).trans (hb.mono (by simp))⟩
theorem text_two (k v : List UInt8) (hk : k.length + v.length ≤ 20000) (w : World) (g : Nat) (hg : g = w.heap.size) :
    Calls Try.prog 25 #[.slice (some ⟨g, 0, none⟩) 2 2] (w.alloc (.cells #[S k, S v] 9)) fun e w' => e = .returned (S (P.texts [k, v])) ∧ Below w.heap.size w w' := by
  subst hg
  have h := texts_any (some ⟨w.heap.size, 0, none⟩) 2 [k, v] (w.alloc (.cells #[S k, S v] 9)) (by simp) (by simp [P.total]; omega) (strs_new w _ _ _ rfl)
  exact h.mono fun e w' ⟨he, hb⟩ => ⟨he, ((Below.refl _ _).alloc (Nat.le_refl _) _).trans (hb.mono (by simp))⟩
theorem var_two (n m : Nat) (hn : n < 18446744073709551616) (hm : m < 18446744073709551616) (w : World) (g : Nat) (hg : g = w.heap.size) :
    Calls Try.prog 24 #[.slice (some ⟨g, 0, none⟩) 2 2] (w.alloc (.cells #[V64 n, V64 m] 25)) fun e w' => e = .returned (S (P.vars [n, m])) ∧ Below w.heap.size w w' := by
  subst hg
  have h := var_any (some ⟨w.heap.size, 0, none⟩) 2 [n, m] (w.alloc (.cells #[V64 n, V64 m] 25)) (by simp) (by simpa using ⟨hn, hm⟩) (nums_new w _ _ _ rfl)
  exact h.mono fun e w' ⟨he, hb⟩ => ⟨he, ((Below.refl _ _).alloc (Nat.le_refl _) _).trans (hb.mono (by simp))⟩
/-- The bytes and the error's number. -/
def P.encS (seq : Nat) (l : List P.Op) : List UInt8 := if P.chk seq l = 0 then P.enc seq l else []
theorem P.opRow_len (o : P.Op) (hk : o.key.length ≤ 64) (hv : o.val.length ≤ 512) : (P.opRow o).length ≤ 600 := by
  have h1 := P.row_len9 o.key.length
  have h2 := P.row_len9 o.val.length
  unfold P.opRow
  split
  · rw [P.texts_one]; simp; omega
  · rw [P.texts_two]; simp; omega

attribute [local go_sem] str_app

set_option maxRecDepth 100000 in
set_option maxHeartbeats 4000000 in
theorem encode_no (seq : Nat) (a : Option Addr) (c : Nat) (l : List P.Op) (w : World) (hs : seq < 18446744073709551616) (hl : l.length ≤ 9223372036854775807) (hp : OpsAt w a l) (hno : ¬ P.chk seq l = 0) :
    Calls Try.prog 9 #[batchV seq a l.length c] w fun e w' => e = .returned (.tuple #[S [], .int .i64 (P.chk seq l)]) ∧ Below w.heap.size w w' := by
  have HC := Lib.hid (fun wx (hx : Below w.heap.size w wx) => check_of seq a c l wx hs hl (hp.up hx))
  have h0 : Below w.heap.size w (w.alloc (.cells #[V64 seq, .slice a l.length c] 27)) := (Below.refl _ _).alloc (Nat.le_refl _) _
  have hne : ¬ (P.chk seq l : Int) = 0 := by omega
  have hneb : ((P.chk seq l : Int) == 0) = false := beq_eq_false_iff_ne.2 hne
  generalize P.chk seq l = k at *
  clear hp hno
  go_enter Try.func9, Try.ntmps9
  go_wp2_with (go_at_call 10; (with_reducible refine (HC.out _ h0).mono ?_); rintro e w1 ⟨rfl, hb1⟩; obtain ⟨x0, x1, hs1, hc1⟩ := box2 hb1)
  exact bodyPost_ret (v := .tuple #[S [], .int .i64 k]) (by simp [results, Try.results9, go_sem]) rfl ⟨rfl, hc1⟩

set_option maxRecDepth 100000 in
set_option maxHeartbeats 4000000 in
theorem encode_ok (seq : Nat) (a : Option Addr) (c : Nat) (l : List P.Op) (w : World) (hs : seq < 18446744073709551616) (hl : l.length ≤ 9223372036854775807) (hp : OpsAt w a l) (hyes : P.chk seq l = 0) :
    Calls Try.prog 9 #[batchV seq a l.length c] w fun e w' => e = .returned (.tuple #[S (P.enc seq l), .int .i64 0]) ∧ Below w.heap.size w w' := by
  have HC := Lib.hid (fun wx (hx : Below w.heap.size w wx) => check_of seq a c l wx hs hl (hp.up hx))
  have h0 : Below w.heap.size w (w.alloc (.cells #[V64 seq, .slice a l.length c] 27)) := (Below.refl _ _).alloc (Nat.le_refl _) _
  obtain ⟨k1, k2, k3, k4, k5⟩ := P.chk_ok hyes
  rw [hyes] at HC
  have HV := Lib.hid (fun wx g hg => var_two seq l.length hs (by omega) wx g hg)
  have Hop := Lib.hid hp
  have Hk5 := Lib.hid k5
  have hvl : (P.vars [seq, l.length]).length ≤ 18 := by have := P.vars_len [seq, l.length]; simpa using this
  have Henc := Lib.hid (show P.enc seq l = P.vars [seq, l.length] ++ P.opRows l from rfl)
  generalize P.vars [seq, l.length] = vs at *
  have hwn : IntKind.u64.wrap (l.length : Int) = (l.length : Int) := by rw [IntKind.wrap_u64]; omega
  have Hs := Lib.hid hs
  clear hp hyes k5 k3 k4 hs
  go_enter Try.func9, Try.ntmps9
  go_wp2_with (first
    | (go_at_call 10; (with_reducible refine (HC.out _ h0).mono ?_); rintro e w1 ⟨rfl, hb1⟩; obtain ⟨x0, x1, hs1, hc1⟩ := box2 hb1; have hf := Bld.fresh w1; have hba := (Below.refl w1.heap.size w1).alloc (Nat.le_refl _) (.cells #[.pointer none, .slice none 0 0] 58); have y0 := cell_up hba x0; have y1 := cell_up hba x1)
    | (go_at_call 24; (with_reducible refine (HV.out _ _ ?hg).mono ?_); (case hg => simp); rintro e w2 ⟨rfl, hb2⟩; have hf2 := hf.up hb2; have hc2 := hba.trans (hb2.mono hba.size); have z0 := cell_up hb2 y0; have z1 := cell_up hb2 y1)
    | (go_at_call 23; (with_reducible refine (write_any _ _ [] vs _ hf2 ?hl ?hB).mono ?_); (case hl => simp; omega); (case hB => exact hc2.size); rintro e w3 ⟨rfl, hbld3, hb3, hk3⟩; have hc3 := hc2.trans hb3; have u0 := cell_up hc3 x0; have u1 := cell_up hc3 x1))
  have Hk1 := Lib.hid k1
  clear hf hba y0 y1 hf2 hc2 z0 z1 hb1 hb2 hb3 hk3 x0 x1 u0 u1
  go_loopw [25] (fun i wr => ∃ k : Nat, k ≤ l.length ∧ i = .int .i64 k ∧ Bld wr w1.heap.size w1.heap.size (vs ++ P.opRows (l.take k)) ∧ Below w1.heap.size w1 wr) (fun i _ => l.length - (intOf i).toNat)
  case atStart => exact ⟨0, by omega, rfl, by simpa [P.opRows] using hbld3, hc3⟩
  case round =>
    clear hbld3 hc3
    obtain ⟨k, hk, rfl, hbld, hb⟩ := hrel
    by_cases hlt : k < l.length
    · obtain ⟨b, o, rfl, hbb, q0, q1, q2⟩ := Hop.out k hlt
      have hcw := Chain.up hc1 hb
      have c0 := (hcw.cell (p := ⟨b, o + k * 3, none⟩) hbb).trans q0
      have c1 := (hcw.cell (p := ⟨b, o + k * 3 + 1, none⟩) hbb).trans q1
      have c2 := (hcw.cell (p := ⟨b, o + k * 3 + 2, none⟩) hbb).trans q2
      clear q0 q1 q2
      have hk5 := Hk5.out l[k] (List.getElem_mem hlt)
      have Hnx := Lib.hid (show P.opRows (l.take (k + 1)) = P.opRows (l.take k) ++ P.opRow l[k] by rw [List.take_succ_eq_append_getElem hlt, P.opRows_snoc])
      have hrl : (P.opRows (l.take k)).length ≤ 600 * k := by
        have : ∀ m : List P.Op, (∀ o ∈ m, o.key.length ≤ 64 ∧ o.val.length ≤ 512) → (P.opRows m).length ≤ 600 * m.length := by
          intro m
          induction m with
          | nil => intro _; simp [P.opRows]
          | cons o m ih =>
            intro h
            have h1 := P.opRow_len o (h o (List.mem_cons_self ..)).1 (h o (List.mem_cons_self ..)).2
            have h2 := ih (fun q hq => h q (List.mem_cons_of_mem _ hq))
            rw [P.opRows_cons, List.length_append, List.length_cons]
            omega
        have h := this (l.take k) (fun o ho => ⟨(Hk5.out o (List.mem_of_mem_take ho)).2.1, (Hk5.out o (List.mem_of_mem_take ho)).2.2.1⟩)
        rw [List.length_take] at h
        omega
      have hol := P.opRow_len l[k] hk5.2.1 hk5.2.2.1
      generalize P.opRows (l.take k) = rs at *
      generalize l[k] = q at *
      obtain ⟨kk, vv, gg⟩ := q
      simp only at c0 c1 c2 hk5 hol
      cases gg with
      | true =>
        obtain rfl : vv = [] := hk5.2.2.2 rfl
        have HT := Lib.hid (fun w g hg => text_one kk (by omega) w g hg)
        rw [show P.opRow ⟨kk, [], true⟩ = 1 :: P.texts [kk] from rfl] at Hnx hol
        generalize P.texts [kk] = tx at *
        have hol2 : tx.length ≤ 600 := by simp at hol; omega
        have hadd : ¬ 9223372036854775807 < 1 + tx.length := by omega
        go_wp2_with (first
          | (go_at_call 25; (with_reducible refine (HT.out _ _ ?hg).mono ?_); (case hg => simp); rintro e w4 ⟨rfl, hb4⟩; have hbx := (Below.refl wr.heap.size wr).alloc (Nat.le_refl _) (.cells #[S kk, S [], .bool true] 24); have hbl4 := (hbld.up hbx).up hb4; have hc4 := hbx.trans (hb4.mono hbx.size))
          | (go_at_call 23; (with_reducible refine (write_any _ _ _ _ _ hbl4 ?hl ?hB).mono ?_); (case hl => simp; omega); (case hB => have := hb.size; have := hc4.size; omega); rintro e w5 ⟨rfl, hbl5, hb5, hk5⟩))
        go_roundw
        case rel => exact ⟨k + 1, by omega, by go_num, by rw [Hnx.out, ← List.append_assoc]; exact hbl5, (Chain.up hb hc4).trans hb5⟩
        case measure => simp [intOf]; omega
      | false =>
        have HT := Lib.hid (fun w g hg => text_two kk vv (by omega) w g hg)
        rw [show P.opRow ⟨kk, vv, false⟩ = 0 :: P.texts [kk, vv] from rfl] at Hnx hol
        generalize P.texts [kk, vv] = tx at *
        have hol2 : tx.length ≤ 600 := by simp at hol; omega
        have hadd : ¬ 9223372036854775807 < 1 + tx.length := by omega
        go_wp2_with (first
          | (go_at_call 25; (with_reducible refine (HT.out _ _ ?hg).mono ?_); (case hg => simp); rintro e w4 ⟨rfl, hb4⟩; have hbx := (Below.refl wr.heap.size wr).alloc (Nat.le_refl _) (.cells #[S kk, S vv, .bool false] 24); have hbl4 := (hbld.up hbx).up hb4; have hc4 := hbx.trans (hb4.mono hbx.size))
          | (go_at_call 23; (with_reducible refine (write_any _ _ _ _ _ hbl4 ?hl ?hB).mono ?_); (case hl => simp; omega); (case hB => have := hb.size; have := hc4.size; omega); rintro e w5 ⟨rfl, hbl5, hb5, hk5⟩))
        go_roundw
        case rel => exact ⟨k + 1, by omega, by go_num, by rw [Hnx.out, ← List.append_assoc]; exact hbl5, (Chain.up hb hc4).trans hb5⟩
        case measure => simp [intOf]; omega
    · obtain rfl : k = l.length := by omega
      rw [List.take_length, ← Henc.out] at hbld
      have HS := Lib.hid (fun wx hx hB => string_any w1.heap.size w1.heap.size (P.enc seq l) wx hx hB)
      generalize hen : P.enc seq l = en at *
      go_wp2_with (go_at_call 26; (with_reducible refine (HS.out _ hbld hb.size).mono ?_); rintro e w6 ⟨rfl, hb6⟩)
      exact bodyPost_ret (v := .tuple #[S en, .int .i64 0]) (by simp [results, Try.results9, go_sem]) rfl ⟨by rw [hen], Chain.up hc1 (hb.trans hb6)⟩

theorem encode_any (seq : Nat) (a : Option Addr) (c : Nat) (l : List P.Op) (w : World) (hs : seq < 18446744073709551616) (hl : l.length ≤ 9223372036854775807) (hp : OpsAt w a l) :
    Calls Try.prog 9 #[batchV seq a l.length c] w fun e w' => e = .returned (.tuple #[S (P.encS seq l), .int .i64 (P.chk seq l)]) ∧ Below w.heap.size w w' := by
  by_cases h : P.chk seq l = 0
  · have e := encode_ok seq a c l w hs hl hp h
    unfold P.encS
    rw [h, if_pos rfl]
    exact e
  · have e := encode_no seq a c l w hs hl hp h
    unfold P.encS
    rw [if_neg h]
    exact e
end Go.Proofs.Ytoaecmaphpnolaa
